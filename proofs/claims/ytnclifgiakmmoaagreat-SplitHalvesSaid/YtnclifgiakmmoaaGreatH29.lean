/- Merged by bundles.py: SimPv, SimJk. -/
import Derived.Test.YtnclifgiakmmoaaGreatH28
/- Private memory: an answer that nobody else has, seen by calls; then written over. -/
namespace Go.Proofs.YtnclifgiakmmoaaGreat.Sim
set_option linter.unusedVariables false
set_option linter.unusedSimpArgs false
open Go.RowKit Mem
def rpOf (m : Mm) : Key → Value
  | .s [(b, o)] => match m b o with
    | some u => .tuple #[u]
    | none => undef
  | _ => undef
theorem jm_rp (m : Mm) : jmOf (rpOf m) = m := by
  funext b o
  unfold jmOf rpOf
  dsimp only
  cases m b o <;> rfl
theorem heap_lt {w w' : World} {b : Nat} (h : w'.heap[b]? = w.heap[b]?) (hb : b < w.heap.size) : b < w'.heap.size :=
  (Array.getElem?_eq_some_iff.1 (h.trans (Array.getElem?_eq_getElem hb))).1
/-- memory from n on, just so; below n as it stays -/
def PrivR (n : Nat) : Rsc where
  R w m S rp := (∀ b o u, jmOf rp b o = some u → n ≤ b → S b = true ∧ w.cell? ⟨b, o, none⟩ = some u ∧ nfB w b o = true) ∧ (∀ b o u, jmOf rp b o = some u → b < n → m b o = some u) ∧ ∀ b, S b = true → n ≤ b ∧ b < w.heap.size
  loc := fun hS hm ⟨h1, h2, h3⟩ => ⟨fun b o u hu hb => by
    obtain ⟨k1, k2, k3⟩ := h1 b o u hu hb
    exact ⟨k1, by rw [World.cell?_of_block (a := ⟨b, o, none⟩) (hS b k1)]; exact k2, by rw [nfB_eq (hS b k1)]; exact k3⟩, fun b o u hu hb => hm _ _ _ (h2 b o u hu hb), fun b hb => ⟨(h3 b hb).1, heap_lt (hS b hb) (h3 b hb).2⟩⟩
  lt := fun h hk => (h.2.2 _ hk).2
/-- a number may be another one -/
def Shp (u u' : Value) : Prop := u' = u ∨ ∃ k x x', u = .int k x ∧ u' = .int k x'
/-- memory from n on, its numbers perhaps written over -/
def JunkR (n : Nat) : Rsc where
  R w m S rp := (∀ b o u, jmOf rp b o = some u → n ≤ b → S b = true ∧ nfB w b o = true ∧ ∃ u', w.cell? ⟨b, o, none⟩ = some u' ∧ Shp u u') ∧ ∀ b, S b = true → b < w.heap.size
  loc := fun hS hm ⟨h1, h3⟩ => ⟨fun b o u hu hb => by
    obtain ⟨k1, k3, u', k2, k4⟩ := h1 b o u hu hb
    exact ⟨k1, by rw [nfB_eq (hS b k1)]; exact k3, u', by rw [World.cell?_of_block (a := ⟨b, o, none⟩) (hS b k1)]; exact k2, k4⟩, fun b hb => heap_lt (hS b hb) (h3 b hb)⟩
  lt := fun h hk => h.2 _ hk
section
variable {P : Program} {N : Nat} {Q : Exit → St → Prop} {ops : Array Oper} {rest : List Oper} {tm : List (Nat × A)} {bx : List (Nat × List A)} {ow : List (Nat × Own)} {o : Oper} {ρ : Operand → Option A}
open Classical in
/-- a call whose answer's new memory is nobody else's -/
theorem sops_priv {f : FuncId} {xs : List Operand} {at_ : Array TypeId} {ts : List T} {r : Nat → T} {d : Nat} (i : Nat) (hc : ∀ n, PCallsA P f ts n (r n)) (hg : GuardIs ops tm o true) (ho : o.op = .call { callee := .value (.func f), args := xs.toArray, argTypes := at_ }) (hd : o.dst = some d) (hN : Nat.blt d N = true) (ha : Args ow (evA tm) xs ts) (hi : get bx i = none)
    (h : ∀ n, SOps P N ops Q rest ⟨(d, .pr i (.t (r n))) :: tm, (i, [.rs (PrivR n)]) :: bx, ow⟩) (hch : chB i = true := by rfl) (hp : Nat.ble 2000 i = false := by rfl) : SOps P N ops Q (o :: rest) ⟨tm, bx, ow⟩ := by
  refine .mk fun C a w ⟨m, g, hr⟩ => ?_
  refine wpList_step fun K hK => ?_
  rw [if_pos (hg.wanted (m := m) (g := g) fun j want e _ _ y hy => hr.tmps e y hy)]
  obtain ⟨hl, hv⟩ := ha.ok hr.env (a := a) (fun x hx y hy => hr.ev hy)
  have hrun : (execOp a.eval o).run P w = .ok (.enter f (xs.map a.eval).toArray) w := by
    have := (hc 0).ent (xs.map a.eval).toArray w
    simp only [execOp, ho, resolve, Deferred.ofValue, Act.eval, invoke, Sem.run_bind, Sem.run_pure, Result.andThen_ok, List.map_toArray, Array.append_empty, Array.empty_append, Array.append_eq_append, List.append_nil, List.nil_append] at this ⊢
    simpa using this
  refine wp_call_of hrun ((hc w.heap.size).run m w _ hr.env.sub (by simp [hl]) (fun i t v h1 h2 => hv i t v h1 (by simpa using h2)) hr.env.gt (Nat.le_refl _)) fun e w' ⟨v, m', h1, h2, h3, h4, h5, h6⟩ => ⟨v, h1, hK _ _ ((h w.heap.size).go C _ _ ⟨m, g.addR i (fun b => decide (w.heap.size ≤ b ∧ ∃ q, m' b q ≠ none)) (rpOf m'), ?_⟩)⟩
  have he1 := hr.env.step h2 (Ext.refl m _) (hr.env.sub.lo h2) (NFx.refl _ _)
  have hli : g.lb i = false := by rw [hr.env.lb, hi]; rfl
  have he2 : EnvG C ((i, [.rs (PrivR w.heap.size)]) :: bx) ow w' m (g.addR i (fun b => decide (w.heap.size ≤ b ∧ ∃ q, m' b q ≠ none)) (rpOf m')) := by
    refine he1.addR hch hp hi ⟨fun b q u hu hb => ?_, fun b q u hu hb => ?_, fun b hb => ?_⟩ fun k hk => ?_
    · rw [jm_rp] at hu
      refine ⟨decide_eq_true ⟨hb, q, by rw [hu]; simp⟩, h4 b q u hu, ?_⟩
      rcases h6 b q u hu with k | k
      · have := hr.env.sub.lt k; omega
      · exact k
    · rw [jm_rp] at hu
      rw [← h3.2 b q hb]; exact hu
    · obtain ⟨k1, q, k2⟩ := of_decide_eq_true hb
      refine ⟨k1, ?_⟩
      cases hu : m' b q with
      | none => exact absurd hu k2
      | some u => exact h4.lt hu
    · obtain ⟨k1, _⟩ := of_decide_eq_true hk
      refine ⟨.inl (Nat.le_trans hr.env.lo.size k1), fun q => alloc_new_cells hr.env.sub k1, fun j cs hj hcj e => ?_, fun j o' hj e => ?_, fun j R' hcj hj => ?_⟩
      · obtain ⟨_, _, k2, _⟩ := hr.env.boxes j cs hj hcj
        have := block_lt k2; omega
      · obtain ⟨_, k2, _⟩ := hr.env.owns j o' hj
        have := (k2.lt k e).2; omega
      · cases hs : g.sf j k with
        | false => rfl
        | true => have := R'.lt (hr.env.rs.1 j R' hcj hj).1 hs; omega
  rw [hd]
  refine hr.put he2 (fun x v hx => ar_addR hli hx) (Nat.lt_of_succ_le (Nat.le_of_ble_eq_true hN)) ⟨hch, if_pos rfl, ?_⟩
  show PXR (jmOf (if i = i then rpOf m' else g.rp i)) (.t (r w.heap.size)) v
  rw [if_pos rfl, jm_rp]; exact h5
/-- what a slot reads as while nothing turns: private memory, too -/
inductive VwP (bx : List (Nat × List A)) : A → T → Prop
  | t (x : T) : VwP bx (.t x) x
  | nil (sz : Nat) : VwP bx (.t (.v (.slice none 0 0))) (.sl sz [])
  | pr {i n : Nat} {t t' : T} (hb : get bx i = some [.rs (PrivR n)]) (h : ∀ m v, TR m t v → TR m t' v) : VwP bx (.pr i (.t t)) t'
  | agn : VwP bx (.ag []) (.agg [])
  | agc {x : A} {t : T} {cs : List A} {ts : List T} (h : VwP bx x t) (hl : VwP bx (.ag cs) (.agg ts)) : VwP bx (.ag (x :: cs)) (.agg (t :: ts))
theorem VwP.ok {C : Ctx} {w : World} {m : Mm} {g : Gh} {x : A} {t : T} {v : Value} (h : VwP bx x t) (he : EnvG C bx ow w m g) (hx : AR m g x v) : TR (allw w) t v := by
  induction h generalizing v with
  | t x => exact TR.mono (allw_of he.sub) hx
  | nil sz =>
    have hx' : TR m (.v (.slice none 0 0)) v := hx
    cases hx'
    exact tr_nil _ sz (Nat.zero_le _)
  | @pr i n t t' hb h =>
    obtain ⟨h1, _, h3⟩ := hx
    obtain ⟨⟨k1, k2, _⟩, _⟩ := he.rs.1 i _ h1 hb
    refine h _ v (TR.mono (fun b q u hu => ?_) h3)
    by_cases hbn : n ≤ b
    · exact (k1 b q u hu hbn).2.1
    · exact he.sub _ _ _ (k2 b q u hu (by omega))
  | agn =>
    obtain ⟨vs, rfl, h1, _⟩ := hx
    have : vs = #[] := Array.eq_empty_of_size_eq_zero (by simpa using h1)
    subst this
    exact .agg [] #[] rfl (fun v hv => by simp at hv) (fun j t v h => by simp at h)
  | @agc x t cs ts h hl ih1 ih2 =>
    obtain ⟨u, us, rfl, h1, h2, h3⟩ := ag_cons hx
    exact tr_agg_cons (ih1 h1.two) h2 (ih2 h3)
inductive ArgsP (bx : List (Nat × List A)) (ρ : Operand → Option A) : List Operand → List T → Prop
  | nil : ArgsP bx ρ [] []
  | cons {x : Operand} {y : A} {t : T} {xs : List Operand} {ts : List T} (h : ρ x = some y) (hv : VwP bx y t) (hl : ArgsP bx ρ xs ts) : ArgsP bx ρ (x :: xs) (t :: ts)
theorem ArgsP.ok {C : Ctx} {w : World} {m : Mm} {g : Gh} {xs : List Operand} {ts : List T} (h : ArgsP bx ρ xs ts) (he : EnvG C bx ow w m g) {a : Act} (ha : ∀ x ∈ xs, ∀ y, ρ x = some y → AR m g y (a.eval x)) : xs.length = ts.length ∧ ∀ (i : Nat) t v, ts[i]? = some t → (xs.map a.eval)[i]? = some v → TR (allw w) t v := by
  induction h with
  | nil => exact ⟨rfl, fun i t v h => by simp at h⟩
  | @cons x y t xs ts h hv hl ih =>
    obtain ⟨h1, h2⟩ := ih fun x hx => ha x (by simp [hx])
    refine ⟨by simp [h1], fun i t' v h3 h4 => ?_⟩
    cases i with
    | zero => simp at h3 h4; subst h3 h4; exact hv.ok he (ha x (by simp) y h)
    | succ i => simp at h3; exact h2 i t' v h3 (by simpa using h4)
/-- a call that sees private memory, and answers data that hangs on no memory -/
theorem po_call_priv {f : FuncId} {xs : List Operand} {at_ : Array TypeId} {ts : List T} {t : T} (hc : PCalls P f ts t) (ho : o.op = .call { callee := .value (.func f), args := xs.toArray, argTypes := at_ }) (ha : ArgsP bx ρ xs ts) (hs : t.sc = true) : PureOp P bx ow o ρ (.t t) := by
  refine .mk fun C m g w a Q he h => ?_
  obtain ⟨hl, hv⟩ := ha.ok he (a := a) (fun x hx y hy => h x (by simp [ho, Op.operands, Call.operands, hx]) y hy)
  have hrun : (execOp a.eval o).run P w = .ok (.enter f (xs.map a.eval).toArray) w := by
    have := hc.ent (xs.map a.eval).toArray w
    simp only [execOp, ho, resolve, Deferred.ofValue, Act.eval, invoke, Sem.run_bind, Sem.run_pure, Result.andThen_ok, List.map_toArray, Array.append_empty, Array.empty_append, Array.append_eq_append, List.append_nil, List.nil_append] at this ⊢
    simpa using this
  exact wp_call_of hrun (hc.run (allw w) w _ (sub_allw w) (by simp [hl]) (fun i t v h1 h2 => hv i t v h1 (by simpa using h2)) (gt_allw he)) fun e w' ⟨v, m', h1, h2, h3, h4, h5, _⟩ => ⟨v, h1, v, m, rfl, h2, Ext.refl _ _, he.sub.lo h2, NFx.refl _ _, sc_any hs h5⟩
/-- the shape of marked data -/
inductive JOf (n : Nat) : T → J → Prop
  | any (t : T) : JOf n t .any
  | int (k : IntKind) (x : Int) : JOf n (.v (.int k x)) (.int k)
  | sl {sz : Nat} {rows : List (List T)} {rows' : List (List J)} (hl : rows'.length = rows.length) (hr : ∀ r ∈ rows', r.length = sz) (h : ∀ (k j : Nat) r r' t t', rows[k]? = some r → rows'[k]? = some r' → r[j]? = some t → r'[j]? = some t' → JOf n t t') : JOf n (.fr n (.sl sz rows)) (.sl sz rows')
theorem JOf.ok {n : Nat} {m : Mm} {t : T} {j : J} (h : JOf n t j) : ∀ {v : Value}, TR m t v → JR (abv n m) j v := by
  induction h with
  | any t => intro v _; exact .any v
  | int k x => intro v hv; cases hv; exact .int k x
  | @sl sz rows rows' hl hr h ih =>
    intro v hv
    cases hv with
    | fr _ _ _ h1 hb =>
      cases h1 with
      | sl _ _ A b off cap u hc hm hA hr2 hu ht =>
        have hat : ∀ (k j : Nat) r' t', rows'[k]? = some r' → r'[j]? = some t' → ∃ r t, rows[k]? = some r ∧ r[j]? = some t := fun k j r' t' h3 h4 => by
          have hk : k < rows.length := by rw [← hl]; exact (List.getElem?_eq_some_iff.1 h3).1
          have hj : j < (rows[k]).length := by
            rw [hr2 _ (List.getElem_mem hk), ← hr r' (List.mem_of_getElem? h3)]; exact (List.getElem?_eq_some_iff.1 h4).1
          exact ⟨rows[k], (rows[k])[j], List.getElem?_eq_getElem hk, List.getElem?_eq_getElem hj⟩
        rw [← hl]
        refine .sl sz rows' A b off cap u (by omega) hm (fun e => hA fun e2 => e (List.eq_nil_of_length_eq_zero (by rw [hl, e2]; rfl))) hr (fun k j r' t' h3 h4 => ?_) fun k j r' t' h3 h4 => ?_
        · obtain ⟨r, t, h5, h6⟩ := hat k j r' t' h3 h4
          obtain ⟨h7, h8⟩ := hu k j r t h5 h6
          have hne : rows ≠ [] := fun e => by rw [e] at h5; simp at h5
          have hA' := hA hne
          subst hA'
          have hnb := hb b off rows.length cap rfl (fun e => hne (List.eq_nil_of_length_eq_zero e))
          exact ⟨by unfold abv; rw [if_pos hnb]; exact h7, h8⟩
        · obtain ⟨r, t, h5, h6⟩ := hat k j r' t' h3 h4
          exact ih k j r r' t t' h5 h3 h6 h4 (ht k j r t h5 h6)
end
end Go.Proofs.YtnclifgiakmmoaaGreat.Sim

/- Private memory written over: its shape stays. -/
namespace Go.Proofs.YtnclifgiakmmoaaGreat.Sim
set_option linter.unusedVariables false
set_option linter.unusedSimpArgs false
open Go.RowKit Mem
theorem jr_shp {m : Mm} {j : J} {u u' : Value} (h : JR m j u) (hs : Shp u u') : JR m j u' := by
  rcases hs with rfl | ⟨k, x, x', rfl, rfl⟩
  · exact h
  · cases h with
    | any => exact .any _
    | int => exact .int k x'
theorem shp_one {u u' : Value} (h : u.oneCell' = true) (hs : Shp u u') : u'.oneCell' = true := by
  rcases hs with rfl | ⟨k, x, x', rfl, rfl⟩
  · exact h
  · rfl
section
variable {P : Program} {N : Nat} {Q : Exit → St → Prop} {ops : Array Oper} {rest : List Oper} {tm : List (Nat × A)} {bx : List (Nat × List A)} {ow : List (Nat × Own)} {o : Oper} {ρ : Operand → Option A}
/-- a box's cells said otherwise -/
theorem weak_bxG (i : Nat) {cs cs' : List A} (hb : get bx i = some cs) (hl : cs'.length = cs.length) (h : ∀ C w m g, EnvG C bx ow w m g → ∀ (j : Nat) x y v, cs[j]? = some x → cs'[j]? = some y → AR m g x v → AR m g y v) (hq : cellB i = true := by rfl) : Weak N ⟨tm, bx, ow⟩ ⟨tm, (i, cs') :: bx, ow⟩ := .mk fun C a w ⟨m, g, hr⟩ => by
  obtain ⟨vs, ty, h1, h2, h3, _⟩ := hr.env.boxes i cs hb (cell_ch hq)
  have h2' := h2.cell hq
  refine ⟨m, g, hr.env.setAtW (w' := w) hb ⟨rfl, rfl, rfl, Nat.le_refl _, fun _ _ _ => rfl⟩ h1 (.of (by rw [hl]; exact h2') (cell_win hq)) (fun j y v hy hv => ?_) (cell_ch hq), hr.size, hr.defers, hr.tmps⟩
  have hj : j < cs.length := by rw [← hl]; exact (List.getElem?_eq_some_iff.1 hy).1
  obtain ⟨h4, h5⟩ := h3 j _ v (List.getElem?_eq_getElem hj) hv
  exact ⟨h C w m g hr.env j _ y v (List.getElem?_eq_getElem hj) hy h4, h5⟩
/-- from now on only the shape is known -/
inductive JkA : A → A → Prop
  | keep (x : A) : JkA x x
  | pr {i n : Nat} {t : T} {j : J} (h : JOf n t j) : JkA (.pr i (.t t)) (.pr i (.j n j))
inductive JkL : List A → List A → Prop
  | nil : JkL [] []
  | cons {x y : A} {l l' : List A} (h : JkA x y) (hl : JkL l l') : JkL (x :: l) (y :: l')
theorem JkL.len {l l' : List A} (h : JkL l l') : l'.length = l.length := by
  induction h with
  | nil => rfl
  | cons _ _ ih => rw [List.length_cons, List.length_cons, ih]
theorem JkL.at {l l' : List A} (h : JkL l l') {j : Nat} {y : A} (hj : l'[j]? = some y) : ∃ x, l[j]? = some x ∧ JkA x y := by
  induction h generalizing j with
  | nil => simp at hj
  | cons h _ ih =>
    cases j with
    | zero => simp at hj; subst hj; exact ⟨_, rfl, h⟩
    | succ j => simp at hj; simpa using ih hj
theorem JkA.ok {m : Mm} {g : Gh} {x y : A} (h : JkA x y) {v : Value} (hx : AR m g x v) : AR m g y v := by
  cases h with
  | keep => exact hx
  | pr h => exact ⟨hx.1, hx.2.1, h.ok hx.2.2⟩
theorem weak_bxJ (i : Nat) {cs cs' : List A} (hb : get bx i = some cs) (h : JkL cs cs') (hq : cellB i = true := by rfl) : Weak N ⟨tm, bx, ow⟩ ⟨tm, (i, cs') :: bx, ow⟩ :=
  weak_bxG i hb h.len (fun C w m g he j x y v hx hy hv => by
    obtain ⟨x', h1, h2⟩ := h.at hy
    rw [hx] at h1; injection h1 with h1; subst h1
    exact h2.ok hv) hq
theorem weak_junk (i : Nat) {n : Nat} (hb : get bx i = some [.rs (PrivR n)]) (hc : chB i = true := by rfl) : Weak N ⟨tm, bx, ow⟩ ⟨tm, (i, [.rs (JunkR n)]) :: bx, ow⟩ := .mk fun C a w ⟨m, g, hr⟩ =>
  ⟨m, g, hr.env.turn hc hb (fun w m S rp ⟨h1, _, h3⟩ => ⟨fun b q u hu hbn => by
    obtain ⟨k1, k2, k3⟩ := h1 b q u hu hbn
    exact ⟨k1, k3, u, k2, .inl rfl⟩, fun b hb => (h3 b hb).2⟩), hr.size, hr.defers, hr.tmps⟩
theorem abv_spec {n : Nat} {m : Mm} {b q : Nat} {u : Value} (h : abv n m b q = some u) : n ≤ b ∧ m b q = some u := by
  unfold abv at h
  split at h
  · rename_i hn; exact ⟨hn, h⟩
  · cases h
/-- a cell of it, as it is now -/
theorem junk_cell {C : Ctx} {w : World} {m : Mm} {g : Gh} (he : EnvG C bx ow w m g) {i n : Nat} (hb : get bx i = some [.rs (JunkR n)]) (hc : chB i = true) {b q : Nat} {u : Value} (h : abv n (jmOf (g.rp i)) b q = some u) : g.sf i b = true ∧ nfB w b q = true ∧ ∃ u', w.cell? ⟨b, q, none⟩ = some u' ∧ Shp u u' := by
  obtain ⟨h1, h2⟩ := abv_spec h
  obtain ⟨⟨k1, _⟩, _⟩ := he.rs.1 i _ hc hb
  exact k1 b q u h2 h1
theorem po_len_jk {x : Operand} {t i n sz : Nat} {rows : List (List J)} (ho : o.op = .call { callee := .builtin .len, args := #[x], argTypes := #[t] }) (hx : ρ x = some (.pr i (.j n (.sl sz rows)))) (hT : sliceSz P t = some sz) : PureOp P bx ow o ρ (.t (.v (.int .i64 rows.length))) := pure_run fun C m g w a he h => by
  have h1 : JR _ (.sl sz rows) (a.eval x) := (h x (by simp [ho, Op.operands, Call.operands]) _ hx).2.2
  obtain ⟨e, _, hu, _, _⟩ := sliceSz_spec hT
  generalize hv : a.eval x = v at h1
  cases h1 with
  | sl sz rows A b off cap u hc hm hA hr hu' ht =>
    exact ⟨.int .i64 rows.length, by simp [execOp, ho, hv, resolve, invoke, builtin, Builtin.len_, run_underlying hu, goInt], .v _⟩
theorem po_index_jk {t : TypeId} {x ix : Operand} {i nn sz k : Nat} {rows : List (List J)} {row : List J} {n : Int} {ik : IntKind} (ho : o.op = .indexAddr t x ix) (hx : ρ x = some (.pr i (.j nn (.sl sz rows)))) (hi : ρ ix = some (.t (.v (.int ik n)))) (hT : sliceSz P t = some sz) (hn : n = (k : Int)) (hk : rows[k]? = some row) : PureOp P bx ow o ρ (.pr i (.j nn (.tp row))) := pure_run fun C m g w a he h => by
  obtain ⟨h01, h02, h03⟩ := h x (by simp [ho, Op.operands]) _ hx
  have h1 : JR _ (.sl sz rows) (a.eval x) := h03
  have h2 := tr_v (h ix (by simp [ho, Op.operands]) _ hi)
  obtain ⟨e, i, hu, hie, hs⟩ := sliceSz_spec hT
  generalize hv : a.eval x = v at h1
  have hkl : k < rows.length := (List.getElem?_eq_some_iff.1 hk).1
  cases h1 with
  | sl sz rows A b off cap u hc hm hA hr hu' ht =>
    have hA' := hA (by intro e; subst e; simp at hk)
    subst hA' hn
    refine ⟨.pointer (some ⟨b, off + k * sz, none⟩), ?_, h01, h02, .tp row b (off + k * sz) (fun j => u k j) ?_ ?_⟩
    · simp [execOp, ho, hv, h2, Instr.indexAt, asIntOf, run_underlying hu, sizeOf, typeInfo, hie, hs, hkl, add_mid]
    · intro j t hj
      have := hu' k j row t hk hj
      rw [Nat.add_assoc]; exact this
    · intro j t hj
      exact ht k j row t hk hj
theorem po_field_jk {s : TypeId} {x : Operand} {f k i n : Nat} {cs : List J} (ho : o.op = .fieldAddr s x f) (hx : ρ x = some (.pr i (.j n (.tp cs)))) (hk : fieldOff P s f = some k) : PureOp P bx ow o ρ (.pr i (.j n (.tp (cs.drop k)))) := pure_run fun C m g w a he h => by
  obtain ⟨h01, h02, h03⟩ := h x (by simp [ho, Op.operands]) _ hx
  have h1 : JR _ (.tp cs) (a.eval x) := h03
  generalize hv : a.eval x = v at h1
  cases h1 with
  | tp cs b off u hu hr =>
    refine ⟨_, by simp only [execOp, ho, hv, Sem.run_bind, run_field hk]; rfl, h01, h02, .tp _ b (off + k) (fun j => u (k + j)) ?_ ?_⟩
    · intro j t hj
      rw [List.getElem?_drop] at hj
      have := hu (k + j) t hj
      rw [Nat.add_assoc]; exact this
    · intro j t hj
      rw [List.getElem?_drop] at hj
      exact hr (k + j) t hj
theorem po_load_jk {ty : TypeId} {x : Operand} {i n nn : Nat} {cs : List J} {j : J} (ho : o.op = .load ty x) (hx : ρ x = some (.pr i (.j nn (.tp cs)))) (hb : get bx i = some [.rs (JunkR nn)]) (hT : tyI P ty = some (false, n)) (ht : cs[0]? = some j) : PureOp P bx ow o ρ (.pr i (.j nn j)) := pure_run fun C m g w a he h => by
  obtain ⟨h01, h02, h03⟩ := h x (by simp [ho, Op.operands]) _ hx
  have h1 : JR _ (.tp cs) (a.eval x) := h03
  generalize hv : a.eval x = v at h1
  cases h1 with
  | tp cs b off u hu hr =>
    obtain ⟨_, _, u', hc, hs⟩ := junk_cell he hb h01 (hu 0 j ht).1
    rw [Nat.add_zero] at hc
    exact ⟨u', by simp [execOp, ho, hv, run_load_scalar hT hc], h01, h02, jr_shp (hr 0 j ht) hs⟩
theorem po_load_jk_agg {ty : TypeId} {x : Operand} {i n nn : Nat} {cs js : List J} (ho : o.op = .load ty x) (hx : ρ x = some (.pr i (.j nn (.tp cs)))) (hb : get bx i = some [.rs (JunkR nn)]) (hT : tyI P ty = some (true, n)) (hn : js.length = n) (ht : cs.take n = js) : PureOp P bx ow o ρ (.ag (js.map fun j => .pr i (.j nn j))) := pure_run fun C m g w a he h => by
  obtain ⟨h01, h02, h03⟩ := h x (by simp [ho, Op.operands]) _ hx
  have h1 : JR _ (.tp cs) (a.eval x) := h03
  generalize hv : a.eval x = v at h1
  cases h1 with
  | tp cs b off u hu hr =>
    have hat : ∀ (k : Nat) j, js[k]? = some j → cs[k]? = some j := fun k j hk => by
      have hkn : k < n := by rw [← hn]; exact (List.getElem?_eq_some_iff.1 hk).1
      rw [← ht, List.getElem?_take_of_lt hkn] at hk; exact hk
    have hex : ∀ k, k < n → ∃ u' j, js[k]? = some j ∧ w.cell? ⟨b, off + k, none⟩ = some u' ∧ JR (abv nn (jmOf (g.rp i))) j u' ∧ u'.oneCell' = true := fun k hk => by
      have h5 := List.getElem?_eq_getElem (show k < js.length by omega)
      obtain ⟨h6, h7⟩ := hu k _ (hat k _ h5)
      obtain ⟨_, _, u', hc, hs⟩ := junk_cell he hb h01 h6
      exact ⟨u', _, h5, hc, jr_shp (hr k _ (hat k _ h5)) hs, shp_one h7 hs⟩
    have hus : ∃ us : List Value, us.length = n ∧ ∀ k, k < n → ∃ u' j, us[k]? = some u' ∧ js[k]? = some j ∧ w.cell? ⟨b, off + k, none⟩ = some u' ∧ JR (abv nn (jmOf (g.rp i))) j u' ∧ u'.oneCell' = true := by
      refine ⟨(List.range n).map fun k => (w.cell? ⟨b, off + k, none⟩).getD undef, by simp, fun k hk => ?_⟩
      obtain ⟨u', j, h8, h9, h10⟩ := hex k hk
      exact ⟨u', j, by simp [hk, h9], h8, h9, h10⟩
    obtain ⟨us, hul, hus⟩ := hus
    have hcell : ∀ (k : Nat) v, us[k]? = some v → w.cell? ⟨b, off + k, none⟩ = some v := fun k v hk => by
      obtain ⟨u', j, h8, _, h9, _⟩ := hus k (by rw [← hul]; exact (List.getElem?_eq_some_iff.1 hk).1)
      rw [hk] at h8; injection h8 with h8; subst h8; exact h9
    refine ⟨.agg us.toArray, by simp only [execOp, ho, hv, Sem.run_bind, run_load_agg hT hul hcell]; rfl, us.toArray, rfl, by simp [hul, hn], fun k x v hx hv => ?_⟩
    have hv' : us[k]? = some v := by simpa using hv
    obtain ⟨u', j, h8, h9, _, h10, h11⟩ := hus k (by rw [← hul]; exact (List.getElem?_eq_some_iff.1 hv').1)
    rw [hv'] at h8; injection h8 with h8; subst h8
    rw [List.getElem?_map, h9] at hx
    injection hx with hx; subst hx
    exact ⟨⟨h01, h02, h10⟩, h11⟩
theorem po_inc_jk {t t2 : TypeId} {x y : Operand} {k : IntKind} {i nn : Nat} {c : Int} (ho : o.op = .binOp .add t x y t2) (hx : ρ x = some (.pr i (.j nn (.int k)))) (hy : ρ y = some (.t (.v (.int k c)))) : PureOp P bx ow o ρ (.pr i (.j nn (.int k))) := pure_run fun C m g w a he h => by
  obtain ⟨h01, h02, h03⟩ := h x (by simp [ho, Op.operands]) _ hx
  have h2 := tr_v (h y (by simp [ho, Op.operands]) _ hy)
  have h1 : JR _ (.int k) (a.eval x) := h03
  generalize hv : a.eval x = v at h1
  cases h1 with
  | int k x0 => exact ⟨.int k (k.wrap (x0 + c)), by simp [execOp, ho, hv, h2, eqGuard, binOp, Op.intArith], h01, h02, .int k _⟩
theorem cell_block {w : World} {b q : Nat} {u : Value} (h : w.cell? ⟨b, q, none⟩ = some u) : ∃ cur e fz, w.heap[b]? = some (.cells cur e fz) ∧ cur[q]? = some u := by
  unfold World.cell? at h
  split at h
  · rename_i cur e fz hc
    exact ⟨cur, e, fz, hc, by simpa using h⟩
  · cases h
/-- a number written over -/
theorem sops_store_jk {ty : TypeId} {x z : Operand} {i n i2 n2 nn : Nat} {k : IntKind} {cs : List J} (hg : GuardIs ops tm o true) (ho : o.op = .store ty x z) (hd : o.dst = none) (hx : evA tm x = some (.pr i (.j nn (.tp cs)))) (ht : cs[0]? = some (.int k)) (hz : evA tm z = some (.pr i2 (.j n2 (.int k)))) (hb : get bx i = some [.rs (JunkR nn)]) (hT : tyI P ty = some (false, n)) (hn : n = 1)
    (h : SOps P N ops Q rest ⟨tm, bx, ow⟩) : SOps P N ops Q (o :: rest) ⟨tm, bx, ow⟩ := by
  refine .mk fun C a w ⟨m, g, hr⟩ => ?_
  have he := hr.env
  obtain ⟨h01, h02, h03⟩ := hr.ev hx
  have h1 : JR _ (.tp cs) (a.eval x) := h03
  have h2 : JR _ (.int k) (a.eval z) := (hr.ev hz).2.2
  generalize hvx : a.eval x = vx at h1
  generalize hvz : a.eval z = vz at h2
  cases h2 with
  | int k x1 =>
  cases h1 with
  | tp cs b off u hu hrr =>
    have hu0 := (hu 0 _ ht).1
    rw [Nat.add_zero] at hu0
    have hu1 := hrr 0 _ ht
    obtain ⟨hsf, hnf, u', hcell, hshp⟩ := junk_cell he hb h01 hu0
    obtain ⟨cur, e, fz, hcs, hcur⟩ := cell_block hcell
    have hoff : off < cur.size := (Array.getElem?_eq_some_iff.1 hcur).1
    have hfz : FzOk fz cur.size := nfB_spec hnf hcs
    have hst := run_storeCells_atM P b off e fz [Value.int k x1] 0 cur w hcs hfz (by simp; omega) (by simp [Value.oneCell'])
    rw [Nat.add_zero] at hst
    obtain ⟨d', i', hu2, hi', _, hsz⟩ := tyI_spec hT
    have hrun : (execOp a.eval o).run P w = .ok .skip (w.setRow b (cur.toList.take off ++ [Value.int k x1] ++ cur.toList.drop (off + 1)).toArray) := by
      have hsz' : (Value.int k x1).cells.size = i'.size := by rw [hsz, hn]; rfl
      have hsv : (storeVar ty ⟨b, off, none⟩ (.int k x1)).run P w = .ok () (w.setRow b (cur.toList.take off ++ [Value.int k x1] ++ cur.toList.drop (off + 1)).toArray) := by
        simp [storeVar, sizeOf, typeInfo, hi', hsz']
        simpa [hsz', Value.cells] using hst
      simp only [execOp, ho, hvx, hvz, Instr.storeAt, Instr.sureAddr, Sem.run_bind, Sem.run_pure, Result.andThen_ok, hsv]
    refine wpList_step fun K hK => ?_
    rw [if_pos (hg.wanted (m := m) (g := g) fun j want e _ _ y hy => hr.tmps e y hy)]
    unfold Oper.wp
    rw [hrun, Oper.upon_skip]
    refine hK _ _ (h.go C _ _ ⟨m, g, ?_⟩)
    rw [hd]
    refine hr.put_none (he.wrR h01 hb hsf (EnvG.setB.grown_setRow' w b _) ?_) (fun x v h => h)
    obtain ⟨⟨k1, k2⟩, _⟩ := he.rs.1 i _ h01 hb
    have hnew : (w.setRow b (cur.toList.take off ++ [Value.int k x1] ++ cur.toList.drop (off + 1)).toArray).heap[b]? = some (.cells (cur.toList.take off ++ [Value.int k x1] ++ cur.toList.drop (off + 1)).toArray e fz) := setRow_heap w b _ _ e fz hcs
    refine ⟨fun b' q u2 hu3 hbn => ?_, fun b' hb' => by have := k2 b' hb'; simpa [World.setRow] using this⟩
    obtain ⟨m1, m2, u3, m3, m4⟩ := k1 b' q u2 hu3 hbn
    by_cases hbb : b' = b
    · subst hbb
      refine ⟨m1, nfB_cells hnew ?_, ?_⟩
      · have : (cur.toList.take off ++ [Value.int k x1] ++ cur.toList.drop (off + 1)).toArray.size = cur.size := by simp; omega
        rw [this]; exact hfz
      · by_cases hq : q = off
        · subst hq
          refine ⟨.int k x1, ?_, ?_⟩
          · have : (cur.toList.take q ++ [Value.int k x1] ++ cur.toList.drop (q + 1))[q]? = some (Value.int k x1) := by
              rw [List.append_assoc, List.getElem?_append_right (by simp; omega)]
              have e5 : q - (cur.toList.take q).length = 0 := by simp; omega
              rw [e5]; rfl
            simp only [World.cell?, hnew]
            simpa using this
          · have e1 : abv nn (jmOf (g.rp i)) b' q = some u2 := by unfold abv; rw [if_pos hbn]; exact hu3
            rw [hu0] at e1; injection e1 with e1
            rw [← e1]
            generalize u 0 = z0 at hu1
            cases hu1 with
            | int _ x9 => exact .inr ⟨k, x9, x1, rfl, rfl⟩
        · refine ⟨u3, ?_, m4⟩
          obtain ⟨cur2, e2, fz2, n1, n2⟩ := cell_block m3
          rw [hcs] at n1; injection n1 with n1; injection n1 with n1 _ _; subst n1
          have hqs : q < cur.size := (Array.getElem?_eq_some_iff.1 n2).1
          have : (cur.toList.take off ++ [Value.int k x1] ++ cur.toList.drop (off + 1))[q]? = some u3 := by
            rcases Nat.lt_trichotomy q off with h7 | h7 | h7
            · rw [List.append_assoc, List.getElem?_append_left (by simp; omega), List.getElem?_take_of_lt h7]; simpa using n2
            · exact absurd h7 hq
            · rw [List.getElem?_append_right (by simp; omega), List.getElem?_drop]
              have e5 : off + 1 + (q - (cur.toList.take off ++ [Value.int k x1]).length) = q := by simp; omega
              rw [e5]; simpa using n2
          simp only [World.cell?, hnew]
          simpa using this
    · have ho : (w.setRow b (cur.toList.take off ++ [Value.int k x1] ++ cur.toList.drop (off + 1)).toArray).heap[b']? = w.heap[b']? := setRow_other w b b' _ (fun e => hbb e)
      exact ⟨m1, by rw [nfB_eq ho]; exact m2, u3, by rw [World.cell?_of_block (a := ⟨b', q, none⟩) ho]; exact m3, m4⟩
end
end Go.Proofs.YtnclifgiakmmoaaGreat.Sim
