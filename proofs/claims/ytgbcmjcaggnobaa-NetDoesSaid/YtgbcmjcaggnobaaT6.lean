/- Merged by bundles.py: SimM, SimN, SimO. -/
import Derived.Test.YtgbcmjcaggnobaaT5
/- A logic of states: rows that may be written; rows lent to a call. -/
namespace Go.Proofs.Ytgbcmjcaggnobaa.Sim
set_option linter.unusedVariables false
set_option linter.unusedSimpArgs false
open Go.RowKit Mem
section
variable {P : Program} {bx : List (Nat × List A)} {ow : List (Nat × Own)} {o : Oper} {ρ : Operand → Option A} {r : A}
theorem own_form {w : World} {base : Nat} {e : TypeId} {sz : Nat} {v : Value} {n : Nat} {vs : List Value} (h : RowM w base e sz v n vs) (hn : 0 < n) : ∃ b cap cur, v = .slice (some ⟨b, 0, none⟩) n cap ∧ base ≤ b ∧ (∃ fz, w.heap[b]? = some (.cells cur e fz) ∧ FzOk fz cur.size) ∧ n ≤ cap ∧ cap ≤ maxLen ∧ cap * sz ≤ cur.size ∧ cur.toList.take (n * sz) = vs := by
  obtain ⟨_, ⟨_, h0⟩ | ⟨b, cap, cur, h1⟩⟩ := h
  · omega
  · exact ⟨b, cap, cur, h1⟩
/-- a place in a row of the call's own -/
theorem po_index_own {t e : TypeId} {x ix : Operand} {i nn sz k : Nat} {rows : List (List T)} {n : Int} {ik : IntKind} (ho : o.op = .indexAddr t x ix) (hx : ρ x = some (.own i nn)) (hi : get ow i = some ⟨e, sz, rows⟩) (hnn : nn = rows.length) (hix : ρ ix = some (.t (.v (.int ik n)))) (hT : sliceSz P t = some sz) (hn : n = (k : Int)) (hk : k < nn) : PureOp P bx ow o ρ (.oe i nn sz k 0) := pure_run fun C m g w a he h => by
  obtain ⟨h1, h2, _, h4⟩ := h x (by simp [ho, Op.operands]) _ hx
  have h5 := tr_v (h ix (by simp [ho, Op.operands]) _ hix)
  have hln := he.ln i _ hi
  have hv := h4 (by rw [hln]; exact hnn)
  obtain ⟨e', ii, hu, hie, hs⟩ := sliceSz_spec hT
  obtain ⟨vs, hown, _⟩ := he.owns i _ hi
  dsimp only at hown
  obtain ⟨b, cap, cur, e1, _⟩ := own_form hown (by omega)
  rw [e1] at hv
  subst hn hnn
  have hlt : (k : Int) < (rows.length : Int) := by omega
  refine ⟨.pointer (some ⟨b, k * sz, none⟩), ?_, h1, h2, ⟨_, rfl⟩, fun _ => ⟨b, by rw [e1]; rfl, by simp⟩⟩
  simp [execOp, ho, hv, h5, Instr.indexAt, asIntOf, run_underlying hu, sizeOf, typeInfo, hie, hs, hk, addr_add]
theorem po_field_own {s : TypeId} {x : Operand} {f q i nn sz k off : Nat} {o' : Own} (ho : o.op = .fieldAddr s x f) (hx : ρ x = some (.oe i nn sz k off)) (hi : get ow i = some o') (hnn : nn = o'.rows.length) (hq : fieldOff P s f = some q) : PureOp P bx ow o ρ (.oe i nn sz k (off + q)) := pure_run fun C m g w a he h => by
  obtain ⟨h1, h2, _, h4⟩ := h x (by simp [ho, Op.operands]) _ hx
  have hln := he.ln i _ hi
  obtain ⟨b, h5, h6⟩ := h4 (by rw [hln]; exact hnn)
  refine ⟨.pointer (some ⟨b, k * sz + off + q, none⟩), by simp only [execOp, ho, h6, Sem.run_bind, run_field hq]; rfl, h1, h2, ⟨_, rfl⟩, fun _ => ⟨b, h5, by rw [Nat.add_assoc]⟩⟩
/-- an element's cell -/
theorem own_cell {C : Ctx} {w : World} {m : Mm} {g : Gh} (he : EnvG C bx ow w m g) {i b k j : Nat} {e : TypeId} {sz : Nat} {rows : List (List T)} {row : List T} {t : T} (hi : get ow i = some ⟨e, sz, rows⟩) (hb : (g.go i).ownBlock = some b) (hk : rows[k]? = some row) (hj : row[j]? = some t) : ∃ u, w.cell? ⟨b, k * sz + j, none⟩ = some u ∧ TR m t u ∧ u.oneCell' = true := by
  obtain ⟨vs, hown, hr, hc, _⟩ := he.owns i _ hi
  dsimp only at hown hr hc
  have h1 := flat_get hr hk hj
  have h2 : k * sz + j < vs.length := by rw [hc.1]; exact (List.getElem?_eq_some_iff.1 h1).1
  have h3 := hown.cells hb (k * sz + j) _ (List.getElem?_eq_getElem h2)
  rw [addr_add, Nat.zero_add] at h3
  exact ⟨_, h3, hc.2 _ t _ h1 (List.getElem?_eq_getElem h2)⟩
theorem po_load_own {ty e : TypeId} {x : Operand} {i nn sz k off n : Nat} {rows : List (List T)} {row : List T} {t : T} (ho : o.op = .load ty x) (hx : ρ x = some (.oe i nn sz k off)) (hi : get ow i = some ⟨e, sz, rows⟩) (hnn : nn = rows.length) (hT : tyI P ty = some (false, n)) (hk : rows[k]? = some row) (ht : row[off]? = some t) : PureOp P bx ow o ρ (.t t) := pure_run fun C m g w a he h => by
  obtain ⟨h1, h2, _, h4⟩ := h x (by simp [ho, Op.operands]) _ hx
  obtain ⟨b, h5, h6⟩ := h4 (by rw [he.ln i _ hi]; exact hnn)
  obtain ⟨u, h7, h8, _⟩ := own_cell he hi h5 hk ht
  exact ⟨u, by simp [execOp, ho, h6, run_load_scalar hT h7], h8⟩
theorem po_load_own_agg {ty e : TypeId} {x : Operand} {i nn sz k off n : Nat} {rows : List (List T)} {row ts : List T} (ho : o.op = .load ty x) (hx : ρ x = some (.oe i nn sz k off)) (hi : get ow i = some ⟨e, sz, rows⟩) (hnn : nn = rows.length) (hT : tyI P ty = some (true, n)) (hk : rows[k]? = some row) (hn : ts.length = n) (ht : (row.drop off).take n = ts) : PureOp P bx ow o ρ (.t (.agg ts)) := pure_run fun C m g w a he h => by
  obtain ⟨h1, h2, _, h4⟩ := h x (by simp [ho, Op.operands]) _ hx
  obtain ⟨b, h5, h6⟩ := h4 (by rw [he.ln i _ hi]; exact hnn)
  have hts : ∀ (j : Nat) t, ts[j]? = some t → row[off + j]? = some t := fun j t hj => by
    have hjn : j < n := by rw [← hn]; exact (List.getElem?_eq_some_iff.1 hj).1
    rw [← ht, List.getElem?_take_of_lt hjn, List.getElem?_drop] at hj; exact hj
  have hcell : ∀ j, j < n → ∃ u t, w.cell? ⟨b, k * sz + off + j, none⟩ = some u ∧ ts[j]? = some t ∧ TR m t u ∧ u.oneCell' = true := fun j hj => by
    have h7 := List.getElem?_eq_getElem (show j < ts.length by omega)
    obtain ⟨u, h8, h9⟩ := own_cell he hi h5 hk (hts j _ h7)
    rw [← Nat.add_assoc] at h8
    exact ⟨u, _, h8, h7, h9⟩
  have hf : ∃ us : List Value, us.length = n ∧ ∀ j, j < n → ∃ u t, us[j]? = some u ∧ w.cell? ⟨b, k * sz + off + j, none⟩ = some u ∧ ts[j]? = some t ∧ TR m t u ∧ u.oneCell' = true := by
    refine ⟨(List.range n).map fun j => (w.cell? ⟨b, k * sz + off + j, none⟩).getD undef, by simp, fun j hj => ?_⟩
    obtain ⟨u, t, h8, h9, h10⟩ := hcell j hj
    exact ⟨u, t, by simp [hj, h8], h8, h9, h10⟩
  obtain ⟨us, hul, hus⟩ := hf
  have hat : ∀ (j : Nat) v, us[j]? = some v → ∃ t, w.cell? ⟨b, k * sz + off + j, none⟩ = some v ∧ ts[j]? = some t ∧ TR m t v ∧ v.oneCell' = true := fun j v hj => by
    have hjn : j < n := by rw [← hul]; exact (List.getElem?_eq_some_iff.1 hj).1
    obtain ⟨u, t, h8, h9, h10⟩ := hus j hjn
    rw [hj] at h8; injection h8 with h8; subst h8
    exact ⟨t, h9, h10⟩
  refine ⟨.agg us.toArray, by simp only [execOp, ho, h6, Sem.run_bind, run_load_agg hT hul (fun j v hj => (hat j v hj).choose_spec.1)]; rfl, .agg ts _ (by simp [hn, hul]) ?_ ?_⟩
  · intro v hv'
    obtain ⟨j, hj⟩ := List.getElem?_of_mem hv'
    obtain ⟨t, _, _, _, h11⟩ := hat j v (by simpa using hj)
    exact h11
  · intro j t v h3 h4'
    obtain ⟨t', _, h9, h10, _⟩ := hat j v (by simpa using h4')
    rw [h3] at h9; injection h9 with h9; subst h9
    exact h10
end
section
variable {C : Ctx} {bx : List (Nat × List A)} {ow : List (Nat × Own)} {w : World} {m : Mm} {g : Gh}
/-- a row's elements written -/
theorem EnvG.setE (he : EnvG C bx ow w m g) {i b cap : Nat} {e : TypeId} {sz : Nat} {rows rows' : List (List T)} {cur cur' : Array Value} {vs' : List Value} (hh : hid i = true) (hi : get ow i = some ⟨e, sz, rows⟩) (hl : rows'.length = rows.length)
    (hgo : g.go i = .slice (some ⟨b, 0, none⟩) rows.length cap) {fz : Nat × Nat} (hcells : w.heap[b]? = some (.cells cur e fz)) (hfz : FzOk fz cur.size) (hr : ∀ r ∈ rows', r.length = sz) (hc : CellsAre m rows'.flatten vs') (hcs : cur'.size = cur.size) (htk : cur'.toList.take (rows.length * sz) = vs') :
    EnvG C bx ((i, ⟨e, sz, rows'⟩) :: ow) (w.setRow b cur') m g := by
  obtain ⟨vs, hown, hr0, hc0, hb0⟩ := he.owns i _ hi
  dsimp only at hown hr0 hc0 hb0
  have hblk : (g.go i).ownBlock = some b := by rw [hgo]; rfl
  obtain ⟨hmb, hbx, hmi⟩ := hb0 b hblk
  have hlt := hown.lt b hblk
  have hmn : ∀ k, m b k = none := fun k => by rw [hmb k, vis_hid hh]; rfl
  have hsame := setRow_heap w b cur cur' e fz hcells
  have hother : ∀ k, k ≠ b → (w.setRow b cur').heap[k]? = w.heap[k]? := fun k hk => setRow_other w b k cur' hk
  have hgr : w.grownBy (w.setRow b cur') (some b) := EnvG.setB.grown_setRow' w b cur'
  have hown' : RowM (w.setRow b cur') 0 e sz (g.go i) rows'.length vs' := by
    refine ⟨by rw [hc.1, flat_len hr], ?_⟩
    obtain ⟨_, ⟨h1, _⟩ | ⟨b2, cap2, cur2, h1, h2, ⟨fz2, h3, _⟩, h4, h5, h6, h7⟩⟩ := hown
    · rw [hgo] at h1; cases h1
    · rw [hgo] at h1
      injection h1 with h1 h8 h9
      injection h1 with h1; injection h1 with h1
      subst h1 h9
      rw [hcells] at h3; injection h3 with h3; injection h3 with h3
      subst h3
      exact .inr ⟨b, cap, cur', by rw [hl]; exact hgo, h2, ⟨fz, hsame, by rw [hcs]; exact hfz⟩, by rw [hl]; exact h4, h5, by rw [hcs]; exact h6, by rw [hl]; exact htk⟩
  exact {
    lo := he.lo.grown hgr (fun k hk => by injection hk with hk; subst hk; exact hmi)
    gm := he.gm
    sub := fun b' o' v' hv' => by
      have hb' : b' ≠ b := fun e => by rw [e, hmn o'] at hv'; cases hv'
      rw [World.cell?_of_block (a := ⟨b', o', none⟩) (hother b' hb')]; exact he.sub b' o' v' hv'
    ext := he.ext, gt := he.gt, lb := he.lb
    lw := fun j => by
      rw [get_cons, he.lw j]
      by_cases hji : i = j
      · subst hji; rw [if_pos rfl, hi]; rfl
      · rw [if_neg hji]
    ln := fun j o hj => by
      rw [get_cons] at hj
      by_cases hji : i = j
      · subst hji; rw [if_pos rfl] at hj; injection hj with hj; subst hj; rw [he.ln i _ hi]; exact hl.symm
      · rw [if_neg hji] at hj; exact he.ln j o hj
    boxes := fun j cs hj => by
      obtain ⟨vs2, ty, h1, h2, h3, h4, h5⟩ := he.boxes j cs hj
      exact ⟨vs2, ty, by rw [hother _ (hbx j cs hj)]; exact h1, h2, h3, h4, h5⟩
    inj := he.inj
    owns := fun j o hj => by
      rw [get_cons] at hj
      by_cases hji : i = j
      · subst hji
        rw [if_pos rfl] at hj; injection hj with hj; subst hj
        refine ⟨vs', hown', hr, hc, fun b2 hb2 => ?_⟩
        rw [hblk] at hb2; injection hb2 with hb2; subst hb2
        exact ⟨fun k => by rw [hmn k, vis_hid hh]; rfl, hbx, hmi⟩
      · rw [if_neg hji] at hj
        obtain ⟨vs2, h1, h2, h3, h4⟩ := he.owns j o hj
        refine ⟨vs2, h1.kept hgr ?_, h2, h3, h4⟩
        cases hb2 : (g.go j).ownBlock with
        | none => exact .inl rfl
        | some b2 => exact .inr fun e => he.apart j i o _ hj hi (fun e => hji e.symm) b2 hb2 (by rw [hblk]; exact e.symm)
    apart := fun j k oj ok hj hk hjk => by
      have h1 : ∃ o, get ow j = some o := by
        rw [get_cons] at hj
        by_cases hji : i = j
        · subst hji; exact ⟨_, hi⟩
        · rw [if_neg hji] at hj; exact ⟨_, hj⟩
      have h2 : ∃ o, get ow k = some o := by
        rw [get_cons] at hk
        by_cases hki : i = k
        · subst hki; exact ⟨_, hi⟩
        · rw [if_neg hki] at hk; exact ⟨_, hk⟩
      exact he.apart j k _ _ h1.choose_spec h2.choose_spec hjk
    pin := fun j o hj hj2 => by
      rw [get_cons] at hj
      by_cases hji : i = j
      · subst hji; exact he.pin i _ hi hj2
      · rw [if_neg hji] at hj; exact he.pin j o hj hj2
    pinb := he.pinb
    rs := he.rsF (fun k => k = b) (fun j R _ hj => ⟨hj, rfl, rfl, rfl⟩) (fun j cs _ hj _ => ⟨rfl, cs, hj⟩) (fun k hk => .inr ⟨i, _, hi, by rw [hk]; exact hblk⟩) (fun k _ hn => hother k hn) (fun _ _ _ h => h) (fun _ _ _ h => h) (fun j cs hj => .inl ⟨j, cs, hj, rfl⟩) (fun j o hj b' hb' => by
      rw [get_cons] at hj
      by_cases hji : i = j
      · subst hji; exact .inl ⟨i, _, hi, hb'⟩
      · rw [if_neg hji] at hj; exact .inl ⟨j, o, hj, hb'⟩) }
end
section
variable {P : Program} {N : Nat} {Q : Exit → St → Prop} {ops : Array Oper} {rest : List Oper} {o : Oper} {tm : List (Nat × A)} {bx : List (Nat × List A)} {ow : List (Nat × Own)}
end
end Go.Proofs.Ytgbcmjcaggnobaa.Sim

/- A logic of states: arrays. -/
namespace Go.Proofs.Ytgbcmjcaggnobaa.Sim
set_option linter.unusedVariables false
set_option linter.unusedSimpArgs false
open Go.RowKit Mem
/-- an array type: how many, an element's cells -/
def arrI (P : Program) (t : TypeId) : Option (Nat × Nat) := match P.underlying t with
  | some (.array n e) => (P.info? e).map fun i => (n, i.size)
  | _ => none
theorem arrI_spec {P : Program} {t n sz : Nat} (h : arrI P t = some (n, sz)) : ∃ e i, P.underlying t = some (.array n e) ∧ P.info? e = some i ∧ i.size = sz := by
  unfold arrI at h
  split at h
  · rename_i n' e hu
    cases hi : P.info? e with
    | none => rw [hi] at h; cases h
    | some i => rw [hi] at h; simp at h; obtain ⟨rfl, h⟩ := h; exact ⟨e, i, hu, hi, h⟩
  · cases h
section
variable {P : Program} {bx : List (Nat × List A)} {ow : List (Nat × Own)} {o : Oper} {ρ : Operand → Option A} {r : A}
theorem po_index_arr {t : TypeId} {x ix : Operand} {i off n sz k : Nat} {j : Int} {ik : IntKind} (ho : o.op = .indexAddr t x ix) (hx : ρ x = some (.bp i off)) (hi : ρ ix = some (.t (.v (.int ik j)))) (hT : arrI P t = some (n, sz)) (hj : j = (k : Int)) (hk : k < n) : PureOp P bx ow o ρ (.bp i (off + k * sz)) := pure_run fun C m g w a he h => by
  obtain ⟨h0, h1⟩ := h x (by simp [ho, Op.operands]) _ hx
  have h2 := tr_v (h ix (by simp [ho, Op.operands]) _ hi)
  obtain ⟨e, ii, hu, hie, hs⟩ := arrI_spec hT
  subst hj
  have hlt : (k : Int) < (n : Int) := by omega
  refine ⟨.pointer (some ⟨g.gb i, off + k * sz, none⟩), ?_, h0, rfl⟩
  simp [execOp, ho, h1, h2, Instr.indexAt, asIntOf, run_underlying hu, Instr.sureAddr, sizeOf, typeInfo, hie, hs, hlt, hk, add_mid]
end
section
variable {P : Program} {N : Nat} {Q : Exit → St → Prop} {ops : Array Oper} {rest : List Oper} {o : Oper} {tm : List (Nat × A)} {bx : List (Nat × List A)} {ow : List (Nat × Own)}
end
end Go.Proofs.Ytgbcmjcaggnobaa.Sim

/- A logic of states: calls that are lent rows and boxes, or hand back rows of the caller's own. -/
namespace Go.Proofs.Ytgbcmjcaggnobaa.Sim
set_option linter.unusedVariables false
set_option linter.unusedSimpArgs false
open Go.RowKit Mem

/-- the memory of the moment, all of it -/
def allw (w : World) : Mm := fun b o => w.cell? ⟨b, o, none⟩
theorem allw_of {m : Mm} {w : World} (h : Sub m w) : ∀ b o v, m b o = some v → allw w b o = some v := h
/-- what a slot reads as while nothing turns: hidden rows, too -/
inductive VwS (ow : List (Nat × Own)) : A → T → Prop
  | t (x : T) : VwS ow (.t x) x
  | nil (sz : Nat) : VwS ow (.t (.v (.slice none 0 0))) (.sl sz [])
  | emp (sz : Nat) : VwS ow .emp (.sl sz [])
  | own {i n : Nat} {e : TypeId} {sz : Nat} {rows : List (List T)} (h : get ow i = some ⟨e, sz, rows⟩) (hn : n = rows.length) : VwS ow (.own i n) (.sl sz rows)
  | fn (f : FuncId) : VwS ow (.t (.v (.func (.func f) #[] #[]))) (.clo f [])
  | agn : VwS ow (.ag []) (.agg [])
  | agc {x : A} {t : T} {cs : List A} {ts : List T} (h : VwS ow x t) (hl : VwS ow (.ag cs) (.agg ts)) : VwS ow (.ag (x :: cs)) (.agg (t :: ts))
section
variable {P : Program} {bx : List (Nat × List A)} {ow : List (Nat × Own)} {o : Oper} {ρ : Operand → Option A} {r : A}
theorem VwS.ok {C : Ctx} {w : World} {m : Mm} {g : Gh} {x : A} {t : T} {v : Value} (h : VwS ow x t) (he : EnvG C bx ow w m g) (hx : AR m g x v) : TR (allw w) t v := by
  induction h generalizing v with
  | t x => exact TR.mono (allw_of he.sub) hx
  | nil sz =>
    have hx' : TR m (.v (.slice none 0 0)) v := hx
    cases hx'
    exact tr_nil _ sz (Nat.zero_le _)
  | emp sz =>
    obtain ⟨A, rfl⟩ := hx
    exact tr_nil _ sz (Nat.zero_le _)
  | @own i n e sz rows h hn =>
    obtain ⟨_, _, _, hvg⟩ := hx
    obtain rfl := hvg (by rw [he.ln i _ h]; exact hn)
    obtain ⟨vs, ho, hr, hc, hb⟩ := he.owns i _ h
    exact tr_owns ho hr (hc.mono (allw_of he.sub)) fun b hb' k u hu => by
      have := ho.cells hb' k u hu
      rwa [addr_add, Nat.zero_add] at this
  | fn f =>
    have hx' : TR m (.v (.func (.func f) #[] #[])) v := hx
    cases hx'
    exact .clo f [] #[] rfl (fun j t v h => by simp at h)
  | agn =>
    obtain ⟨vs, rfl, h1, _⟩ := hx
    have : vs = #[] := Array.eq_empty_of_size_eq_zero (by simpa using h1)
    subst this
    exact .agg [] #[] rfl (fun v hv => by simp at hv) (fun j t v h => by simp at h)
  | @agc x t cs ts h hl ih1 ih2 =>
    obtain ⟨u, us, rfl, h1, h2, h3⟩ := ag_cons hx
    exact tr_agg_cons (ih1 h1.two) h2 (ih2 h3)
inductive ArgsS (ow : List (Nat × Own)) (ρ : Operand → Option A) : List Operand → List T → Prop
  | nil : ArgsS ow ρ [] []
  | cons {x : Operand} {y : A} {t : T} {xs : List Operand} {ts : List T} (h : ρ x = some y) (hv : VwS ow y t) (hl : ArgsS ow ρ xs ts) : ArgsS ow ρ (x :: xs) (t :: ts)
theorem ArgsS.ok {C : Ctx} {w : World} {m : Mm} {g : Gh} {xs : List Operand} {ts : List T} (h : ArgsS ow ρ xs ts) (he : EnvG C bx ow w m g) {a : Act} (ha : ∀ x ∈ xs, ∀ y, ρ x = some y → AR m g y (a.eval x)) : xs.length = ts.length ∧ ∀ (i : Nat) t v, ts[i]? = some t → (xs.map a.eval)[i]? = some v → TR (allw w) t v := by
  induction h with
  | nil => exact ⟨rfl, fun i t v h => by simp at h⟩
  | @cons x y t xs ts h hv hl ih =>
    obtain ⟨h1, h2⟩ := ih fun x hx => ha x (by simp [hx])
    refine ⟨by simp [h1], fun i t' v h3 h4 => ?_⟩
    cases i with
    | zero => simp at h3 h4; subst h3 h4; exact hv.ok he (ha x (by simp) y h)
    | succ i => simp at h3; exact h2 i t' v h3 (by simpa using h4)
def A.isLf : A → Bool
  | .ag _ => false
  | .tu _ => false
  | .cl _ _ => false
  | _ => true
theorem lf0 {m : Mm} {g : Gh} {x : A} {v : Value} (h : x.isLf = true) (hx : AR m g x v) : AR0 m g x v := by
  cases x <;> first | exact hx | cases h
def A.is1 : A → Bool
  | .tu _ => false
  | _ => true
theorem is1 {m : Mm} {g : Gh} {x : A} {v : Value} (h : x.is1 = true) (hx : AR m g x v) : AR1 m g x v := by
  cases x <;> first | exact hx | cases h
/-- a box's cells, rows of the call's own among them -/
theorem po_load_bx_ag {ty : TypeId} {x : Operand} {i off n : Nat} {cs ds : List A} (ho : o.op = .load ty x) (hx : ρ x = some (.bp i off)) (hT : tyI P ty = some (true, n)) (hb : get bx i = some cs) (hd : (cs.drop off).take n = ds) (hn : ds.length = n) (hlf : ds.all A.isLf = true) (hq : cellB i = true := by rfl) : PureOp P bx ow o ρ (.ag ds) := pure_run fun C m g w a he h => by
  obtain ⟨_, h1⟩ := h x (by simp [ho, Op.operands]) _ hx
  obtain ⟨vs, ty', hh, hs, hc, _, _⟩ := he.boxes i cs hb
  rw [ob_cells hq] at hh
  replace hs := hs.cell hq
  have hlen : off + n ≤ vs.size ∨ n = 0 := by
    rw [hs]; rw [← hd] at hn; simp at hn; omega
  have hat : ∀ (j : Nat) v, ((vs.toList.drop off).take n)[j]? = some v → j < n ∧ vs[off + j]? = some v := fun j v hj => by
    have hjn : j < n := by have := (List.getElem?_eq_some_iff.1 hj).1; simp at this; omega
    rw [List.getElem?_take_of_lt hjn, List.getElem?_drop] at hj
    exact ⟨hjn, by simpa using hj⟩
  have hcell : ∀ (j : Nat) v, ((vs.toList.drop off).take n)[j]? = some v → w.cell? ⟨g.gb i, off + j, none⟩ = some v := fun j v hj => by
    simp [World.cell?, hh, (hat j v hj).2]
  refine ⟨_, by simp only [execOp, ho, h1, Sem.run_bind, run_load_agg hT (show ((vs.toList.drop off).take n).length = n by simp; omega) hcell]; rfl, _, rfl, by simp [hn]; omega, fun j x u h3 h4 => ?_⟩
  obtain ⟨hjn, h5⟩ := hat j u (by simpa using h4)
  have h6 : cs[off + j]? = some x := by rw [← hd, List.getElem?_take_of_lt hjn, List.getElem?_drop] at h3; exact h3
  have h7 := hc _ x u h6 h5
  exact ⟨lf0 ((List.all_eq_true.1 hlf) x (List.mem_of_getElem? h3)) h7.1, h7.2⟩
theorem po_extract_tu {x : Operand} {i : Nat} {cs : List A} (ho : o.op = .extract x i) (hx : ρ x = some (.tu cs)) (ht : cs[i]? = some r) : PureOp P bx ow o ρ r := pure_run fun C m g w a he h => by
  obtain ⟨vs, h1, h2, h3⟩ := h x (by simp [ho, Op.operands]) _ hx
  have hlt : i < vs.size := by rw [h2]; exact (List.getElem?_eq_some_iff.1 ht).1
  exact ⟨vs[i], by simp [execOp, ho, h1, Instr.extract, hlt], (h3 i r _ ht (by simp [hlt])).two⟩
/-- a function that captured boxes -/
inductive CapsA (ρ : Operand → Option A) : List Operand → List A → Prop
  | nil : CapsA ρ [] []
  | cons {x : Operand} {y : A} {xs : List Operand} {ys : List A} (h : ρ x = some y) (hv : y.isLf = true) (hl : CapsA ρ xs ys) : CapsA ρ (x :: xs) (y :: ys)
theorem CapsA.at {xs : List Operand} {ys : List A} (h : CapsA ρ xs ys) : xs.length = ys.length ∧ ∀ (j : Nat) y, ys[j]? = some y → ∃ x, xs[j]? = some x ∧ ρ x = some y ∧ y.isLf = true := by
  induction h with
  | nil => exact ⟨rfl, fun j y h => by simp at h⟩
  | cons h hv hl ih =>
    refine ⟨by simp [ih.1], fun j y hy => ?_⟩
    cases j with
    | zero => simp at hy; subst hy; exact ⟨_, rfl, h, hv⟩
    | succ j => simp at hy; simpa using ih.2 j y hy
theorem po_func_cl {f : FuncId} {xs : List Operand} {ys : List A} (ho : o.op = .makeFunc (.func f) #[] xs.toArray) (ha : CapsA ρ xs ys) : PureOp P bx ow o ρ (.cl f ys) := pure_run fun C m g w a he h => by
  obtain ⟨hl, hv⟩ := ha.at
  refine ⟨.func (.func f) #[] (xs.map a.eval).toArray, ?_, _, rfl, by simpa using hl, fun j y u h1 h2 => ?_⟩
  · simp only [execOp, ho, Instr.makeFunc, List.map_toArray, List.map_nil, Sem.run_bind, Sem.run_pure, Result.andThen_ok]
  · obtain ⟨x, h3, h4, h5⟩ := hv j y h1
    have h6 : u = a.eval x := by simpa [h3] using h2.symm
    rw [h6]
    exact lf0 h5 (h x (by simp [ho, Op.operands]; exact List.mem_of_getElem? h3) y h4)
end

/-- a function's results, rows of the call's own among them -/
inductive ResA (P : Program) (st : St) : List ResultVar → List A → Prop
  | nil : ResA P st [] []
  | tmp {s : Nat} {y : A} {l : List ResultVar} {ys : List A} (h : get st.tm s = some y) (h1 : y.is1 = true) (hl : ResA P st l ys) : ResA P st (.tmp s :: l) (y :: ys)
  | cell {s i : Nat} {ty : TypeId} {n : Nat} {cs : List A} {ys : List A} {l : List ResultVar} (h : get st.tm s = some (.bp i 0)) (hb : get st.bx i = some cs) (hT : tyI P ty = some (true, n)) (hn : cs.length = n) (hlf : cs.all A.isLf = true) (hl : ResA P st l ys) (hq : cellB i = true := by rfl) : ResA P st (.cell s ty :: l) (.ag cs :: ys)
  | cell1 {s i : Nat} {ty : TypeId} {n : Nat} {c : A} {ys : List A} {l : List ResultVar} (h : get st.tm s = some (.bp i 0)) (hb : get st.bx i = some [c]) (hT : tyI P ty = some (false, n)) (h1 : c.is1 = true) (hl : ResA P st l ys) (hq : cellB i = true := by rfl) : ResA P st (.cell s ty :: l) (c :: ys)
  | tmpT {s : Nat} {y : A} {t : T} {l : List ResultVar} {ys : List A} (h : get st.tm s = some y) (hv : Vw st.ow y t) (hl : ResA P st l ys) : ResA P st (.tmp s :: l) (.t t :: ys)
  | cellT {s i : Nat} {ty : TypeId} {n : Nat} {cs : List A} {us : List T} {ys : List A} {l : List ResultVar} (h : get st.tm s = some (.bp i 0)) (hb : get st.bx i = some cs) (hT : tyI P ty = some (true, n)) (hv : VwL st.ow cs us) (hn : us.length = n) (hl : ResA P st l ys) (hq : cellB i = true := by rfl) : ResA P st (.cell s ty :: l) (.t (.agg us) :: ys)
def resA : List A → A
  | [t] => t
  | ts => .tu ts
theorem resA_ok {P : Program} {C : Ctx} {N : Nat} {st : St} {a : Act} {w : World} {m : Mm} {g : Gh} (hr : RelG C N st a w m g) {l : List ResultVar} {ts : List A} (h : ResA P st l ts) :
    ∃ vs : List Value, (l.mapM (resF a)).run P w = .ok vs w ∧ vs.length = ts.length ∧ ∀ (i : Nat) t v, ts[i]? = some t → vs[i]? = some v → AR1 m g t v := by
  induction h with
  | nil => exact ⟨[], by simp, rfl, fun i t v h => by simp at h⟩
  | @tmp s y l ys h h1 _ ih =>
    obtain ⟨vs, h2, h3, h4⟩ := ih
    refine ⟨a.tmps.getD s undef :: vs, ?_, by simp [h3], fun i t' v h5 h6 => ?_⟩
    · simp only [List.mapM_cons, resF, Sem.run_bind, Sem.run_pure, Result.andThen_ok, h2]
    · cases i with
      | zero => simp at h5 h6; subst h5; rw [← h6]; exact is1 h1 (by have := hr.tmps s y h; simpa [Act.eval] using this)
      | succ i => simp at h5; exact h4 i t' v h5 (by simpa using h6)
  | @cell s i ty n cs ys l h hb hT hn hlf _ hq ih =>
    obtain ⟨vs, h1, h2, h3⟩ := ih
    obtain ⟨_, hp⟩ := hr.tmps s _ h
    have hp' : a.tmps.getD s undef = .pointer (some ⟨g.gb i, 0, none⟩) := hp
    obtain ⟨xs, ty', hh, hs, hc, _⟩ := hr.env.boxes i cs hb
    rw [ob_cells hq] at hh
    replace hs := hs.cell hq
    have hcell : ∀ (j : Nat) v, xs.toList[j]? = some v → w.cell? ⟨g.gb i, 0 + j, none⟩ = some v := fun j v hj => by
      simp only [World.cell?, hh, Nat.zero_add]; simpa using hj
    have hld := run_load_agg (P := P) hT (w := w) (b := g.gb i) (off := 0) (cs := xs.toList) (by simp; omega) hcell
    refine ⟨.agg xs.toList.toArray :: vs, ?_, by simp [h2], fun q t' v h4 h5 => ?_⟩
    · simp only [Instr.loadAt, Instr.sureAddr, Sem.run_bind, Sem.run_pure, Result.andThen_ok] at hld
      simp only [List.mapM_cons, resF, Sem.run_bind, Sem.run_pure, Result.andThen_ok, hp', asAddr, hld, h1]
    · cases q with
      | zero =>
        simp at h4 h5; subst h4 h5
        exact ⟨xs, rfl, hs, fun j x u h6 h7 => ⟨lf0 ((List.all_eq_true.1 hlf) x (List.mem_of_getElem? h6)) (hc j x u h6 h7).1, (hc j x u h6 h7).2⟩⟩
      | succ q => simp at h4; exact h3 q t' v h4 (by simpa using h5)
  | @cell1 s i ty n c ys l h hb hT h1 _ hq ih =>
    obtain ⟨vs, h2, h3, h4⟩ := ih
    obtain ⟨_, hp⟩ := hr.tmps s _ h
    have hp' : a.tmps.getD s undef = .pointer (some ⟨g.gb i, 0, none⟩) := hp
    obtain ⟨xs, ty', hh, hs, hc, _⟩ := hr.env.boxes i _ hb
    rw [ob_cells hq] at hh
    replace hs := hs.cell hq
    have hlt : 0 < xs.size := by rw [hs]; simp
    have hcell : w.cell? ⟨g.gb i, 0, none⟩ = some xs[0] := by simp [World.cell?, hh, hlt]
    have hld := run_load_scalar (P := P) hT (w := w) hcell
    refine ⟨xs[0] :: vs, ?_, by simp [h3], fun q t' v h5 h6 => ?_⟩
    · simp only [Instr.loadAt, Instr.sureAddr, Sem.run_bind, Sem.run_pure, Result.andThen_ok] at hld
      simp only [List.mapM_cons, resF, Sem.run_bind, Sem.run_pure, Result.andThen_ok, hp', asAddr, hld, h2]
    · cases q with
      | zero => simp at h5 h6; subst h5 h6; exact is1 h1 (hc 0 c _ rfl (by simp [hlt])).1
      | succ q => simp at h5; exact h4 q t' v h5 (by simpa using h6)
  | @tmpT s y t l ys h hv _ ih =>
    obtain ⟨vs, h2, h3, h4⟩ := ih
    refine ⟨a.tmps.getD s undef :: vs, ?_, by simp [h3], fun i t' v h5 h6 => ?_⟩
    · simp only [List.mapM_cons, resF, Sem.run_bind, Sem.run_pure, Result.andThen_ok, h2]
    · cases i with
      | zero =>
        simp at h5 h6; subst h5; rw [← h6]
        exact hv.ok hr.env (by have := hr.tmps s y h; simpa [Act.eval] using this)
      | succ i => simp at h5; exact h4 i t' v h5 (by simpa using h6)
  | @cellT s i ty n cs us ys l h hb hT hv hn _ hq ih =>
    obtain ⟨vs, h1, h2, h3⟩ := ih
    obtain ⟨_, hp⟩ := hr.tmps s _ h
    have hp' : a.tmps.getD s undef = .pointer (some ⟨g.gb i, 0, none⟩) := hp
    obtain ⟨xs, ty', hh, hs, hc, _⟩ := hr.env.boxes i cs hb
    rw [ob_cells hq] at hh
    replace hs := hs.cell hq
    obtain ⟨e1, e2⟩ := hv.at
    have hcell : ∀ (j : Nat) v, xs.toList[j]? = some v → w.cell? ⟨g.gb i, 0 + j, none⟩ = some v := fun j v hj => by
      simp only [World.cell?, hh, Nat.zero_add]; simpa using hj
    have hld := run_load_agg (P := P) hT (w := w) (b := g.gb i) (off := 0) (cs := xs.toList) (by simp; omega) hcell
    refine ⟨.agg xs.toList.toArray :: vs, ?_, by simp [h2], fun q t' v h4 h5 => ?_⟩
    · simp only [Instr.loadAt, Instr.sureAddr, Sem.run_bind, Sem.run_pure, Result.andThen_ok] at hld
      simp only [List.mapM_cons, resF, Sem.run_bind, Sem.run_pure, Result.andThen_ok, hp', asAddr, hld, h1]
    · cases q with
      | zero =>
        simp at h4 h5; subst h4 h5
        refine TR.agg us xs (by omega) (fun v hv' => ?_) (fun j t v h6 h7 => ?_)
        · obtain ⟨j, hj⟩ := List.getElem?_of_mem hv'
          have hlt : j < cs.length := by rw [← hs]; simpa using (List.getElem?_eq_some_iff.1 hj).1
          exact (hc j _ v (List.getElem?_eq_getElem hlt) (by simpa using hj)).2
        · obtain ⟨x, h8, h9⟩ := e2 j t h6
          exact h9.ok hr.env (hc j x v h8 h7).1
      | succ q => simp at h4; exact h3 q t' v h4 (by simpa using h5)
theorem resultsA_ok {P : Program} {C : Ctx} {N : Nat} {st : St} {a : Act} {w : World} {m : Mm} {g : Gh} (hr : RelG C N st a w m g) {fn : Func} {ts : List A} (h : ResA P st fn.results.toList ts) : ∃ v, (results fn a.tmps).run P w = .ok v w ∧ AR m g (resA ts) v := by
  obtain ⟨vs, h1, h2, h3⟩ := resA_ok hr h
  refine ⟨if h : vs.toArray.size = 1 then vs.toArray[0] else .tuple vs.toArray, ?_, ?_⟩
  · have hm : (fn.results.mapM (resF a)).run P w = .ok vs.toArray w := by
      rw [← Array.toArray_toList (xs := fn.results), List.mapM_toArray, map_eq_pure_bind, Sem.run_bind, h1]; rfl
    show ((fn.results.mapM (resF a) >>= fun vs => pure (if h : vs.size = 1 then vs[0] else .tuple vs)) : Sem Value).run P w = _
    rw [Sem.run_bind, hm]; rfl
  · match ts, vs, h2 with
    | [], [], _ => exact ⟨#[], rfl, rfl, fun j t v h => by simp at h⟩
    | [t], [v], _ => exact (h3 0 t v rfl rfl).two
    | t :: t' :: ts, v :: v' :: vs, h2 => exact ⟨_, rfl, by simpa using h2, fun j t v h4 h5 => h3 j t v h4 (by simpa using h5)⟩

/-- blocks that are lent -/
def isRs : Option (List A) → Bool
  | some [.rs _] => true
  | _ => false
theorem isRs_spec {o : Option (List A)} (h : isRs o = true) : ∃ R, o = some [.rs R] := by
  unfold isRs at h; split at h
  · exact ⟨_, rfl⟩
  · cases h
def lentB (g : Gh) (bx : List (Nat × List A)) (ow : List (Nat × Own)) (b : Nat) : Bool := (bx.any fun p => Nat.beq (g.gb p.1) b) || (ow.any fun p => match (g.go p.1).ownBlock with | some c => Nat.beq c b | none => false) || bx.any fun p => chB p.1 && (isRs (get bx p.1) && g.sf p.1 b)
def lentC (w : World) (m : Mm) (g : Gh) (bx : List (Nat × List A)) (ow : List (Nat × Own)) : Ctx := ⟨w, m, lentB g bx ow, g.go, g.gb, g.rp⟩
theorem get_mem {β : Type} {l : List (Nat × β)} {i : Nat} {x : β} (h : get l i = some x) : (i, x) ∈ l := by
  induction l with
  | nil => cases h
  | cons p l ih =>
    obtain ⟨j, y⟩ := p
    rw [get_cons] at h
    split at h
    · rename_i e; subst e; injection h with h; subst h; simp
    · exact List.mem_cons_of_mem _ (ih h)
theorem mem_get {β : Type} {l : List (Nat × β)} {p : Nat × β} (h : p ∈ l) : ∃ x, get l p.1 = some x := by
  induction l with
  | nil => cases h
  | cons q l ih =>
    obtain ⟨j, y⟩ := q
    rw [get_cons]
    by_cases e : j = p.1
    · exact ⟨y, by rw [if_pos e]⟩
    · rw [if_neg e]
      rcases List.mem_cons.1 h with h | h
      · subst h; exact absurd rfl e
      · exact ih h
theorem lent_spec {g : Gh} {bx : List (Nat × List A)} {ow : List (Nat × Own)} {b : Nat} (h : lentB g bx ow b = true) : (∃ i cs, get bx i = some cs ∧ g.gb i = b) ∨ (∃ i o, get ow i = some o ∧ (g.go i).ownBlock = some b) ∨ ∃ i R, chB i = true ∧ get bx i = some [.rs R] ∧ g.sf i b = true := by
  unfold lentB at h
  rw [Bool.or_eq_true, Bool.or_eq_true] at h
  rcases h with (h | h) | h
  · obtain ⟨p, h1, h2⟩ := List.any_eq_true.1 h
    obtain ⟨x, h3⟩ := mem_get h1
    exact .inl ⟨p.1, x, h3, Nat.eq_of_beq_eq_true h2⟩
  · obtain ⟨p, h1, h2⟩ := List.any_eq_true.1 h
    obtain ⟨x, h3⟩ := mem_get h1
    refine .inr (.inl ⟨p.1, x, h3, ?_⟩)
    split at h2
    · rename_i c hc; rw [hc, Nat.eq_of_beq_eq_true h2]
    · cases h2
  · obtain ⟨p, h1, h2⟩ := List.any_eq_true.1 h
    simp only [Bool.and_eq_true] at h2
    obtain ⟨R, hR⟩ := isRs_spec h2.2.1
    exact .inr (.inr ⟨p.1, R, h2.1, hR, h2.2.2⟩)
theorem lent_rs {g : Gh} {bx : List (Nat × List A)} {ow : List (Nat × Own)} {i b : Nat} {R : Rsc} (hi : chB i = true) (h : get bx i = some [.rs R]) (hs : g.sf i b = true) : lentB g bx ow b = true := by
  unfold lentB
  rw [Bool.or_eq_true]
  refine .inr (List.any_eq_true.2 ⟨_, get_mem h, ?_⟩)
  rw [h]; simp [hi, isRs, hs]
theorem lent_bx {g : Gh} {bx : List (Nat × List A)} {ow : List (Nat × Own)} {i : Nat} {cs : List A} (h : get bx i = some cs) : lentB g bx ow (g.gb i) = true := by
  unfold lentB
  rw [Bool.or_eq_true, Bool.or_eq_true]
  exact .inl (.inl (List.any_eq_true.2 ⟨_, get_mem h, Nat.beq_refl _⟩))
theorem lent_ow {g : Gh} {bx : List (Nat × List A)} {ow : List (Nat × Own)} {i b : Nat} {o : Own} (h : get ow i = some o) (hb : (g.go i).ownBlock = some b) : lentB g bx ow b = true := by
  unfold lentB
  rw [Bool.or_eq_true, Bool.or_eq_true]
  exact .inl (.inr (List.any_eq_true.2 ⟨_, get_mem h, by simp only [hb]; exact Nat.beq_refl _⟩))
structure LCalls (P : Program) (f : FuncId) (args : List A) (bx0 : List (Nat × List A)) (ow0 : List (Nat × Own)) (r : A) (bx1 : List (Nat × List A)) (ow1 : List (Nat × Own)) : Prop where
  ent : ∀ (args : Array Value) (w : World), (callFunc f args).run P w = .ok (.enter f args) w
  run : ∀ (m : Mm) (w : World) (g : Gh) (vals : Array Value), EnvG (lentC w m g bx0 ow0) bx0 ow0 w m g → vals.size = args.length → (∀ (i : Nat) x v, args[i]? = some x → vals[i]? = some v → AR m g x v) →
    Calls P f vals w fun e w' => ∃ v m' g', e = .returned v ∧ EnvG (lentC w m g bx0 ow0) bx1 ow1 w' m' g' ∧ AR m' g' r v
theorem envg_sub {C : Ctx} {bx bx' : List (Nat × List A)} {ow ow' : List (Nat × Own)} {w : World} {m : Mm} {g : Gh} (he : EnvG C bx ow w m g) (h2 : SubX bx bx' ow' bx') (h3 : SubW ow ow') :
    EnvG C bx' ow' w m { g with lb := fun i => (get bx' i).isSome, lw := fun i => (get ow' i).isSome } ∧ ∀ {x : A} {v : Value}, AR m g x v → x.live bx' ow' = true → AR m { g with lb := fun i => (get bx' i).isSome, lw := fun i => (get ow' i).isSome } x v := by
  have har : ∀ {x : A} {v : Value}, AR m g x v → x.live bx' ow' = true → AR m { g with lb := fun i => (get bx' i).isSome, lw := fun i => (get ow' i).isSome } x v := by
    intro x v h hl
    refine h.liftP (A.live0 bx' ow') (fun x v hl h => ?_) hl
    cases x with
    | bp i off => exact ⟨hl, h.2⟩
    | sb i n sz e => exact ⟨hl, h.2⟩
    | rp i k => exact ⟨h.1, hl, h.2.2⟩
    | own i n => exact ⟨hl, h.2⟩
    | oe i n sz k off => exact ⟨hl, h.2⟩
    | sfx i n sz k => exact ⟨hl, h.2⟩
    | _ => exact h
  refine ⟨{
      lo := he.lo, gm := he.gm, sub := he.sub, ext := he.ext, gt := he.gt, lb := fun i => rfl, lw := fun i => rfl
      ln := fun i o hi => he.ln i o (h3.get hi)
      boxes := fun i cs hi => by
        obtain ⟨h4, h5⟩ := h2.get hi
        obtain ⟨vs, ty, h6, h7, h8, h9⟩ := he.boxes i cs h4
        exact ⟨vs, ty, h6, h7, fun j x v hx hv => ⟨har (h8 j x v hx hv).1 ((List.all_eq_true.1 h5) x (List.mem_of_getElem? hx)), (h8 j x v hx hv).2⟩, h9⟩
      inj := fun i j ci cj hi hj h => he.inj i j ci cj (h2.get hi).1 (h2.get hj).1 h
      owns := fun i o hi => by
        obtain ⟨vs, h6, h7, h8, h9⟩ := he.owns i o (h3.get hi)
        exact ⟨vs, h6, h7, h8, fun b hb => ⟨(h9 b hb).1, fun j cs hj => (h9 b hb).2.1 j cs (h2.get hj).1, (h9 b hb).2.2⟩⟩
      apart := fun i j oi oj hi hj => he.apart i j oi oj (h3.get hi) (h3.get hj)
      pin := fun i o hi => he.pin i o (h3.get hi)
      pinb := fun i cs hi => he.pinb i cs (h2.get hi).1
      rs := he.rsF (fun _ => False) (fun i R _ hi => ⟨(h2.get hi).1, rfl, rfl, rfl⟩) (fun i cs _ hi _ => ⟨rfl, cs, (h2.get hi).1⟩) (fun _ h => h.elim) (fun _ _ _ => rfl) (fun _ _ _ h => h) (fun _ _ _ h => h) (fun j cs hj => .inl ⟨j, cs, (h2.get hj).1, rfl⟩) (fun j o hj b hb => .inl ⟨j, o, h3.get hj, hb⟩) }, har⟩
def argTmA : Nat → List A → List (Nat × A)
  | _, [] => []
  | i, t :: ts => (i, t) :: argTmA (i + 1) ts
theorem argTmA_get : ∀ (ts : List A) (i s : Nat) (x : A), get (argTmA i ts) s = some x → i ≤ s ∧ ts[s - i]? = some x
  | [], i, s, x, h => by cases h
  | t :: ts, i, s, x, h => by
    unfold argTmA at h
    rw [get_cons] at h
    split at h
    · rename_i e; subst e; injection h with h; exact ⟨Nat.le_refl _, by simp [h]⟩
    · obtain ⟨h1, h2⟩ := argTmA_get ts (i + 1) s x h
      refine ⟨by omega, ?_⟩
      rw [show s - i = (s - (i + 1)) + 1 by omega]; simpa using h2
structure RetL (P : Program) (fn : Func) (r : A) (bx1 : List (Nat × List A)) (ow1 : List (Nat × Own)) (e : Exit) (st : St) : Prop where
  go : (e = .normal ∨ e = .ret) ∧ ∃ ts, ResA P st fn.results.toList ts ∧ r = resA ts ∧ r.live bx1 ow1 = true ∧ SubX st.bx bx1 ow1 bx1 ∧ SubW st.ow ow1
theorem retl {P : Program} {fn : Func} {r : A} {bx1 : List (Nat × List A)} {ow1 : List (Nat × Own)} {e : Exit} {st : St} {l : List ResultVar} {ts : List A} (he : e = .normal ∨ e = .ret) (hl : fn.results.toList = l) (h : ResA P st l ts) (hr : r = resA ts) (hv : r.live bx1 ow1 = true) (h1 : SubX st.bx bx1 ow1 bx1) (h2 : SubW st.ow ow1) : RetL P fn r bx1 ow1 e st := ⟨⟨he, ts, by rw [hl]; exact h, hr, hv, h1, h2⟩⟩
theorem retl1 {P : Program} {fn : Func} {r : A} {bx1 : List (Nat × List A)} {ow1 : List (Nat × Own)} {e : Exit} {st : St} {l : List ResultVar} (he : e = .normal ∨ e = .ret) (hl : fn.results.toList = l) (h : ResA P st l [r]) (hv : r.live bx1 ow1 = true) (h1 : SubX st.bx bx1 ow1 bx1) (h2 : SubW st.ow ow1) : RetL P fn r bx1 ow1 e st := retl he hl h rfl hv h1 h2
theorem lcalls_of {P : Program} {f : FuncId} {fn : Func} {c : Code} {args : List A} {bx0 bx1 : List (Nat × List A)} {ow0 ow1 : List (Nat × Own)} {r : A} {N : Nat} (hf : P.funcs[f]? = some fn) (hb : fn.body = some c) (hname : (fn.name == "runtime.NumGoroutine") = false) (hN : fn.ntmps = N) (hargs : Nat.ble args.length N = true)
    (h : SWp P N c (RetL P fn r bx1 ow1) ⟨argTmA 0 args, bx0, ow0⟩) : LCalls P f args bx0 ow0 r bx1 ow1 where
  ent := fun vals w => by
    have hname' : ¬ fn.name = "runtime.NumGoroutine" := by simpa using hname
    simp [callFunc, hf, hname', hb]
  run := fun m w g vals he hl hv => by
    refine calls_of_wk hf hb ?_
    have hal := Nat.le_of_ble_eq_true hargs
    have hrel : Rel (lentC w m g bx0 ow0) N ⟨argTmA 0 args, bx0, ow0⟩ { tmps := vals ++ Array.replicate (fn.ntmps - vals.size) undef, defers := [] } w := by
      refine ⟨m, g, he, by simp [hN]; omega, rfl, fun s x hx => ?_⟩
      obtain ⟨_, h2⟩ := argTmA_get args 0 s x hx
      rw [Nat.sub_zero] at h2
      have hlt : s < vals.size := by rw [hl]; exact (List.getElem?_eq_some_iff.1 h2).1
      have : (Act.eval { tmps := vals ++ Array.replicate (fn.ntmps - vals.size) undef, defers := [] } (.tmp s)) = vals[s] := by
        show (vals ++ Array.replicate (fn.ntmps - vals.size) undef).getD s undef = _
        rw [Array.getD_eq_getD_getElem?, Array.getElem?_append_left hlt, Array.getElem?_eq_getElem hlt]; rfl
      rw [this]
      exact hv s x _ h2 (Array.getElem?_eq_getElem hlt)
    refine wk_mono ?_ (h.go _ _ w hrel)
    rintro e a' w' ⟨st, ⟨m', g', hr⟩, ⟨he, ts, hres, rfl, hlv, hx, hw⟩⟩
    obtain ⟨v, h1, h2⟩ := resultsA_ok hr hres
    obtain ⟨h3, h4⟩ := envg_sub hr.env hx hw
    rcases he with rfl | rfl <;> exact ⟨hr.defers, v, h1, v, m', _, rfl, h3, h4 h2 hlv⟩
end Go.Proofs.Ytgbcmjcaggnobaa.Sim
