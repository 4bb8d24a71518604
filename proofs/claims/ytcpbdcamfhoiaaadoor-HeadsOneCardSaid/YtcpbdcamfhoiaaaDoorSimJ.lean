/- A logic of states: from slices in memory to data, and back; contracts of other walks. -/
import Derived.Test.YtcpbdcamfhoiaaaDoorSimI
namespace Go.Proofs.YtcpbdcamfhoiaaaDoor.Sim
set_option linter.unusedVariables false
set_option linter.unusedSimpArgs false
open Go.RowKit Mem

theorem tr_rows_fwd {α : Type} {R : Mem.Rel α} {enc : α → List T} {sz : Nat} {m : Mm} {w : World} (hs : Sub m w) (h0 : 0 < sz) {l : List α} {v : Value} (h : TR m (.sl sz (l.map enc)) v) (hR : ∀ x ∈ l, ∀ us : List Value, CellsAre m (enc x) us → R w.heap.size w x us) :
    ∃ A cap, v = .slice A l.length cap ∧ SliceAt R sz w.heap.size w A l ∧ l.length ≤ cap ∧ cap ≤ maxLen := by
  have key : ∀ {rows : List (List T)} {v : Value}, TR m (.sl sz rows) v → rows = l.map enc → ∃ A cap, v = .slice A l.length cap ∧ SliceAt R sz w.heap.size w A l ∧ l.length ≤ cap ∧ cap ≤ maxLen := by
    intro rows v h he
    cases h with
    | sl _ _ A b off cap u hc hm hA hr hu ht =>
      have hll : rows.length = l.length := by rw [he]; simp
      refine ⟨A, cap, by rw [hll], ?_, by omega, hm⟩
      intro k x hx
      have hk : rows[k]? = some (enc x) := by rw [he]; simp [hx]
      have hne : rows ≠ [] := fun e => by rw [e] at hk; simp at hk
      have hel := hr (enc x) (List.mem_of_getElem? hk)
      have hat : ∀ (j : Nat) v, ((List.range sz).map (u k))[j]? = some v → ∃ t, (enc x)[j]? = some t ∧ v = u k j := fun j v hj => by
        have hjn : j < sz := by have := (List.getElem?_eq_some_iff.1 hj).1; simpa using this
        rw [List.getElem?_map, List.getElem?_range hjn] at hj
        exact ⟨_, List.getElem?_eq_getElem (by omega), by simpa using hj.symm⟩
      refine ⟨b, off, (List.range sz).map (u k), hA hne, ?_, by simp, ?_, ?_⟩
      · obtain ⟨t, h1⟩ : ∃ t, (enc x)[0]? = some t := ⟨_, List.getElem?_eq_getElem (by omega)⟩
        exact hs.lt (hu k 0 _ t hk h1).1
      · intro j v hj
        obtain ⟨t, h1, rfl⟩ := hat j v hj
        exact hs _ _ _ (hu k j _ t hk h1).1
      · refine hR x (List.mem_of_getElem? hx) _ ⟨by simp [hel], fun j t v h1 h2 => ?_⟩
        obtain ⟨t', h3, rfl⟩ := hat j v h2
        exact ⟨ht k j _ t hk h1, (hu k j _ t hk h1).2⟩
  exact key h rfl
theorem tr_rows_bwd {α : Type} {R : Mem.Rel α} {enc : α → List T} {sz B : Nat} (m : Mm) {w : World} {A : Option Addr} {l : List α} {cap : Nat} (hA : SliceAt R sz B w A l) (h1 : l.length ≤ cap) (h2 : cap ≤ maxLen) (hsz : ∀ x, (enc x).length = sz)
    (hR : ∀ x ∈ l, ∀ cs, R B w x cs → CellsAre m (enc x) cs) (hm : ∀ b o v, b < B → w.cell? ⟨b, o, none⟩ = some v → m b o = some v) : TR m (.sl sz (l.map enc)) (.slice A l.length cap) := by
  have hlen : (l.map enc).length = l.length := List.length_map _
  rw [← hlen] at h1 ⊢
  cases l with
  | nil => exact tr_nil m sz h2
  | cons x0 r =>
    obtain ⟨b, off, cs0, rfl, hb, -, -, -⟩ := hA 0 x0 rfl
    have hat : ∀ (k : Nat) row, ((x0 :: r).map enc)[k]? = some row → ∃ cs : List Value, cs.length = sz ∧ (∀ (j : Nat) v, cs[j]? = some v → m b (off + (k * sz + j)) = some v) ∧ CellsAre m row cs := by
      intro k row hk
      rw [List.getElem?_map] at hk
      cases hx : (x0 :: r)[k]? with
      | none => rw [hx] at hk; cases hk
      | some x =>
        rw [hx] at hk
        simp at hk; subst hk
        obtain ⟨b', off', cs, e, hb', hl, hc, hr⟩ := hA k x hx
        injection e with e; injection e with e1 e2; subst e1 e2
        exact ⟨cs, hl, fun j v hj => hm _ _ _ hb (hc j v hj), hR x (List.mem_of_getElem? hx) cs hr⟩
    refine .sl sz _ (some ⟨b, off, none⟩) b off cap (fun k j => (m b (off + (k * sz + j))).getD undef) h1 h2 (fun _ => rfl) ?_ ?_ ?_
    · intro row hrow
      obtain ⟨x, _, rfl⟩ := List.mem_map.1 hrow
      exact hsz x
    all_goals
      intro k j row t hk hj
      obtain ⟨cs, hl, hc, hce⟩ := hat k row hk
      have hjl : j < cs.length := by rw [hce.1]; exact (List.getElem?_eq_some_iff.1 hj).1
      have h3 := hc j cs[j] (List.getElem?_eq_getElem hjl)
      have h4 := hce.2 j t cs[j] hj (List.getElem?_eq_getElem hjl)
      rw [h3]
    · exact ⟨rfl, h4.2⟩
    · exact h4.1
theorem args1 {m : Mm} {t0 : T} {vals : Array Value} (hl : vals.size = [t0].length) (hv : ∀ (i : Nat) t v, [t0][i]? = some t → vals[i]? = some v → TR m t v) : ∃ x0, vals = #[x0] ∧ TR m t0 x0 := by
  obtain ⟨l⟩ := vals
  match l, hl with
  | [x0], _ => exact ⟨x0, rfl, hv 0 _ _ rfl rfl⟩
theorem args2 {m : Mm} {t0 t1 : T} {vals : Array Value} (hl : vals.size = [t0, t1].length) (hv : ∀ (i : Nat) t v, [t0, t1][i]? = some t → vals[i]? = some v → TR m t v) : ∃ x0 x1, vals = #[x0, x1] ∧ TR m t0 x0 ∧ TR m t1 x1 := by
  obtain ⟨l⟩ := vals
  match l, hl with
  | [x0, x1], _ => exact ⟨x0, x1, rfl, hv 0 _ _ rfl rfl, hv 1 _ _ rfl rfl⟩
theorem args3 {m : Mm} {t0 t1 t2 : T} {vals : Array Value} (hl : vals.size = [t0, t1, t2].length) (hv : ∀ (i : Nat) t v, [t0, t1, t2][i]? = some t → vals[i]? = some v → TR m t v) : ∃ x0 x1 x2, vals = #[x0, x1, x2] ∧ TR m t0 x0 ∧ TR m t1 x1 ∧ TR m t2 x2 := by
  obtain ⟨l⟩ := vals
  match l, hl with
  | [x0, x1, x2], _ => exact ⟨x0, x1, x2, rfl, hv 0 _ _ rfl rfl, hv 1 _ _ rfl rfl, hv 2 _ _ rfl rfl⟩
theorem ent_of {P : Program} {f : FuncId} {fn : Func} {c : Code} (hf : P.funcs[f]? = some fn) (hb : fn.body = some c) (hname : (fn.name == "runtime.NumGoroutine") = false) : ∀ (args : Array Value) (w : World), (callFunc f args).run P w = .ok (.enter f args) w := fun args w => by
  have hname' : ¬ fn.name = "runtime.NumGoroutine" := by simpa using hname
  simp [callFunc, hf, hname', hb]
/-- what another walk shows: a result just so -/
theorem post_ex {m : Mm} {w w' : World} {v : Value} {t : T} (hs : Sub m w) (hl : Lo w w') (h : TR (upm m w w') t v) : ∃ v' m', Ending.returned v = .returned v' ∧ Lo w w' ∧ Ext m m' w.heap.size ∧ Sub m' w' ∧ TR m' t v' :=
  ⟨v, _, rfl, hl, ext_upm hs, upm_sub hs hl, h⟩
theorem tr_row_new {m : Mm} {w w' : World} {e : TypeId} {sz : Nat} {v : Value} {rows : List (List T)} {vs : List Value} (ho : w'.ownsRow w.heap.size e sz v rows.length vs) (hr : ∀ r ∈ rows, r.length = sz) (hc : CellsAre (upm m w w') rows.flatten vs) : TR (upm m w w') (.sl sz rows) v :=
  tr_owns (.of ho) hr hc fun b hb k u hu => by
    unfold upm
    rw [if_neg (by have := (ho.lt b hb).1; omega)]
    have := ho.cells hb k u hu
    rwa [addr_add, Nat.zero_add] at this
/-- the memory of a call's beginning, all of it -/
def allm (w : World) : Mm := fun b o => w.cell? ⟨b, o, none⟩
theorem sub_allm (w : World) : Sub (allm w) w := fun _ _ _ h => h
theorem PCalls.law {P : Program} {f : FuncId} {args : List T} {v : Value} (h : PCalls P f args (.v v)) (w : World) (vals : Array Value) (hl : vals.size = args.length) (hv : ∀ (i : Nat) t v, args[i]? = some t → vals[i]? = some v → TR (allm w) t v) :
    Calls P f vals w fun e w' => e = .returned v ∧ Lo w w' :=
  (h.run (allm w) w vals (sub_allm w) hl hv).mono fun e w' ⟨x, m', h1, h2, _, _, h3⟩ => ⟨by rw [h1, tr_v h3], h2⟩
theorem cells_ex {m : Mm} {ts : List T} {us : List Value} (h : CellsAre m ts us) (vs : List Value) (he : ts = vs.map .v) : us = vs := by
  subst he
  refine List.ext_getElem? fun j => ?_
  by_cases hj : j < vs.length
  · have hju : j < us.length := by rw [h.1]; simpa using hj
    have := (h.2 j (.v vs[j]) us[j] (by simp [hj]) (List.getElem?_eq_getElem hju)).1
    rw [List.getElem?_eq_getElem hju, List.getElem?_eq_getElem hj, tr_v this]
  · rw [List.getElem?_eq_none (by rw [h.1]; simpa using hj), List.getElem?_eq_none (by omega)]
theorem ex_cells (m : Mm) {vs : List Value} (h : ∀ v ∈ vs, v.oneCell' = true) : CellsAre m (vs.map .v) vs := by
  refine ⟨by simp, fun j t v h1 h2 => ?_⟩
  rw [List.getElem?_map, h2] at h1
  simp at h1; subst h1
  exact ⟨.v _, h v (List.mem_of_getElem? h2)⟩
end Go.Proofs.YtcpbdcamfhoiaaaDoor.Sim
