/- Merged by bundles.py: SimS, SimU. -/
import Derived.Test.YtabejnjnkpdjbaaU9
import Derived.Lib.SliceRun
/- A logic of states: rows that are the call's alone, shortened. -/
namespace Go.Proofs.Ytabejnjnkpdjbaa.Sim
set_option linter.unusedVariables false
set_option linter.unusedSimpArgs false
open Go.RowKit Mem

section
variable {C : Ctx} {bx : List (Nat × List A)} {ow : List (Nat × Own)} {w : World} {m : Mm} {g : Gh}
theorem EnvG.shrink (he : EnvG C bx ow w m g) {i k cap cap' b : Nat} {e : TypeId} {sz : Nat} {rows : List (List T)} {A0 : Option Addr} (hi : get ow i = some ⟨e, sz, rows⟩) (hh : hid i = true) (h2 : Nat.ble 2000 i = false) (hk : k ≤ rows.length) (hc1 : k ≤ cap') (hc2 : cap' ≤ cap)
    (hgo : (g.go i = .slice none 0 0 ∧ A0 = none ∧ cap = 0) ∨ (g.go i = .slice (some ⟨b, 0, none⟩) rows.length cap ∧ A0 = some ⟨b, 0, none⟩)) :
    EnvG C (bx.map fun p => (p.1, p.2.map (A.clr fun j => Nat.beq j i))) ((i, ⟨e, sz, rows.take k⟩) :: ow) w m (g.setO i (.slice A0 k cap') k) ∧ ∀ x v, AR m g x v → AR m (g.setO i (.slice A0 k cap') k) (x.clr fun j => Nat.beq j i) v := by
  obtain ⟨vs, hown, hrl, hca, hbk⟩ := he.owns i _ hi
  dsimp only at hown hrl hca hbk
  have hgj : ∀ q, q ≠ i → (g.setO i (.slice A0 k cap') k).go q = g.go q ∧ (g.setO i (.slice A0 k cap') k).ln q = g.ln q ∧ (g.setO i (.slice A0 k cap') k).lw q = g.lw q := fun q hq => ⟨if_neg hq, if_neg hq, if_neg hq⟩
  have hgi : (g.setO i (.slice A0 k cap') k).go i = .slice A0 k cap' ∧ (g.setO i (.slice A0 k cap') k).ln i = k ∧ (g.setO i (.slice A0 k cap') k).lw i = true := ⟨if_pos rfl, if_pos rfl, if_pos rfl⟩
  have hblk : (Value.slice A0 k cap').ownBlock = (g.go i).ownBlock := by
    rcases hgo with ⟨h1, rfl, _⟩ | ⟨h1, rfl⟩ <;> rw [h1] <;> rfl
  have L0 : ∀ x v, AR0 m g x v → AR0 m (g.setO i (.slice A0 k cap') k) (clr0 (fun j => Nat.beq j i) x) v := by
    intro x v hx
    cases x with
    | own q n =>
      show AR0 m _ (bif Nat.beq q i then .any else .own q n) v
      cases hb : Nat.beq q i with
      | true => trivial
      | false =>
        obtain ⟨e1, e2, e3⟩ := hgj q (Nat.ne_of_beq_eq_false hb)
        exact ⟨e3.trans hx.1, by rw [e2]; exact hx.2.1, hx.2.2.1, by rw [e1, e2]; exact hx.2.2.2⟩
    | ev q n u =>
      show AR0 m _ (bif Nat.beq q i then .any else .ev q n u) v
      cases hb : Nat.beq q i with
      | true => trivial
      | false =>
        obtain ⟨e1, e2, e3⟩ := hgj q (Nat.ne_of_beq_eq_false hb)
        exact ⟨e3.trans hx.1, by rw [e2]; exact hx.2.1, hx.2.2.1, by rw [e1, e2]; exact hx.2.2.2⟩
    | oe q n sz kk off =>
      show AR0 m _ (bif Nat.beq q i then .any else .oe q n sz kk off) v
      cases hb : Nat.beq q i with
      | true => trivial
      | false =>
        obtain ⟨e1, e2, e3⟩ := hgj q (Nat.ne_of_beq_eq_false hb)
        exact ⟨e3.trans hx.1, by rw [e2]; exact hx.2.1, hx.2.2.1, by rw [e1, e2]; exact hx.2.2.2⟩
    | sfx q n sz kk =>
      show AR0 m _ (bif Nat.beq q i then .any else .sfx q n sz kk) v
      cases hb : Nat.beq q i with
      | true => trivial
      | false =>
        obtain ⟨e1, e2, e3⟩ := hgj q (Nat.ne_of_beq_eq_false hb)
        exact ⟨e3.trans hx.1, by rw [e2]; exact hx.2.1, hx.2.2.1, by rw [e1, e2]; exact hx.2.2.2⟩
    | _ => exact hx
  have L : ∀ x v, AR m g x v → AR m (g.setO i (.slice A0 k cap') k) (x.clr fun j => Nat.beq j i) v := fun x v hx => hx.mp _ (fun _ => true) (fun x v _ => L0 x v) (allt x)
  have hbx : ∀ q cs, get (bx.map fun p => (p.1, p.2.map (A.clr fun j => Nat.beq j i))) q = some cs → ∃ c0, get bx q = some c0 ∧ cs = c0.map (A.clr fun j => Nat.beq j i) := fun q cs hq => by
    rw [get_map2] at hq
    cases hc : get bx q with
    | none => rw [hc] at hq; cases hq
    | some c0 => rw [hc] at hq; injection hq with hq; exact ⟨c0, rfl, hq.symm⟩
  have hlen : (rows.take k).length = k := by simp; omega
  refine ⟨{
    lo := he.lo, gm := he.gm, sub := he.sub, ext := he.ext, gt := he.gt
    lb := fun q => by rw [get_map2]; rw [show (Option.map (List.map (A.clr fun j => Nat.beq j i)) (get bx q)).isSome = (get bx q).isSome by cases get bx q <;> rfl]; exact he.lb q
    lw := fun q => by
      rw [get_cons]
      by_cases hq : i = q
      · subst hq; rw [if_pos rfl, hgi.2.2]; rfl
      · rw [if_neg hq, (hgj q (fun e => hq e.symm)).2.2]; exact he.lw q
    ln := fun q o' hq => by
      rw [get_cons] at hq
      by_cases hqi : i = q
      · subst hqi; rw [if_pos rfl] at hq; injection hq with hq; subst hq; rw [hgi.2.1]; exact hlen.symm
      · rw [if_neg hqi] at hq; rw [(hgj q (fun e => hqi e.symm)).2.1]; exact he.ln q o' hq
    boxes := fun q cs hq hcq => by
      obtain ⟨c0, hc, rfl⟩ := hbx q cs hq
      obtain ⟨us, ty, h1, h2, h3, h4, h5⟩ := he.boxes q c0 hc hcq
      refine ⟨us, ty, h1, .ce (c := g.cz) (by simpa using h2) rfl, fun p x u hx hu => ?_, h4, h5⟩
      rw [List.getElem?_map] at hx
      cases hp : c0[p]? with
      | none => rw [hp] at hx; cases hx
      | some y => rw [hp] at hx; injection hx with hx; subst hx; exact ⟨L y u (h3 p y u hp hu).1, (h3 p y u hp hu).2⟩
    inj := fun p q cp cq hp hq hcp hcq e => by
      obtain ⟨c0, h1, _⟩ := hbx p cp hp
      obtain ⟨c2, h3, _⟩ := hbx q cq hq
      exact he.inj p q c0 c2 h1 h3 hcp hcq e
    owns := fun q o' hq => by
      rw [get_cons] at hq
      by_cases hqi : i = q
      · subst hqi
        rw [if_pos rfl] at hq; injection hq with hq; subst hq
        rw [hgi.1]
        refine ⟨vs.take (k * sz), ?_, fun r hr => hrl r (List.mem_of_mem_take hr), ?_, fun b' hb' => ?_⟩
        · show RowM w 0 e sz (.slice A0 k cap') (rows.take k).length (vs.take (k * sz))
          rw [hlen]
          obtain ⟨h5, h6⟩ := hown
          have hks : k * sz ≤ rows.length * sz := Nat.mul_le_mul_right _ hk
          refine ⟨by simp; omega, ?_⟩
          rcases hgo with ⟨h1, rfl, rfl⟩ | ⟨h1, rfl⟩
          · rcases h6 with ⟨_, h7⟩ | ⟨b2, cap2, cur, h7, _⟩
            · exact .inl ⟨by rw [show k = 0 by omega, show cap' = 0 by omega], by omega⟩
            · rw [h1] at h7; cases h7
          · rcases h6 with ⟨h7, _⟩ | ⟨b2, cap2, cur, h7, h8, h9, h10, h11, h12, h13⟩
            · rw [h1] at h7; cases h7
            · rw [h1] at h7; injection h7 with h7 _ h14; injection h7 with h7; injection h7 with h7; subst h7 h14
              exact .inr ⟨b, cap', cur, rfl, h8, h9, by omega, Nat.le_trans hc2 h11, Nat.le_trans (Nat.mul_le_mul_right _ hc2) h12, by rw [← h13, List.take_take, Nat.min_eq_left hks]⟩
        · show CellsAre m (rows.take k).flatten _
          rw [flat_take hrl]; exact hca.take _
        · rw [hblk] at hb'
          refine ⟨fun p => by rw [(hbk b' hb').1 p, vis_hid hh, vis_hid hh], fun p cp hp hcp => ?_, (hbk b' hb').2.2⟩
          obtain ⟨c0, h1, _⟩ := hbx p cp hp
          exact (hbk b' hb').2.1 p c0 h1 hcp
      · rw [if_neg hqi] at hq
        rw [(hgj q (fun e => hqi e.symm)).1]
        obtain ⟨us, h1, h2, h3, h4⟩ := he.owns q o' hq
        refine ⟨us, h1, h2, h3, fun b' hb' => ⟨(h4 b' hb').1, fun p cp hp hcp => ?_, (h4 b' hb').2.2⟩⟩
        obtain ⟨c0, h5, _⟩ := hbx p cp hp
        exact (h4 b' hb').2.1 p c0 h5 hcp
    apart := fun p q op oq hp hq hpq b' hb' => by
      rw [get_cons] at hp hq
      by_cases hpi : i = p
      · subst hpi
        rw [hgi.1, hblk] at hb'
        rw [if_neg hpq] at hq
        rw [(hgj q (fun e => hpq e.symm)).1]
        exact he.apart i q _ oq hi hq hpq b' hb'
      · rw [if_neg hpi] at hp
        rw [(hgj p (fun e => hpi e.symm)).1] at hb'
        by_cases hqi : i = q
        · subst hqi; rw [hgi.1, hblk]; exact he.apart p i op _ hp hi hpq b' hb'
        · rw [if_neg hqi] at hq
          rw [(hgj q (fun e => hqi e.symm)).1]; exact he.apart p q op oq hp hq hpq b' hb'
    pin := fun q o' hq hq2 => by
      rw [get_cons] at hq
      by_cases hqi : i = q
      · subst hqi; rw [h2] at hq2; cases hq2
      · rw [if_neg hqi] at hq; rw [(hgj q (fun e => hqi e.symm)).1]; exact he.pin q o' hq hq2
    pinb := fun q cs hq hq2 => by
      obtain ⟨c0, hc, _⟩ := hbx q cs hq
      exact he.pinb q c0 hc hq2
    rs := he.rsF (fun _ => False) (fun k R _ hk => ⟨rs_map clr0_rs (by rw [get_map2] at hk; exact hk), rfl, rfl⟩) (fun k cs _ hk _ => by
      rw [get_map2] at hk
      cases hc : get bx k with
      | none => rw [hc] at hk; cases hk
      | some c0 => exact ⟨rfl, c0, by first | exact hc | rfl⟩) (fun _ h => h.elim) (fun _ _ _ => rfl) (fun _ _ _ h => h) (fun _ _ _ h => h) (fun k cs hk hck => by
      rw [get_map2] at hk
      cases hc : get bx k with
      | none => rw [hc] at hk; cases hk
      | some c0 => exact .inl ⟨k, c0, by first | exact hc | rfl, hck, rfl⟩) (fun q o' hq b' hb' => by
      rw [get_cons] at hq
      by_cases hqi : i = q
      · subst hqi; rw [hgi.1, hblk] at hb'; exact .inl ⟨i, _, hi, hb'⟩
      · rw [if_neg hqi] at hq
        rw [(hgj q (fun e => hqi e.symm)).1] at hb'
        exact .inl ⟨q, o', hq, hb'⟩) }, L⟩
end
section
variable {P : Program} {N : Nat} {Q : Exit → St → Prop} {ops : Array Oper} {rest : List Oper} {o : Oper} {tm : List (Nat × A)} {bx : List (Nat × List A)} {ow : List (Nat × Own)} {ρ : Operand → Option A}
end
end Go.Proofs.Ytabejnjnkpdjbaa.Sim
namespace Go.Proofs.Ytabejnjnkpdjbaa.Sim
set_option linter.unusedVariables false
set_option linter.unusedSimpArgs false
open Go.RowKit Mem
section
variable {P : Program} {N : Nat} {Q : Exit → St → Prop} {ops : Array Oper} {rest : List Oper} {o : Oper} {tm : List (Nat × A)} {bx bx0 bx1 : List (Nat × List A)} {ow ow0 ow1 : List (Nat × Own)}
theorem sops_lcall_tclo {f : FuncId} {xz : Operand} {caps : List T} {xs : List Operand} {at_ : Array TypeId} {args : List A} {r : A} {d : Nat} (hc : LCalls P f (args ++ caps.map A.t) bx0 ow0 r bx1 ow1) (fb fw : Nat → Nat) (kp : Nat → Bool) (hg : GuardIs ops tm o true) (ho : o.op = .call { callee := .value xz, args := xs.toArray, argTypes := at_ }) (hd : o.dst = some d) (hN : Nat.blt d N = true)
    (hz : evA tm xz = some (.t (.clo f caps))) (ha : ArgsL fb fw ow bx0 ow0 (evA tm) xs args) (hx : LentX fb fw bx bx0) (hw : LentW fw ow ow0) (hl : (bx0.all fun p => p.2.all fun x => x.live bx0 ow0) = true) (hB : lendB fb fw bx bx0 bx1 ow ow0 ow1 = true)
    (hkp : ∀ i, kp i = true → Nat.ble 2000 i = true ∧ ∃ o0 o1, get ow0 i = some o0 ∧ get ow1 i = some o1 ∧ o1.rows.length = o0.rows.length)
    (h : SOps P N ops Q rest ⟨(d, r.ren fb fw) :: tm.map (fun p => (p.1, p.2.clr (chgOf fw kp ow0))), bxAft fb fw (chgOf fw kp ow0) bx1 bx, owAft fw ow0 ow1 ow⟩) : SOps P N ops Q (o :: rest) ⟨tm, bx, ow⟩ := by
  have hL := lend_of (kp := kp) hx hw hl hB hkp
  refine .mk fun C a w ⟨m, g, hr⟩ => ?_
  obtain ⟨h1, h2⟩ := ha.ok hL hr.env (a := a) (fun x _ y hy => hr.ev hy)
  have h0 : TR m (.clo f caps) (a.eval xz) := hr.ev hz
  generalize hvz : a.eval xz = vz at h0
  cases h0 with
  | clo f caps vs hvl hvc =>
    have hrun : (execOp a.eval o).run P w = .ok (.enter f ((xs.map a.eval).toArray ++ vs)) w := by
      have := hc.ent ((xs.map a.eval).toArray ++ vs) w
      simp only [execOp, ho, resolve, Deferred.ofValue, hvz, invoke, Sem.run_bind, Sem.run_pure, Result.andThen_ok, List.map_toArray, Array.append_empty, Array.empty_append] at this ⊢
      simpa using this
    refine wpList_step fun K hK => ?_
    rw [if_pos (hg.wanted (m := m) (g := g) fun j want e _ _ y hy => hr.tmps e y hy)]
    refine wp_call_of hrun (hc.run m w _ _ (hL.env_in hr.env) (by simp [h1, hvl]) (fun i x v h3 h4 => ?_)) ?_
    · rw [List.getElem?_append] at h3
      rw [Array.getElem?_append] at h4
      by_cases hi : i < args.length
      · rw [if_pos hi] at h3
        rw [if_pos (by simp; omega)] at h4
        exact h2 i x v h3 (by simpa using h4)
      · rw [if_neg hi] at h3
        rw [if_neg (by simp; omega)] at h4
        rw [List.getElem?_map] at h3
        cases hc' : caps[i - args.length]? with
        | none => rw [hc'] at h3; cases h3
        | some t =>
          rw [hc'] at h3; injection h3 with h3; subst h3
          exact hvc (i - args.length) t v hc' (by rw [← h1]; simpa using h4)
    rintro e w' ⟨v, m', g', rfl, henv, hv⟩
    obtain ⟨g'', e1, e2, e3⟩ := hL.env_out hr.env henv
    refine ⟨v, rfl, hK _ _ (h.go C _ _ ⟨m', g'', ?_⟩)⟩
    rw [hd]
    have hrel : RelG C N ⟨tm.map (fun p => (p.1, p.2.clr (chgOf fw kp ow0))), bxAft fb fw (chgOf fw kp ow0) bx1 bx, owAft fw ow0 ow1 ow⟩ a w' m' g'' := ⟨e1, hr.size, hr.defers, fun s x hx => by
      rw [show get (tm.map fun p => (p.1, p.2.clr (chgOf fw kp ow0))) s = _ from get_mapv _ _ _] at hx
      cases h5 : get tm s with
      | none => rw [h5] at hx; cases hx
      | some y => rw [h5] at hx; injection hx with hx; subst hx; exact e2 y _ (hr.tmps s y h5)⟩
    exact hrel.put e1 (fun x v h => h) (Nat.lt_of_succ_le (Nat.le_of_ble_eq_true hN)) (e3 r v hv)
end
end Go.Proofs.Ytabejnjnkpdjbaa.Sim

/- A logic of states: is a slice nil; an empty row of the call's own, under any number. -/
namespace Go.Proofs.Ytabejnjnkpdjbaa.Sim
set_option linter.unusedVariables false
set_option linter.unusedSimpArgs false
open Go.RowKit Mem
section
variable {P : Program} {N : Nat} {Q : Exit → St → Prop} {ops : Array Oper} {rest : List Oper} {o : Oper} {tm : List (Nat × A)} {bx : List (Nat × List A)} {ow : List (Nat × Own)}
theorem sops_isnil {t t2 sz d : Nat} {x : Operand} {y : A} {rows : List (List T)} (hg : GuardIs ops tm o true) (ho : o.op = .binOp .eql t x (.const (.slice none 0 0)) t2) (hd : o.dst = some d) (hN : Nat.blt d N = true) (hx : evA tm x = some y) (hv : Vw ow y (.sl sz rows)) (hT : sliceSz P t = some sz)
    (h : ∀ b, (b = true → rows = []) → SOps P N ops Q rest ⟨(d, .t (.v (.bool b))) :: tm, bx, ow⟩) : SOps P N ops Q (o :: rest) ⟨tm, bx, ow⟩ := by
  refine .mk fun C a w ⟨m, g, hr⟩ => ?_
  have hvt : TR m (.sl sz rows) (a.eval x) := hv.ok hr.env (hr.ev hx)
  obtain ⟨e, ii, hu, _⟩ := sliceSz_spec hT
  generalize hvx : a.eval x = v at hvt
  cases hvt with
  | sl _ _ A0 b off cap u hc hm hA hrl hu' ht =>
    have hrun : (execOp a.eval o).run P w = .ok (.value (.bool A0.isNone)) w := by
      have := Lib.run_eql_slice_nil (P := P) w t e A0 rows.length cap 0 0 hu
      have hc0 : a.eval (.const (.slice none 0 0)) = .slice none 0 0 := rfl
      have hgd : (eqGuard .eql t x (.const (.slice none 0 0)) (.slice A0 rows.length cap) (.slice none 0 0)).run P w = .ok () w := by simp [eqGuard]
      simp only [execOp, ho, hvx, hc0, Sem.run_bind, Sem.run_pure, Result.andThen_ok, this, hgd]
    have hb : A0.isNone = true → rows = [] := fun hn => by
      cases rows with
      | nil => rfl
      | cons r rs => rw [hA (by simp)] at hn; cases hn
    refine wpList_step fun K hK => ?_
    rw [if_pos (hg.wanted (m := m) (g := g) fun j want e _ _ y hy => hr.tmps e y hy)]
    refine wp_of_run hrun (hK _ _ ((h A0.isNone hb).go C _ _ ⟨m, g, ?_⟩))
    rw [hd]
    exact hr.put hr.env (fun x v h => h) (Nat.lt_of_succ_le (Nat.le_of_ble_eq_true hN)) (TR.v _)
theorem swp_ret_weak {st st' : St} (hw : Weak N st st') (h : Q .ret st') : SWp P N .ret Q st := .mk fun C a w hr => wk_of (wp_ret ⟨st', hw.go C a w hr, h⟩)
theorem sops_build0i (i : Nat) {t e sz by_ d : Nat} (hg : GuardIs ops tm o true) (ho : o.op = .buildSlice t 0 #[]) (hd : o.dst = some d) (hN : Nat.blt d N = true) (hT : sliceE P t = some (e, sz, by_)) (hi : get ow i = none)
    (h : SOps P N ops Q rest ⟨(d, .own i 0) :: tm, bx, (i, ⟨e, sz, []⟩) :: ow⟩) (hp : Nat.ble 2000 i = false := by rfl) : SOps P N ops Q (o :: rest) ⟨tm, bx, ow⟩ := by
  refine sops_run hg (fun C a w m g hr => ?_) h
  have he := hr.env
  obtain ⟨i', zv, hu, hi', _⟩ := sliceE_spec hT
  have hlw : g.lw i = false := by rw [he.lw, hi]; rfl
  refine ⟨.slice (some ⟨w.heap.size, 0, none⟩) 0 0, w.alloc (.cells #[] e), ?_, ?_⟩
  · simp [execOp, ho, Instr.buildSlice, run_underlying hu, sizeOf, typeInfo, hi', Instr.fill, newRow]
    congr 2
    exact Array.eq_empty_of_size_eq_zero (by simp)
  · obtain ⟨h8, h9⟩ := he.setO (hp := hp) (w' := w.alloc (.cells #[] e)) (i := i) (v := .slice (some ⟨w.heap.size, 0, none⟩) 0 0) (e := e) (sz := sz) (rows := []) (vs := []) (.of (World.ownsRow_made w #[] 0 (Nat.zero_le _) (Nat.zero_le _) (by simp))) (fun r h => by cases h) ⟨rfl, fun j t v h => by simp at h⟩ (.inr hi) (.inr ⟨fun b hb => by injection hb with hb; subst hb; exact Nat.le_refl _, (Lo.refl w).alloc _⟩)
    rw [hd]
    exact ⟨_, _, hr.put h8 (fun x u h => h.setO h9 (.inl hlw)) (Nat.lt_of_succ_le (Nat.le_of_ble_eq_true hN)) ⟨by simp [Gh.setO], by simp [Gh.setO], ⟨_, _, rfl⟩, fun _ => by simp [Gh.setO]⟩⟩
end
end Go.Proofs.Ytabejnjnkpdjbaa.Sim
