/- Merged by bundles.py: SimS, SimU, SimTab, Post, Open, PlMatch. -/
import Derived.Test.YtnclifgiakmmoaaGreatH10
import Derived.Lib.SliceRun
import Derived.Test.YtnclifgiakmmoaaGreatH6
import Derived.Test.YtnclifgiakmmoaaGreatH0
import Derived.ProofKit
import Derived.OpenShut
import Derived.Lib.SmallJoins
import Derived.ShutString
import Derived.ChangeSame
import Derived.Deep.Slices
/- A logic of states: rows that are the call's alone, shortened. -/
namespace Go.Proofs.YtnclifgiakmmoaaGreat.Sim
set_option linter.unusedVariables false
set_option linter.unusedSimpArgs false
open Go.RowKit Mem

section
variable {C : Ctx} {bx : List (Nat × List A)} {ow : List (Nat × Own)} {w : World} {m : Mm} {g : Gh}
theorem EnvG.shrink (he : EnvG C bx ow w m g) {i k cap cap' b : Nat} {e : TypeId} {sz : Nat} {rows : List (List T)} {A0 : Option Addr} (hi : get ow i = some ⟨e, sz, rows⟩) (hh : hid i = true) (h2 : Nat.ble 2000 i = false) (hk : k ≤ rows.length) (hc1 : k ≤ cap') (hc2 : cap' ≤ cap)
    (hgo : (g.go i = .slice none 0 0 ∧ A0 = none ∧ cap = 0) ∨ (g.go i = .slice (some ⟨b, 0, none⟩) rows.length cap ∧ A0 = some ⟨b, 0, none⟩)) :
    EnvG C (bx.map fun p => (p.1, p.2.map (A.clr fun j => Nat.beq j i))) ((i, ⟨e, sz, rows.take k⟩) :: ow) w m (g.setO i (.slice A0 k cap') k) ∧ ∀ x v, AR m g x v → AR m (g.setO i (.slice A0 k cap') k) (x.clr fun j => Nat.beq j i) v := by
  obtain ⟨vs, hown, hrl, hca, hbk⟩ := he.owns i _ hi
  dsimp only at hown hrl hca hbk
  have hgj : ∀ q, q ≠ i → (g.setO i (.slice A0 k cap') k).go q = g.go q ∧ (g.setO i (.slice A0 k cap') k).ln q = g.ln q ∧ (g.setO i (.slice A0 k cap') k).lw q = g.lw q := fun q hq => ⟨if_neg hq, if_neg hq, if_neg hq⟩
  have hgi : (g.setO i (.slice A0 k cap') k).go i = .slice A0 k cap' ∧ (g.setO i (.slice A0 k cap') k).ln i = k ∧ (g.setO i (.slice A0 k cap') k).lw i = true := ⟨if_pos rfl, if_pos rfl, if_pos rfl⟩
  have hblk : (Value.slice A0 k cap').ownBlock = (g.go i).ownBlock := by
    rcases hgo with ⟨h1, rfl, _⟩ | ⟨h1, rfl⟩ <;> rw [h1] <;> rfl
  have L0 : ∀ x v, AR0 m g x v → AR0 m (g.setO i (.slice A0 k cap') k) (clr0 (fun j => Nat.beq j i) x) v := by
    intro x v hx
    cases x with
    | own q n =>
      show AR0 m _ (bif Nat.beq q i then .any else .own q n) v
      cases hb : Nat.beq q i with
      | true => trivial
      | false =>
        obtain ⟨e1, e2, e3⟩ := hgj q (Nat.ne_of_beq_eq_false hb)
        exact ⟨e3.trans hx.1, by rw [e2]; exact hx.2.1, hx.2.2.1, by rw [e1, e2]; exact hx.2.2.2⟩
    | ev q n u =>
      show AR0 m _ (bif Nat.beq q i then .any else .ev q n u) v
      cases hb : Nat.beq q i with
      | true => trivial
      | false =>
        obtain ⟨e1, e2, e3⟩ := hgj q (Nat.ne_of_beq_eq_false hb)
        exact ⟨e3.trans hx.1, by rw [e2]; exact hx.2.1, hx.2.2.1, by rw [e1, e2]; exact hx.2.2.2⟩
    | oe q n sz kk off =>
      show AR0 m _ (bif Nat.beq q i then .any else .oe q n sz kk off) v
      cases hb : Nat.beq q i with
      | true => trivial
      | false =>
        obtain ⟨e1, e2, e3⟩ := hgj q (Nat.ne_of_beq_eq_false hb)
        exact ⟨e3.trans hx.1, by rw [e2]; exact hx.2.1, hx.2.2.1, by rw [e1, e2]; exact hx.2.2.2⟩
    | sfx q n sz kk =>
      show AR0 m _ (bif Nat.beq q i then .any else .sfx q n sz kk) v
      cases hb : Nat.beq q i with
      | true => trivial
      | false =>
        obtain ⟨e1, e2, e3⟩ := hgj q (Nat.ne_of_beq_eq_false hb)
        exact ⟨e3.trans hx.1, by rw [e2]; exact hx.2.1, hx.2.2.1, by rw [e1, e2]; exact hx.2.2.2⟩
    | _ => exact hx
  have L : ∀ x v, AR m g x v → AR m (g.setO i (.slice A0 k cap') k) (x.clr fun j => Nat.beq j i) v := fun x v hx => hx.mp _ (fun _ => true) (fun x v _ => L0 x v) (allt x)
  have hbx : ∀ q cs, get (bx.map fun p => (p.1, p.2.map (A.clr fun j => Nat.beq j i))) q = some cs → ∃ c0, get bx q = some c0 ∧ cs = c0.map (A.clr fun j => Nat.beq j i) := fun q cs hq => by
    rw [get_map2] at hq
    cases hc : get bx q with
    | none => rw [hc] at hq; cases hq
    | some c0 => rw [hc] at hq; injection hq with hq; exact ⟨c0, rfl, hq.symm⟩
  have hlen : (rows.take k).length = k := by simp; omega
  refine ⟨{
    lo := he.lo, gm := he.gm, sub := he.sub, ext := he.ext, gt := he.gt, nb := nb_map clr0_lo he.nb, nf := he.nf
    lb := fun q => by rw [get_map2]; rw [show (Option.map (List.map (A.clr fun j => Nat.beq j i)) (get bx q)).isSome = (get bx q).isSome by cases get bx q <;> rfl]; exact he.lb q
    lw := fun q => by
      rw [get_cons]
      by_cases hq : i = q
      · subst hq; rw [if_pos rfl, hgi.2.2]; rfl
      · rw [if_neg hq, (hgj q (fun e => hq e.symm)).2.2]; exact he.lw q
    ln := fun q o' hq => by
      rw [get_cons] at hq
      by_cases hqi : i = q
      · subst hqi; rw [if_pos rfl] at hq; injection hq with hq; subst hq; rw [hgi.2.1]; exact hlen.symm
      · rw [if_neg hqi] at hq; rw [(hgj q (fun e => hqi e.symm)).2.1]; exact he.ln q o' hq
    boxes := fun q cs hq hcq => by
      obtain ⟨c0, hc, rfl⟩ := hbx q cs hq
      obtain ⟨us, ty, h1, h2, h3, h4, h5⟩ := he.boxes q c0 hc hcq
      refine ⟨us, ty, h1, .ce (c := g.cz) (by simpa using h2) rfl, fun p x u hx hu => ?_, h4, h5⟩
      rw [List.getElem?_map] at hx
      cases hp : c0[p]? with
      | none => rw [hp] at hx; cases hx
      | some y => rw [hp] at hx; injection hx with hx; subst hx; exact ⟨L y u (h3 p y u hp hu).1, (h3 p y u hp hu).2⟩
    inj := fun p q cp cq hp hq hcp hcq e => by
      obtain ⟨c0, h1, _⟩ := hbx p cp hp
      obtain ⟨c2, h3, _⟩ := hbx q cq hq
      exact he.inj p q c0 c2 h1 h3 hcp hcq e
    owns := fun q o' hq => by
      rw [get_cons] at hq
      by_cases hqi : i = q
      · subst hqi
        rw [if_pos rfl] at hq; injection hq with hq; subst hq
        rw [hgi.1]
        refine ⟨vs.take (k * sz), ?_, fun r hr => hrl r (List.mem_of_mem_take hr), ?_, fun b' hb' => ?_⟩
        · show RowM w 0 e sz (.slice A0 k cap') (rows.take k).length (vs.take (k * sz))
          rw [hlen]
          obtain ⟨h5, h6⟩ := hown
          have hks : k * sz ≤ rows.length * sz := Nat.mul_le_mul_right _ hk
          refine ⟨by simp; omega, ?_⟩
          rcases hgo with ⟨h1, rfl, rfl⟩ | ⟨h1, rfl⟩
          · rcases h6 with ⟨_, h7⟩ | ⟨b2, cap2, cur, h7, _⟩
            · exact .inl ⟨by rw [show k = 0 by omega, show cap' = 0 by omega], by omega⟩
            · rw [h1] at h7; cases h7
          · rcases h6 with ⟨h7, _⟩ | ⟨b2, cap2, cur, h7, h8, h9, h10, h11, h12, h13⟩
            · rw [h1] at h7; cases h7
            · rw [h1] at h7; injection h7 with h7 _ h14; injection h7 with h7; injection h7 with h7; subst h7 h14
              exact .inr ⟨b, cap', cur, rfl, h8, h9, by omega, Nat.le_trans hc2 h11, Nat.le_trans (Nat.mul_le_mul_right _ hc2) h12, by rw [← h13, List.take_take, Nat.min_eq_left hks]⟩
        · show CellsAre m (rows.take k).flatten _
          rw [flat_take hrl]; exact hca.take _
        · rw [hblk] at hb'
          refine ⟨fun p => by rw [(hbk b' hb').1 p, vis_hid hh, vis_hid hh], fun p cp hp hcp => ?_, (hbk b' hb').2.2⟩
          obtain ⟨c0, h1, _⟩ := hbx p cp hp
          exact (hbk b' hb').2.1 p c0 h1 hcp
      · rw [if_neg hqi] at hq
        rw [(hgj q (fun e => hqi e.symm)).1]
        obtain ⟨us, h1, h2, h3, h4⟩ := he.owns q o' hq
        refine ⟨us, h1, h2, h3, fun b' hb' => ⟨(h4 b' hb').1, fun p cp hp hcp => ?_, (h4 b' hb').2.2⟩⟩
        obtain ⟨c0, h5, _⟩ := hbx p cp hp
        exact (h4 b' hb').2.1 p c0 h5 hcp
    apart := fun p q op oq hp hq hpq b' hb' => by
      rw [get_cons] at hp hq
      by_cases hpi : i = p
      · subst hpi
        rw [hgi.1, hblk] at hb'
        rw [if_neg hpq] at hq
        rw [(hgj q (fun e => hpq e.symm)).1]
        exact he.apart i q _ oq hi hq hpq b' hb'
      · rw [if_neg hpi] at hp
        rw [(hgj p (fun e => hpi e.symm)).1] at hb'
        by_cases hqi : i = q
        · subst hqi; rw [hgi.1, hblk]; exact he.apart p i op _ hp hi hpq b' hb'
        · rw [if_neg hqi] at hq
          rw [(hgj q (fun e => hqi e.symm)).1]; exact he.apart p q op oq hp hq hpq b' hb'
    pin := fun q o' hq hq2 => by
      rw [get_cons] at hq
      by_cases hqi : i = q
      · subst hqi; rw [h2] at hq2; cases hq2
      · rw [if_neg hqi] at hq; rw [(hgj q (fun e => hqi e.symm)).1]; exact he.pin q o' hq hq2
    pinb := fun q cs hq hq2 => by
      obtain ⟨c0, hc, _⟩ := hbx q cs hq
      exact he.pinb q c0 hc hq2
    rs := he.rsF (fun _ => False) (fun k R _ hk => ⟨rs_map clr0_rs (by rw [get_map2] at hk; exact hk), rfl, rfl⟩) (fun k cs _ hk _ => by
      rw [get_map2] at hk
      cases hc : get bx k with
      | none => rw [hc] at hk; cases hk
      | some c0 => exact ⟨rfl, c0, by first | exact hc | rfl⟩) (fun _ h => h.elim) (fun _ _ _ => rfl) (fun _ _ _ h => h) (fun _ _ _ h => h) (fun k cs hk hck => by
      rw [get_map2] at hk
      cases hc : get bx k with
      | none => rw [hc] at hk; cases hk
      | some c0 => exact .inl ⟨k, c0, by first | exact hc | rfl, hck, rfl⟩) (fun q o' hq b' hb' => by
      rw [get_cons] at hq
      by_cases hqi : i = q
      · subst hqi; rw [hgi.1, hblk] at hb'; exact .inl ⟨i, _, hi, hb'⟩
      · rw [if_neg hqi] at hq
        rw [(hgj q (fun e => hqi e.symm)).1] at hb'
        exact .inl ⟨q, o', hq, hb'⟩) }, L⟩
end
section
variable {P : Program} {N : Nat} {Q : Exit → St → Prop} {ops : Array Oper} {rest : List Oper} {o : Oper} {tm : List (Nat × A)} {bx : List (Nat × List A)} {ow : List (Nat × Own)} {ρ : Operand → Option A}
theorem sops_shrink {t e sz k d : Nat} {x q : Operand} {i n : Nat} {ik : IntKind} {rows : List (List T)} (hh : hid i = true) (h2 : Nat.ble 2000 i = false) (hg : GuardIs ops tm o true) (ho : o.op = .slice t x none (some q) none) (hd : o.dst = some d) (hN : Nat.blt d N = true) (hx : evA tm x = some (.own i n)) (hi : get ow i = some ⟨e, sz, rows⟩) (hn : n = rows.length) (hT : sliceSz P t = some sz) (hq : evA tm q = some (.t (.v (.int ik k)))) (hk : k ≤ n)
    (h : SOps P N ops Q rest ⟨(d, .own i k) :: tm.map (fun p => (p.1, p.2.clr fun j => Nat.beq j i)), bx.map (fun p => (p.1, p.2.map (A.clr fun j => Nat.beq j i))), (i, ⟨e, sz, rows.take k⟩) :: ow⟩) : SOps P N ops Q (o :: rest) ⟨tm, bx, ow⟩ := by
  refine sops_run hg (fun C a w m g hr => ?_) h
  have he := hr.env
  obtain ⟨h1, h3, _, h4⟩ := hr.ev hx
  have h5 := tr_v (show TR m (.v (.int ik k)) (a.eval q) from hr.ev hq)
  have hln := he.ln i _ hi
  have hv := h4 (by rw [hln]; exact hn)
  obtain ⟨e', ii, hu, hie, hs⟩ := sliceSz_spec hT
  obtain ⟨vs, hown, _⟩ := he.owns i _ hi
  dsimp only at hown
  subst hn
  have key : ∃ (A0 : Option Addr) (cap b : Nat), a.eval x = .slice A0 rows.length cap ∧ rows.length ≤ cap ∧ ((g.go i = .slice none 0 0 ∧ A0 = none ∧ cap = 0) ∨ (g.go i = .slice (some ⟨b, 0, none⟩) rows.length cap ∧ A0 = some ⟨b, 0, none⟩)) := by
    obtain ⟨_, ⟨h6, h7⟩ | ⟨b, cap, cur, h6, _, _, h7, _⟩⟩ := hown
    · exact ⟨none, 0, 0, by rw [hv, h6, h7], by omega, .inl ⟨h6, rfl, rfl⟩⟩
    · exact ⟨_, cap, b, by rw [hv, h6], h7, .inr ⟨h6, rfl⟩⟩
  obtain ⟨A0, cap, b, h6, h7, h8⟩ := key
  have c3 : k ≤ cap := by omega
  have hrun : (execOp a.eval o).run P w = .ok (.value (.slice A0 k cap)) w := by
    have hA : (if cap = 0 then A0 else A0.map (·.add (0 * sz))) = A0 := by
      split
      · rfl
      · rcases h8 with ⟨_, rfl, _⟩ | ⟨_, rfl⟩
        · rfl
        · simp [add_mid]
    have hA' : A0.map (fun x => x.add 0) = A0 := by
      rcases h8 with ⟨_, rfl, _⟩ | ⟨_, rfl⟩
      · rfl
      · simp [add_mid]
    simp [execOp, ho, h6, h5, Instr.sliceAt, run_underlying hu, Instr.slice, Instr.sliceBounds, Instr.sliceBound, asIntOf, sizeOf, typeInfo, hie, hs, c3]
    intro _; exact hA'
  obtain ⟨h9, h10⟩ := he.shrink (b := b) (cap' := cap) hi hh h2 hk c3 (Nat.le_refl _) h8
  refine ⟨_, w, hrun, ?_⟩
  rw [hd]
  have hrel : RelG C N ⟨tm.map (fun p => (p.1, p.2.clr fun j => Nat.beq j i)), _, _⟩ a w m _ := ⟨h9, hr.size, hr.defers, fun s x hx => by
    rw [show get (tm.map fun p => (p.1, p.2.clr fun j => Nat.beq j i)) s = _ from get_mapv _ _ _] at hx
    cases h5 : get tm s with
    | none => rw [h5] at hx; cases hx
    | some y => rw [h5] at hx; injection hx with hx; subst hx; exact h10 y _ (hr.tmps s y h5)⟩
  exact ⟨m, _, hrel.put h9 (fun x v h => h) (Nat.lt_of_succ_le (Nat.le_of_ble_eq_true hN)) ⟨by simp [Gh.setO], by simp [Gh.setO], ⟨_, _, rfl⟩, fun _ => by simp [Gh.setO]⟩⟩
end
end Go.Proofs.YtnclifgiakmmoaaGreat.Sim
namespace Go.Proofs.YtnclifgiakmmoaaGreat.Sim
set_option linter.unusedVariables false
set_option linter.unusedSimpArgs false
open Go.RowKit Mem
section
variable {P : Program} {N : Nat} {Q : Exit → St → Prop} {ops : Array Oper} {rest : List Oper} {o : Oper} {tm : List (Nat × A)} {bx bx0 bx1 : List (Nat × List A)} {ow ow0 ow1 : List (Nat × Own)}
theorem sops_clearS {t e sz by_ : Nat} {x : Operand} {i n k : Nat} {rows : List (List T)} {pl : List (Nat × Nat)} {zs : List Value} (hS : strI P e = some (pl, zs)) (hh : hid i = true) (hg : GuardIs ops tm o true) (ho : o.op = .call { callee := .builtin .clear, args := #[x], argTypes := #[t] }) (hd : o.dst = none) (hx : evA tm x = some (.sfx i n sz k)) (hi : get ow i = some ⟨e, sz, rows⟩) (hn : n = rows.length) (hk : k < n)
    (hT : sliceE P t = some (e, sz, by_)) (h : SOps P N ops Q rest ⟨tm, bx, (i, ⟨e, sz, rows.take k ++ List.replicate (rows.length - k) (zs.map T.v)⟩) :: ow⟩) : SOps P N ops Q (o :: rest) ⟨tm, bx, ow⟩ := by
  obtain ⟨it, z, h1, h2, h3, h4⟩ := strI_zero hS
  exact sops_clear hh hg ho hd hx hi hn hk hT (by rw [h1]; simp [h2, h3]) (List.all_eq_true.2 h4) h
/-- a call through a function's value that captured data alone -/
theorem sops_lcall_tclo {f : FuncId} {xz : Operand} {caps : List T} {xs : List Operand} {at_ : Array TypeId} {args : List A} {r : A} {d : Nat} (hc : LCalls P f (args ++ caps.map A.t) bx0 ow0 r bx1 ow1) (fb fw : Nat → Nat) (kp : Nat → Bool) (hg : GuardIs ops tm o true) (ho : o.op = .call { callee := .value xz, args := xs.toArray, argTypes := at_ }) (hd : o.dst = some d) (hN : Nat.blt d N = true)
    (hz : evA tm xz = some (.t (.clo f caps))) (ha : ArgsL fb fw ow bx0 ow0 (evA tm) xs args) (hx : LentX fb fw bx bx0) (hw : LentW fw ow ow0) (hl : (bx0.all fun p => p.2.all fun x => x.live bx0 ow0) = true) (hB : lendB fb fw bx bx0 bx1 ow ow0 ow1 = true)
    (hkp : ∀ i, kp i = true → Nat.ble 2000 i = true ∧ ∃ o0 o1, get ow0 i = some o0 ∧ get ow1 i = some o1 ∧ o1.rows.length = o0.rows.length)
    (h : SOps P N ops Q rest ⟨(d, r.ren fb fw) :: tm.map (fun p => (p.1, p.2.clr (chgOf fw kp ow0))), bxAft fb fw (chgOf fw kp ow0) bx1 bx, owAft fw ow0 ow1 ow⟩) : SOps P N ops Q (o :: rest) ⟨tm, bx, ow⟩ := by
  have hL := lend_of (kp := kp) hx hw hl hB hkp
  refine .mk fun C a w ⟨m, g, hr⟩ => ?_
  obtain ⟨h1, h2⟩ := ha.ok hL hr.env (a := a) (fun x _ y hy => hr.ev hy)
  have h0 : TR m (.clo f caps) (a.eval xz) := hr.ev hz
  generalize hvz : a.eval xz = vz at h0
  cases h0 with
  | clo f caps vs hvl hvc =>
    have hrun : (execOp a.eval o).run P w = .ok (.enter f ((xs.map a.eval).toArray ++ vs)) w := by
      have := hc.ent ((xs.map a.eval).toArray ++ vs) w
      simp only [execOp, ho, resolve, Deferred.ofValue, hvz, invoke, Sem.run_bind, Sem.run_pure, Result.andThen_ok, List.map_toArray, Array.append_empty, Array.empty_append] at this ⊢
      simpa using this
    refine wpList_step fun K hK => ?_
    rw [if_pos (hg.wanted (m := m) (g := g) fun j want e _ _ y hy => hr.tmps e y hy)]
    refine wp_call_of hrun (hc.run m w _ _ (hL.env_in hr.env) (by simp [h1, hvl]) (fun i x v h3 h4 => ?_)) ?_
    · rw [List.getElem?_append] at h3
      rw [Array.getElem?_append] at h4
      by_cases hi : i < args.length
      · rw [if_pos hi] at h3
        rw [if_pos (by simp; omega)] at h4
        exact h2 i x v h3 (by simpa using h4)
      · rw [if_neg hi] at h3
        rw [if_neg (by simp; omega)] at h4
        rw [List.getElem?_map] at h3
        cases hc' : caps[i - args.length]? with
        | none => rw [hc'] at h3; cases h3
        | some t =>
          rw [hc'] at h3; injection h3 with h3; subst h3
          exact hvc (i - args.length) t v hc' (by rw [← h1]; simpa using h4)
    rintro e w' ⟨v, m', g', rfl, henv, hv⟩
    obtain ⟨g'', e1, e2, e3⟩ := hL.env_out hr.env henv
    refine ⟨v, rfl, hK _ _ (h.go C _ _ ⟨m', g'', ?_⟩)⟩
    rw [hd]
    have hrel : RelG C N ⟨tm.map (fun p => (p.1, p.2.clr (chgOf fw kp ow0))), bxAft fb fw (chgOf fw kp ow0) bx1 bx, owAft fw ow0 ow1 ow⟩ a w' m' g'' := ⟨e1, hr.size, hr.defers, fun s x hx => by
      rw [show get (tm.map fun p => (p.1, p.2.clr (chgOf fw kp ow0))) s = _ from get_mapv _ _ _] at hx
      cases h5 : get tm s with
      | none => rw [h5] at hx; cases hx
      | some y => rw [h5] at hx; injection hx with hx; subst hx; exact e2 y _ (hr.tmps s y h5)⟩
    exact hrel.put e1 (fun x v h => h) (Nat.lt_of_succ_le (Nat.le_of_ble_eq_true hN)) (e3 r v hv)
end
end Go.Proofs.YtnclifgiakmmoaaGreat.Sim

/- A logic of states: is a slice nil; an empty row of the call's own, under any number. -/
namespace Go.Proofs.YtnclifgiakmmoaaGreat.Sim
set_option linter.unusedVariables false
set_option linter.unusedSimpArgs false
open Go.RowKit Mem
section
variable {P : Program} {N : Nat} {Q : Exit → St → Prop} {ops : Array Oper} {rest : List Oper} {o : Oper} {tm : List (Nat × A)} {bx : List (Nat × List A)} {ow : List (Nat × Own)}
theorem sops_isnil {t t2 sz d : Nat} {x : Operand} {y : A} {rows : List (List T)} (hg : GuardIs ops tm o true) (ho : o.op = .binOp .eql t x (.const (.slice none 0 0)) t2) (hd : o.dst = some d) (hN : Nat.blt d N = true) (hx : evA tm x = some y) (hv : Vw ow y (.sl sz rows)) (hT : sliceSz P t = some sz)
    (h : ∀ b, (b = true → rows = []) → SOps P N ops Q rest ⟨(d, .t (.v (.bool b))) :: tm, bx, ow⟩) : SOps P N ops Q (o :: rest) ⟨tm, bx, ow⟩ := by
  refine .mk fun C a w ⟨m, g, hr⟩ => ?_
  have hvt : TR m (.sl sz rows) (a.eval x) := hv.ok hr.env (hr.ev hx)
  obtain ⟨e, ii, hu, _⟩ := sliceSz_spec hT
  generalize hvx : a.eval x = v at hvt
  cases hvt with
  | sl _ _ A0 b off cap u hc hm hA hrl hu' ht =>
    have hrun : (execOp a.eval o).run P w = .ok (.value (.bool A0.isNone)) w := by
      have := Lib.run_eql_slice_nil (P := P) w t e A0 rows.length cap 0 0 hu
      have hc0 : a.eval (.const (.slice none 0 0)) = .slice none 0 0 := rfl
      have hgd : (eqGuard .eql t x (.const (.slice none 0 0)) (.slice A0 rows.length cap) (.slice none 0 0)).run P w = .ok () w := by simp [eqGuard]
      simp only [execOp, ho, hvx, hc0, Sem.run_bind, Sem.run_pure, Result.andThen_ok, this, hgd]
    have hb : A0.isNone = true → rows = [] := fun hn => by
      cases rows with
      | nil => rfl
      | cons r rs => rw [hA (by simp)] at hn; cases hn
    refine wpList_step fun K hK => ?_
    rw [if_pos (hg.wanted (m := m) (g := g) fun j want e _ _ y hy => hr.tmps e y hy)]
    refine wp_of_run hrun (hK _ _ ((h A0.isNone hb).go C _ _ ⟨m, g, ?_⟩))
    rw [hd]
    exact hr.put hr.env (fun x v h => h) (Nat.lt_of_succ_le (Nat.le_of_ble_eq_true hN)) (TR.v _)
theorem swp_ret_weak {st st' : St} (hw : Weak N st st') (h : Q .ret st') : SWp P N .ret Q st := .mk fun C a w hr => wk_of (wp_ret ⟨st', hw.go C a w hr, h⟩)
/-- a literal of none: a row of the call's own, under a number -/
theorem sops_build0i (i : Nat) {t e sz by_ d : Nat} (hg : GuardIs ops tm o true) (ho : o.op = .buildSlice t 0 #[]) (hd : o.dst = some d) (hN : Nat.blt d N = true) (hT : sliceE P t = some (e, sz, by_)) (hi : get ow i = none)
    (h : SOps P N ops Q rest ⟨(d, .own i 0) :: tm, bx, (i, ⟨e, sz, []⟩) :: ow⟩) (hp : Nat.ble 2000 i = false := by rfl) : SOps P N ops Q (o :: rest) ⟨tm, bx, ow⟩ := by
  refine sops_run hg (fun C a w m g hr => ?_) h
  have he := hr.env
  obtain ⟨i', zv, hu, hi', _⟩ := sliceE_spec hT
  have hlw : g.lw i = false := by rw [he.lw, hi]; rfl
  refine ⟨.slice (some ⟨w.heap.size, 0, none⟩) 0 0, w.alloc (.cells #[] e), ?_, ?_⟩
  · simp [execOp, ho, Instr.buildSlice, run_underlying hu, sizeOf, typeInfo, hi', Instr.fill, newRow]
    congr 2
    exact Array.eq_empty_of_size_eq_zero (by simp)
  · obtain ⟨h8, h9⟩ := he.setO (hp := hp) (w' := w.alloc (.cells #[] e)) (i := i) (v := .slice (some ⟨w.heap.size, 0, none⟩) 0 0) (e := e) (sz := sz) (rows := []) (vs := []) (.of (World.ownsRow_made w #[] 0 (Nat.zero_le _) (Nat.zero_le _) (by simp))) (fun r h => by cases h) ⟨rfl, fun j t v h => by simp at h⟩ (.inr hi) (.inr ⟨fun b hb => by injection hb with hb; subst hb; exact Nat.le_refl _, (Lo.refl w).alloc _⟩)
    rw [hd]
    exact ⟨_, _, hr.put h8 (fun x u h => h.setO h9 (.inl hlw)) (Nat.lt_of_succ_le (Nat.le_of_ble_eq_true hN)) ⟨by simp [Gh.setO], by simp [Gh.setO], ⟨_, _, rfl⟩, fun _ => by simp [Gh.setO]⟩⟩
end
end Go.Proofs.YtnclifgiakmmoaaGreat.Sim

/- The program's types: cells, fields, elements. (Printed by mk_tab.py.) -/

namespace Go.Proofs.YtnclifgiakmmoaaGreat.Sim
open Go.RowKit Mem
set_option linter.unusedVariables false
set_option maxRecDepth 100000
def tabT : List (Nat × Bool × Nat) := [(1, false, 1), (2, false, 1), (3, false, 1), (4, false, 1), (5, false, 1), (6, false, 1), (7, true, 4), (8, true, 4), (9, false, 1), (10, false, 1), (11, false, 1), (12, false, 1), (13, true, 2), (14, true, 2), (15, false, 1), (16, false, 1), (17, false, 1), (18, true, 1), (19, true, 1), (21, false, 1), (22, false, 1), (23, false, 1), (24, false, 1), (25, false, 1), (26, true, 3), (27, true, 3), (28, false, 1), (29, true, 2), (30, true, 2), (31, false, 1), (32, true, 3), (33, true, 3), (34, false, 1), (35, false, 1), (36, true, 7), (37, true, 7), (38, false, 1), (39, false, 1), (40, false, 1), (41, false, 1), (42, true, 5), (43, true, 5), (44, false, 1), (45, true, 2), (46, true, 2), (47, false, 1), (48, false, 1), (49, false, 1), (50, false, 1), (51, false, 1), (52, false, 1), (53, false, 1), (54, false, 1), (55, false, 1), (56, false, 1), (57, false, 1), (58, false, 1), (59, false, 1), (60, true, 3), (61, true, 3), (62, false, 1), (63, true, 4), (64, true, 4), (65, true, 2), (66, true, 2), (68, false, 1), (69, false, 1), (70, false, 1), (71, false, 1), (72, false, 1), (73, false, 1), (74, false, 1), (75, false, 1), (76, false, 1), (77, false, 1), (78, true, 2), (79, true, 2), (80, true, 2), (81, true, 2), (82, false, 1), (83, false, 1), (84, false, 1), (85, false, 1), (86, false, 1), (87, false, 1), (88, true, 2), (89, true, 2), (90, false, 1), (91, false, 1), (92, false, 1), (93, false, 1), (94, false, 1), (95, false, 1), (96, false, 1), (97, false, 1), (98, false, 1), (99, false, 1), (100, false, 1), (101, false, 1), (102, false, 1), (104, false, 1), (105, false, 1), (106, false, 1), (107, false, 1), (108, false, 1), (109, false, 1), (110, false, 1), (111, false, 1), (112, false, 1), (113, false, 1), (114, false, 1), (115, false, 1), (116, false, 1), (117, false, 1), (118, false, 1), (119, false, 1), (120, false, 1), (121, false, 1), (123, false, 1), (124, false, 1), (125, false, 1), (126, false, 1), (127, false, 1), (128, false, 1), (129, false, 1), (130, false, 1), (131, false, 1), (132, false, 1), (133, false, 1), (134, false, 1), (135, false, 1), (136, false, 1), (137, false, 1), (138, false, 1), (139, false, 1), (140, false, 1), (141, false, 1), (142, false, 1), (143, false, 1), (144, false, 1), (145, false, 1), (146, true, 3), (147, true, 3), (148, true, 15), (149, false, 1), (150, false, 1), (151, true, 4), (152, true, 4), (153, true, 0), (154, true, 0), (155, true, 0), (156, false, 1), (157, false, 1), (158, false, 1), (159, false, 1), (160, false, 1), (161, false, 1), (162, false, 1), (163, true, 11), (164, true, 11), (165, false, 1)]
def tabS : List (Nat × Nat) := [(22, 5), (23, 3), (24, 4), (25, 2), (34, 2), (35, 1), (41, 3), (58, 2), (59, 2), (62, 1), (82, 1), (131, 1)]
def tabF : List (Nat × Nat × Nat) := [(7, 0, 0), (7, 1, 1), (7, 2, 2), (7, 3, 3), (8, 0, 0), (8, 1, 1), (8, 2, 2), (8, 3, 3), (13, 0, 0), (13, 1, 1), (14, 0, 0), (14, 1, 1), (18, 0, 0), (19, 0, 0), (26, 0, 0), (26, 1, 1), (26, 2, 2), (27, 0, 0), (27, 1, 1), (27, 2, 2), (29, 0, 0), (29, 1, 1), (30, 0, 0), (30, 1, 1), (32, 0, 0), (32, 1, 2), (33, 0, 0), (33, 1, 2), (36, 0, 0), (36, 1, 1), (36, 2, 2), (36, 3, 3), (36, 4, 4), (36, 5, 5), (36, 6, 6), (37, 0, 0), (37, 1, 1), (37, 2, 2), (37, 3, 3), (37, 4, 4), (37, 5, 5), (37, 6, 6), (42, 0, 0), (42, 1, 1), (42, 2, 2), (42, 3, 3), (42, 4, 4), (43, 0, 0), (43, 1, 1), (43, 2, 2), (43, 3, 3), (43, 4, 4), (45, 0, 0), (45, 1, 1), (46, 0, 0), (46, 1, 1), (60, 0, 0), (60, 1, 1), (60, 2, 2), (61, 0, 0), (61, 1, 1), (61, 2, 2), (63, 0, 0), (63, 1, 1), (63, 2, 2), (63, 3, 3), (64, 0, 0), (64, 1, 1), (64, 2, 2), (64, 3, 3), (65, 0, 0), (65, 1, 1), (66, 0, 0), (66, 1, 1), (78, 0, 0), (78, 1, 1), (79, 0, 0), (79, 1, 1), (80, 0, 0), (80, 1, 1), (81, 0, 0), (81, 1, 1), (88, 0, 0), (88, 1, 1), (89, 0, 0), (89, 1, 1), (146, 0, 0), (146, 1, 1), (146, 2, 2), (147, 0, 0), (147, 1, 1), (147, 2, 2), (151, 0, 0), (151, 1, 1), (151, 2, 2), (151, 3, 3), (152, 0, 0), (152, 1, 1), (152, 2, 2), (152, 3, 3), (163, 0, 0), (163, 1, 1), (163, 2, 2), (163, 3, 3), (163, 4, 4), (163, 5, 5), (163, 6, 6), (163, 7, 7), (163, 8, 8), (163, 9, 9), (163, 10, 10), (164, 0, 0), (164, 1, 1), (164, 2, 2), (164, 3, 3), (164, 4, 4), (164, 5, 5), (164, 6, 6), (164, 7, 7), (164, 8, 8), (164, 9, 9), (164, 10, 10)]
def tabE : List (Nat × Nat × Nat × Nat) := [(22, 43, 5, 64), (23, 61, 3, 72), (24, 64, 4, 96), (25, 66, 2, 40), (34, 81, 2, 32), (35, 5, 1, 1), (41, 27, 3, 72), (58, 79, 2, 24), (59, 89, 2, 16), (62, 3, 1, 8), (82, 58, 1, 24), (131, 9, 1, 16)]
def allB {α : Type} (p : α → Bool) : List α → Bool
  | [] => true
  | x :: r => p x && allB p r
theorem allB_mem {α : Type} {p : α → Bool} : ∀ {l : List α}, allB p l = true → ∀ x ∈ l, p x = true
  | [], _, x, h => by cases h
  | y :: r, h, x, hx => by
    simp only [allB, Bool.and_eq_true] at h
    rcases List.mem_cons.1 hx with rfl | hx
    · exact h.1
    · exact allB_mem h.2 x hx
def lk {β : Type} : List (Nat × β) → Nat → Option β
  | [], _ => none
  | (a, b) :: r, n => bif Nat.beq a n then some b else lk r n
theorem lk_mem {β : Type} : ∀ {l : List (Nat × β)} {n : Nat} {b : β}, lk l n = some b → (n, b) ∈ l
  | [], n, b, h => by cases h
  | (a, b') :: r, n, b, h => by
    unfold lk at h
    cases hb : Nat.beq a n with
    | true => rw [hb] at h; injection h with h; subst h; rw [Nat.eq_of_beq_eq_true hb]; exact List.mem_cons_self
    | false => rw [hb] at h; exact List.mem_cons_of_mem _ (lk_mem h)
def lk2 {β : Type} : List (Nat × Nat × β) → Nat → Nat → Option β
  | [], _, _ => none
  | (a, c, b) :: r, n, k => bif Nat.beq a n then (bif Nat.beq c k then some b else lk2 r n k) else lk2 r n k
theorem lk2_mem {β : Type} : ∀ {l : List (Nat × Nat × β)} {n k : Nat} {b : β}, lk2 l n k = some b → (n, k, b) ∈ l
  | [], n, k, b, h => by cases h
  | (a, c, b') :: r, n, k, b, h => by
    unfold lk2 at h
    cases hb : Nat.beq a n with
    | true =>
      rw [hb] at h
      cases hc : Nat.beq c k with
      | true => rw [hc] at h; injection h with h; subst h; rw [Nat.eq_of_beq_eq_true hb, Nat.eq_of_beq_eq_true hc]; exact List.mem_cons_self
      | false => rw [hc] at h; exact List.mem_cons_of_mem _ (lk2_mem h)
    | false => rw [hb] at h; exact List.mem_cons_of_mem _ (lk2_mem h)
theorem okT : allB (fun x => decide (tyI Tryz.prog x.1 = some x.2)) tabT = true := by kernel_rfl
theorem okS : allB (fun x => decide (sliceSz Tryz.prog x.1 = some x.2)) tabS = true := by kernel_rfl
theorem okF : allB (fun x => decide (fieldOff Tryz.prog x.1 x.2.1 = some x.2.2)) tabF = true := by kernel_rfl
theorem okE : allB (fun x => decide (sliceE Tryz.prog x.1 = some x.2)) tabE = true := by kernel_rfl
theorem tyE {t : Nat} {x : Nat × Nat × Nat} (h : lk tabE t = some x) : sliceE Tryz.prog t = some x := of_decide_eq_true (allB_mem okE _ (lk_mem h))
theorem str27 : strI Tryz.prog 27 = some ([(0, 1), (1, 1), (2, 1)], [.slice none 0 0, .slice none 0 0, .slice none 0 0]) := by kernel_rfl
theorem str33 : strI Tryz.prog 33 = some ([(0, 2), (2, 1)], [.string ⟨#[]⟩, .string ⟨#[]⟩, .int .u32 0]) := by kernel_rfl
theorem str37 : strI Tryz.prog 37 = some ([(0, 1), (1, 1), (2, 1), (3, 1), (4, 1), (5, 1), (6, 1)], [.string ⟨#[]⟩, .string ⟨#[]⟩, .string ⟨#[]⟩, .string ⟨#[]⟩, .string ⟨#[]⟩, .slice none 0 0, .slice none 0 0]) := by kernel_rfl
theorem str43 : strI Tryz.prog 43 = some ([(0, 1), (1, 1), (2, 1), (3, 1), (4, 1)], [.int .u64 0, .string ⟨#[]⟩, .int .u64 0, .int .i64 0, .slice none 0 0]) := by kernel_rfl
theorem str46 : strI Tryz.prog 46 = some ([(0, 1), (1, 1)], [.slice none 0 0, .int .i64 0]) := by kernel_rfl
theorem str61 : strI Tryz.prog 61 = some ([(0, 1), (1, 1), (2, 1)], [.slice none 0 0, .slice none 0 0, .slice none 0 0]) := by kernel_rfl
theorem str64 : strI Tryz.prog 64 = some ([(0, 1), (1, 1), (2, 1), (3, 1)], [.slice none 0 0, .slice none 0 0, .slice none 0 0, .slice none 0 0]) := by kernel_rfl
theorem str66 : strI Tryz.prog 66 = some ([(0, 1), (1, 1)], [.string ⟨#[]⟩, .slice none 0 0]) := by kernel_rfl
theorem str79 : strI Tryz.prog 79 = some ([(0, 1), (1, 1)], [.int .i64 0, .string ⟨#[]⟩]) := by kernel_rfl
theorem tyT {t : Nat} {x : Bool × Nat} (h : lk tabT t = some x) : tyI Tryz.prog t = some x := of_decide_eq_true (allB_mem okT _ (lk_mem h))
theorem tyS {t n : Nat} (h : lk tabS t = some n) : sliceSz Tryz.prog t = some n := of_decide_eq_true (allB_mem okS _ (lk_mem h))
theorem tyF {t f k : Nat} (h : lk2 tabF t f = some k) : fieldOff Tryz.prog t f = some k := of_decide_eq_true (allB_mem okF _ (lk2_mem h))
theorem mixed : Tryz.prog.follows .mixedOrders = true := by kernel_rfl
end Go.Proofs.YtnclifgiakmmoaaGreat.Sim

/- The rows' last step: arguments opened, the row shut where only new memory was made. -/
namespace Go.Proofs.YtnclifgiakmmoaaGreat.Post
set_option linter.unusedVariables false
set_option linter.unusedSimpArgs false
open Go.RowKit Go.WideShapes Go.ChangeShapes Go.Joins Mem
section
variable {H : Type} {enc : TypeId × Value → H} {P : Program}
theorem post_of_below {f : Func} {s : ChangeSpec} {apart fresh handsOn again : Bool} {W W' : World} {args : Array Value} {v : Value} {ds gs : List (DataW H)} {before pa pv : List MemPlace}
    (hW : DataW.Whole enc P f.params.toList s.vars apart W args.toList ds gs before)
    (hres : ∀ (b : Nat) (sp : Nat → Bool) (hd : Bool), DataW.TrodAll enc P W' b sp hd f.resultTypes.toList (v.resultList f.resultTypes.size) (s.fn H (ds ++ gs)).results [])
    (hargs : ∀ sp : Nat → Bool, (∀ p ∈ before, sp p.block = true) → DataW.TrodAll enc P W' 0 sp true f.params.toList args.toList (s.fn H (ds ++ gs)).args pa)
    (hvars : ∀ sp : Nat → Bool, (∀ p ∈ before, sp p.block = true) → DataW.TrodVars enc P W' sp s.vars (s.fn H (ds ++ gs)).vars pv)
    (hps : before = pa ++ pv) (hb : Below W.heap.size W W')
    (hok : ∀ (j : Nat) (t : TypeId) (r : Value), f.resultTypes[j]? = some t → (v.resultList f.resultTypes.size)[j]? = some r → Value.okWide P W' .any 0 t r) :
    s.post enc P f apart fresh handsOn again W args v W' := by
  have hlt : ∀ p ∈ before, p.block < W.heap.size := fun p hp => hW.lt p hp
  have hold : ∀ p ∈ before, (fun b => decide (b < W.heap.size)) p.block = true := fun p hp => by simpa using hlt p hp
  refine ⟨ds, gs, before, [], pa, pv, hW, hres _ _ _, hargs _ hold, hvars _ hold, World.keptBut_mono (fun p hp => ⟨hp, ?_⟩) (hb.frame (· ∈ before)), fun _ => ?_⟩
  · rw [hps, List.mem_append] at hp
    exact Or.inr hp
  · obtain ⟨_, _, _, _, _, hz, hn⟩ := hW
    refine ⟨hok, _, _, ([] ++ pa) ++ pv, ⟨[] ++ pa, pv, trodAll_append (hargs _ (fun _ _ => rfl)) (hres _ _ _), hvars _ (fun _ _ => rfl), rfl, ?_, ?_⟩, ?_⟩
    · intro b off hp
      have hin : MemPlace.cell b off ∈ before := by rw [hps]; simpa using hp
      rw [hb.frozen (hlt _ hin)]
      exact hz b off hin
    · intro ha
      have := hn ha
      rw [hps] at this
      simpa using this
    · intro p hp _
      rw [hps]
      simpa using hp
theorem trodAll_stays {W W' : World} {sp' : Nat → Bool} (hl : laidOutB P = true) : ∀ {ts : List TypeId} {vs : List Value} {ds : List (DataW H)} {ps : List MemPlace}, (∀ t ∈ ts, P.readableRec t = true ∧ t < P.types.size) →
    DataW.TrodAll enc P W 0 (fun _ => true) true ts vs ds ps → (∀ p ∈ ps, W.sameAt W' p) → (∀ p ∈ ps, sp' p.block = true) → DataW.TrodAll enc P W' 0 sp' true ts vs ds ps
  | [], vs, ds, ps, _, h, _, _ => by obtain ⟨rfl, rfl, rfl⟩ := trodAll_nil h; exact trodAll_mk0
  | t :: ts, vs, ds, ps, hr, h, hs, hsp => by
    obtain ⟨v, vs', d, ds', p, q, rfl, rfl, rfl, h0, r0⟩ := trodAll_cons h
    obtain ⟨hr1, hr2⟩ := hr t (by simp)
    exact trodAll_cons_mk (WideElems.Trod_stays hl hr1 hr2 h0 (fun x hx => hs x (by simp [hx])) (fun x hx => hsp x (by simp [hx])))
      (trodAll_stays hl (fun t ht => hr t (by simp [ht])) r0 (fun x hx => hs x (by simp [hx])) (fun x hx => hsp x (by simp [hx])))

/-- A LAW's END: it returned true, and nothing that was there has turned. -/
theorem law_post {f : Func} {s : ChangeSpec} {apart fresh handsOn again : Bool} {W W' : World} {args : Array Value} {ds gs : List (DataW H)} {before : List MemPlace} {tb : TypeId}
    (hl : laidOutB P = true) (hr : ∀ t ∈ f.params.toList, P.readableRec t = true ∧ t < P.types.size) (hvars : s.vars = []) (hb1 : P.underlying tb = some .bool) (hres : f.resultTypes = #[tb])
    (hfn : gs = [] → s.fn H (ds ++ gs) = { results := [.lit (.bool true)], args := ds })
    (hW : DataW.Whole enc P f.params.toList s.vars apart W args.toList ds gs before) (hb : Lo W W') : s.post enc P f apart fresh handsOn again W args (.bool true) W' := by
  have hW' := hW
  obtain ⟨p, q, hA, hV, rfl, _, _⟩ := hW
  rw [hvars] at hV
  obtain ⟨rfl, rfl⟩ := trodVars_none hV
  have hf := hfn rfl
  have hlt : ∀ x ∈ p, x.block < W.heap.size := fun x hx => hW'.lt x (by simp [hx])
  refine post_of_below (pa := p) (pv := []) hW' ?_ ?_ ?_ rfl hb ?_
  · intro b sp hd
    rw [hf, hres]
    exact trodAll_mk1 (shut_bool hb1 _)
  · intro sp hsp
    rw [hf]
    exact trodAll_stays hl hr hA (fun x hx => Below.same hb (hlt x hx)) (fun x hx => hsp x (by simp [hx]))
  · intro sp _
    rw [hf, hvars]
    rfl
  · exact ok_one hres rfl (okWide_bool_mk hb1 _)
end
theorem Tryz.own : ownKnob Tryz.prog.godebug = none := by kernel_rfl
theorem Tryz.laidOut : laidOutB Tryz.prog = true := by kernel_rfl
theorem Tryz.cellsTerm : Tryz.prog.cellsOf 79 = 2 := by kernel_rfl
end Go.Proofs.YtnclifgiakmmoaaGreat.Post

/- Arguments opened: what a reading says of the cells, type by type. -/
namespace Go.Proofs.YtnclifgiakmmoaaGreat.Opn
set_option linter.unusedVariables false
set_option linter.unusedSimpArgs false
open Go.RowKit Go.WideShapes Go.ChangeShapes Go.Joins Mem

/-- a reading at type t gives R -/
def Opens {α : Type} (t : TypeId) (R : Rel α) : Prop :=
  ∀ (H : Type) (enc : TypeId × Value → H) (w : World) (base : Nat) (spare : Nat → Bool) (held : Bool) (fuel : Nat) (cs : List Value) (x : DataW H × List MemPlace), DataW.trod enc Tryz.prog w base spare held fuel t cs = some x → ∃ y, R w.heap.size w y cs

theorem slice_opens {α : Type} [Inhabited α] {t e sz : Nat} {R : Rel α} (ht : Tryz.prog.underlying t = some (.slice e)) (hC : Tryz.prog.cellsOf e = sz) (hsz : 0 < sz) (hR : Opens e R)
    {H : Type} {enc : TypeId × Value → H} {w : World} {base : Nat} {spare : Nat → Bool} {held : Bool} {fuel : Nat} {cs : List Value} {x : DataW H × List MemPlace} (h : DataW.trod enc Tryz.prog w base spare held fuel t cs = some x) :
    ∃ (A : Option Addr) (cap : Nat) (xs : List α), cs = [.slice A xs.length cap] ∧ SliceAt R sz w.heap.size w A xs ∧ xs.length ≤ cap ∧ cap ≤ maxLen := by
  rcases Go.Deep.open_slice ht h with ⟨hcs, _⟩ | ⟨a, len, cap, m, n, D, Pl, hcs, hb, hl, hm, hmm, hx, hi⟩
  · exact ⟨none, 0, [], hcs, SliceAt.nil, Nat.le_refl _, Nat.zero_le _⟩
  · have hlm : len ≤ m := by rw [hmm]; split <;> omega
    have hex : ∀ i, i < len → ∃ (y : α) (cs' : List Value), w.cells? base (a.add (i * sz)) sz = some cs' ∧ R w.heap.size w y cs' := by
      intro i hil
      obtain ⟨cs', hc, ht'⟩ := hi i (by omega)
      rw [hC] at hc
      obtain ⟨y, hy⟩ := hR H enc w base spare held n cs' _ ht'
      exact ⟨y, cs', hc, hy⟩
    have hf : ∃ f : Nat → α, ∀ i, i < len → ∃ cs', w.cells? base (a.add (i * sz)) sz = some cs' ∧ R w.heap.size w (f i) cs' := by
      refine ⟨fun i => if h : i < len then (hex i h).choose else default, fun i hil => ?_⟩
      simp only [dif_pos hil]
      exact (hex i hil).choose_spec
    obtain ⟨f, hf⟩ := hf
    refine ⟨some a, cap, (List.range len).map f, by simpa using hcs, ?_, by simpa using hl, hm⟩
    intro k y hk
    have hkl : k < len := by
      rcases Nat.lt_or_ge k len with h' | h'
      · exact h'
      · rw [List.getElem?_eq_none (by simpa using h')] at hk; cases hk
    rw [List.getElem?_map, List.getElem?_range hkl] at hk
    simp at hk; subst hk
    obtain ⟨cs', hc, hr⟩ := hf k hkl
    obtain ⟨_, hlen, hat⟩ := World.cells?_some hc
    have h0 : w.cell? ((a.add (k * sz)).add 0) = some (cs'[0]'(by omega)) := by rw [hat 0 hsz, List.getElem?_eq_getElem]
    obtain ⟨b, off, spot⟩ := a
    have hspot : k = 0 → spot = none := by
      intro hk0; subst hk0
      simp [Addr.add] at h0
      cases spot with
      | none => rfl
      | some q =>
        simp only [World.cell?] at h0
        split at h0
        · simp at h0
        · cases h0
    -- the row's address bears no spot: its first element shows it
    have hsp : spot = none := by
      rcases Nat.eq_zero_or_pos k with hk0 | hk0
      · exact hspot hk0
      · obtain ⟨cs0, hc0, _⟩ := hf 0 (by omega)
        obtain ⟨_, hlen0, hat0⟩ := World.cells?_some hc0
        have h00 : w.cell? (((⟨b, off, spot⟩ : Addr).add (0 * sz)).add 0) = some (cs0[0]'(by omega)) := by rw [hat0 0 hsz, List.getElem?_eq_getElem]
        simp [Addr.add] at h00
        cases spot with
        | none => rfl
        | some q =>
          simp only [World.cell?] at h00
          split at h00
          · simp at h00
          · cases h00
    subst hsp
    have hadd : ∀ j, ((⟨b, off, none⟩ : Addr).add (k * sz)).add j = ⟨b, off + (k * sz + j), none⟩ := by
      intro j
      rw [Go.Deep.add_add, addr_add]
    refine ⟨b, off, cs', rfl, ?_, hlen, ?_, hr⟩
    · have := World.block_lt_of_cell? w _ h0
      rw [hadd] at this
      exact this
    · intro j v hj
      have hjl : j < sz := by rw [← hlen]; exact (List.getElem?_eq_some_iff.1 hj).1
      rw [← hadd, hat j hjl, hj]
end Go.Proofs.YtnclifgiakmmoaaGreat.Opn

/- Plain functions and laws for chapter 7 (terms): no program in sight. -/
namespace Go.Proofs.YtnclifgiakmmoaaGreat.Pl
set_option linter.unusedVariables false
set_option linter.unusedSimpArgs false

abbrev Bs := List UInt8

def okc (c : UInt8) : Bool := decide (33 ≤ c.toNat) && decide (c.toNat ≤ 126) && !(c.toNat == 42) && !(c.toNat == 44)
def may (k : Int) (l : Bs) : Bool := l.all okc && (if k = 4 then l.isEmpty else decide (1 ≤ k) && decide (k ≤ 3) && decide (1 ≤ l.length) && decide (l.length ≤ 64))
def hasPre (s p : Bs) : Bool := decide (p.length ≤ s.length) && (s.take p.length == p)
def hasSuf (s p : Bs) : Bool := decide (p.length ≤ s.length) && (s.drop (s.length - p.length) == p)
def hits (k : Int) (l s : Bs) : Bool := if k = 1 then s == l else if k = 2 then hasPre s l else if k = 3 then hasSuf s l else !s.isEmpty
def matches_ (k : Int) (l s : Bs) : Bool := may k l && hits k l s
structure Term where
  k : Int
  s : ByteArray
/- may -/
theorem may_kinds {k : Int} {l : Bs} (h : may k l = true) : k = 1 ∨ k = 2 ∨ k = 3 ∨ k = 4 := by
  unfold may at h
  by_cases h4 : k = 4
  · omega
  · simp [h4] at h; omega
/- lists -/
theorem matches_of_may {k : Int} {l s : Bs} (h : may k l = true) : matches_ k l s = hits k l s := by simp [matches_, h]
end Go.Proofs.YtnclifgiakmmoaaGreat.Pl
