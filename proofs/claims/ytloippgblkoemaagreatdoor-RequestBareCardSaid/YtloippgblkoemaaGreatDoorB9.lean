/- Merged by bundles.py: SimR, SimS, SimU. -/
import Derived.Test.YtloippgblkoemaaGreatDoorB8
import Derived.Test.YtloippgblkoemaaGreatDoorB1
import Derived.Laws.CopyOwn
import Derived.Lib.AppendZerosOnto
import Derived.Lib.Overlaps
import Derived.Laws.Externs
import Derived.Lib.SliceRun
/- A logic of states: rows that are the call's alone: shown, shortened, cleared, counted. -/
namespace Go.Proofs.YtloippgblkoemaaGreatDoor.Sim
set_option linter.unusedVariables false
set_option linter.unusedSimpArgs false
open Go.RowKit Mem
def mv0 (i j : Nat) : A → A
  | .own k n => bif Nat.beq k i then .own j n else .own k n
  | .oe k n sz kk off => bif Nat.beq k i then .oe j n sz kk off else .oe k n sz kk off
  | .sfx k n sz kk => bif Nat.beq k i then .sfx j n sz kk else .sfx k n sz kk
  | x => x
def A.mv (i j : Nat) (x : A) : A := x.mapA (mv0 i j)
theorem get_map2 {l : List (Nat × List A)} (f : A → A) (i : Nat) : get (l.map fun p => (p.1, p.2.map f)) i = (get l i).map (List.map f) := get_mapv _ _ _
theorem allt (x : A) : x.allP (fun _ => true) = true := by
  cases x <;> simp [A.allP, A.all1]
  intro y _; cases y <;> simp [A.all1]
section
variable {C : Ctx} {bx : List (Nat × List A)} {ow : List (Nat × Own)} {w : World} {m : Mm} {g : Gh}
theorem EnvG.show_ (he : EnvG C bx ow w m g) {i j : Nat} {o : Own} (hi : get ow i = some o) (hh : hid i = true) (h2 : Nat.ble 2000 j = false) (hj : get ow j = none) :
    ∃ m' g', EnvG C (bx.map fun p => (p.1, p.2.map (A.mv i j))) ((j, o) :: ow.filter (fun p => !(Nat.beq p.1 i))) w m' g' ∧ ∀ x v, AR m g x v → AR m' g' (x.mv i j) v := by
  obtain ⟨vs, hown, hrl, hca, hbk⟩ := he.owns i o hi
  have hij : j ≠ i := fun e => by subst e; rw [hi] at hj; cases hj
  have hmb : ∀ b, (g.go i).ownBlock = some b → ∀ k, m b k = none := fun b hb k => by rw [(hbk b hb).1 k, vis_hid hh]; rfl
  have hext : ∀ b k v, m b k = some v → rowm m (g.go i) (vis j vs) b k = some v := fun b k v hv => by
    unfold rowm
    split
    · rename_i hb; rw [hmb b hb k] at hv; cases hv
    · exact hv
  let g' : Gh := { g with go := fun k => if k = j then g.go i else g.go k, ln := fun k => if k = j then g.ln i else g.ln k, lw := fun k => if k = j then true else if k = i then false else g.lw k }
  have hgo : ∀ k, k ≠ j → g'.go k = g.go k ∧ g'.ln k = g.ln k := fun k hk => ⟨if_neg hk, if_neg hk⟩
  have hgj : g'.go j = g.go i ∧ g'.ln j = g.ln i := ⟨if_pos rfl, if_pos rfl⟩
  have hget : ∀ k, get ((j, o) :: ow.filter (fun p => !(Nat.beq p.1 i))) k = if j = k then some o else if k = i then none else get ow k := fun k => by
    rw [get_cons]
    split
    · rfl
    · refine (get_filter (fun k => !(Nat.beq k i)) ow k).trans ?_
      by_cases hk : k = i
      · subst hk; rw [if_pos rfl, if_neg]; rw [show Nat.beq k k = true from Nat.beq_refl _]; simp
      · rw [if_neg hk, if_pos]
        cases hb : Nat.beq k i with
        | true => exact absurd (Nat.eq_of_beq_eq_true hb) hk
        | false => rfl
  have hlj : ∀ k, g.lw k = true → k ≠ j := fun k hk e => by subst e; rw [he.lw, hj] at hk; cases hk
  have L0 : ∀ x v, AR0 m g x v → AR0 (rowm m (g.go i) (vis j vs)) g' (mv0 i j x) v := by
    intro x v hx
    cases x with
    | t x => exact TR.mono hext hx
    | own k n =>
      obtain ⟨h1, h2, h3, h4⟩ := hx
      show AR0 _ g' (bif Nat.beq k i then .own j n else .own k n) v
      cases hb : Nat.beq k i with
      | true =>
        obtain rfl := Nat.eq_of_beq_eq_true hb
        exact ⟨if_pos rfl, by rw [hgj.2]; exact h2, h3, by rw [hgj.1, hgj.2]; exact h4⟩
      | false =>
        have hk := hlj k h1
        exact ⟨by show (if k = j then true else if k = i then false else g.lw k) = true; rw [if_neg hk, if_neg (Nat.ne_of_beq_eq_false hb)]; exact h1, by rw [(hgo k hk).2]; exact h2, h3, by rw [(hgo k hk).1, (hgo k hk).2]; exact h4⟩
    | oe k n sz kk off =>
      obtain ⟨h1, h2, h3, h4⟩ := hx
      show AR0 _ g' (bif Nat.beq k i then .oe j n sz kk off else .oe k n sz kk off) v
      cases hb : Nat.beq k i with
      | true =>
        obtain rfl := Nat.eq_of_beq_eq_true hb
        exact ⟨if_pos rfl, by rw [hgj.2]; exact h2, h3, by rw [hgj.1, hgj.2]; exact h4⟩
      | false =>
        have hk := hlj k h1
        exact ⟨by show (if k = j then true else if k = i then false else g.lw k) = true; rw [if_neg hk, if_neg (Nat.ne_of_beq_eq_false hb)]; exact h1, by rw [(hgo k hk).2]; exact h2, h3, by rw [(hgo k hk).1, (hgo k hk).2]; exact h4⟩
    | sfx k n sz kk =>
      obtain ⟨h1, h2, h3, h4⟩ := hx
      show AR0 _ g' (bif Nat.beq k i then .sfx j n sz kk else .sfx k n sz kk) v
      cases hb : Nat.beq k i with
      | true =>
        obtain rfl := Nat.eq_of_beq_eq_true hb
        exact ⟨if_pos rfl, by rw [hgj.2]; exact h2, h3, by rw [hgj.1, hgj.2]; exact h4⟩
      | false =>
        have hk := hlj k h1
        exact ⟨by show (if k = j then true else if k = i then false else g.lw k) = true; rw [if_neg hk, if_neg (Nat.ne_of_beq_eq_false hb)]; exact h1, by rw [(hgo k hk).2]; exact h2, h3, by rw [(hgo k hk).1, (hgo k hk).2]; exact h4⟩
    | _ => exact hx
  have L : ∀ x v, AR m g x v → AR (rowm m (g.go i) (vis j vs)) g' (x.mv i j) v := fun x v hx => hx.mp _ (fun _ => true) (fun x v _ => L0 x v) (allt x)
  have hbx : ∀ k cs, get bx k = some cs → (g.go i).ownBlock ≠ some (g.gb k) := fun k cs hk e => (hbk _ e).2.1 k cs hk rfl
  refine ⟨rowm m (g.go i) (vis j vs), g', {
    lo := he.lo
    gm := he.gm
    sub := fun b k v hv => by
      unfold rowm at hv
      split at hv
      · rename_i hb
        have := hown.cells hb k v (vis_get hv)
        rwa [addr_add, Nat.zero_add] at this
      · exact he.sub b k v hv
    gt := fun b k v ht => hext b k v (he.gt b k v ht)
    ext := ⟨fun b k v hv => hext b k v (he.ext.keep b k v hv), fun b k hb hg => by
      unfold rowm
      split
      · rename_i hbb
        rcases (hbk b hbb).2.2 with h | h
        · omega
        · rw [hg] at h; cases h
      · exact he.ext.old b k hb hg⟩
    lb := fun k => by rw [get_map2]; rw [show (Option.map (List.map (A.mv i j)) (get bx k)).isSome = (get bx k).isSome by cases get bx k <;> rfl]; exact he.lb k
    lw := fun k => by
      rw [hget]
      show (if k = j then true else if k = i then false else g.lw k) = _
      by_cases hk : k = j
      · subst hk; rw [if_pos rfl, if_pos rfl]; rfl
      · have hk' : ¬ j = k := fun e => hk e.symm
        rw [if_neg hk, if_neg hk']
        split
        · rfl
        · exact he.lw k
    ln := fun k o' hk => by
      rw [hget] at hk
      by_cases hkj : k = j
      · subst hkj; rw [if_pos rfl] at hk; injection hk with hk; subst hk; rw [hgj.2]; exact he.ln i _ hi
      · have hkj' : ¬ j = k := fun e => hkj e.symm
        rw [if_neg hkj'] at hk
        split at hk
        · cases hk
        · rw [(hgo k hkj).2]; exact he.ln k o' hk
    boxes := fun k cs hk => by
      rw [get_map2] at hk
      cases hc : get bx k with
      | none => rw [hc] at hk; cases hk
      | some c0 =>
        rw [hc] at hk; injection hk with hk; subst hk
        obtain ⟨us, ty, h1, h2, h3, h4, h5⟩ := he.boxes k c0 hc
        refine ⟨us, ty, h1, by simpa using h2, fun q x u hx hu => ?_, h4, fun o => ?_⟩
        · rw [List.getElem?_map] at hx
          cases hq : c0[q]? with
          | none => rw [hq] at hx; cases hx
          | some y => rw [hq] at hx; injection hx with hx; subst hx; exact ⟨L y u (h3 q y u hq hu).1, (h3 q y u hq hu).2⟩
        · show rowm m (g.go i) (vis j vs) (g.gb k) o = none
          unfold rowm
          rw [if_neg (hbx k c0 hc)]; exact h5 o
    inj := fun p q cp cq hp hq e => by
      rw [get_map2] at hp hq
      cases hc : get bx p with
      | none => rw [hc] at hp; cases hp
      | some c0 =>
        cases hc2 : get bx q with
        | none => rw [hc2] at hq; cases hq
        | some c2 => exact he.inj p q c0 c2 hc hc2 e
    owns := fun k o' hk => by
      have hbxx : ∀ b : Nat, ∀ q cs, get (bx.map fun p => (p.1, p.2.map (A.mv i j))) q = some cs → ∃ c0, get bx q = some c0 := fun b q cs hq => by
        rw [get_map2] at hq
        cases hc : get bx q with
        | none => rw [hc] at hq; cases hq
        | some c0 => exact ⟨c0, rfl⟩
      rw [hget] at hk
      by_cases hkj : k = j
      · subst hkj
        rw [if_pos rfl] at hk; injection hk with hk; subst hk
        rw [hgj.1]
        refine ⟨vs, hown, hrl, hca.mono hext, fun b hb => ⟨fun q => ?_, fun q cs hq => ?_, (hbk b hb).2.2⟩⟩
        · unfold rowm; rw [if_pos hb]
        · obtain ⟨c0, h1⟩ := hbxx b q cs hq
          exact (hbk b hb).2.1 q c0 h1
      · have hkj' : ¬ j = k := fun e => hkj e.symm
        rw [if_neg hkj'] at hk
        by_cases hki : k = i
        · rw [if_pos hki] at hk; cases hk
        · rw [if_neg hki] at hk
          rw [(hgo k hkj).1]
          obtain ⟨us, h1, h2, h3, h4⟩ := he.owns k o' hk
          refine ⟨us, h1, h2, h3.mono hext, fun b hb => ⟨fun q => ?_, fun q cs hq => ?_, (h4 b hb).2.2⟩⟩
          · unfold rowm
            rw [if_neg (fun e => he.apart i k o o' hi hk (fun e => hki e.symm) b e hb)]; exact (h4 b hb).1 q
          · obtain ⟨c0, h5⟩ := hbxx b q cs hq
            exact (h4 b hb).2.1 q c0 h5
    apart := fun p q op oq hp hq hpq b hb => by
      rw [hget] at hp hq
      by_cases hpj : p = j
      · subst hpj
        rw [hgj.1] at hb
        rw [if_neg hpq] at hq
        split at hq
        · cases hq
        · rename_i hqi
          rw [(hgo q (fun e => hpq e.symm)).1]
          exact he.apart i q o oq hi hq (fun e => hqi e.symm) b hb
      · rw [if_neg (fun e => hpj e.symm)] at hp
        split at hp
        · cases hp
        · rename_i hpi
          rw [(hgo p hpj).1] at hb
          by_cases hqj : q = j
          · subst hqj; rw [hgj.1]; exact he.apart p i op o hp hi hpi b hb
          · rw [if_neg (fun e => hqj e.symm)] at hq
            split at hq
            · cases hq
            · rw [(hgo q hqj).1]; exact he.apart p q op oq hp hq hpq b hb
    pin := fun k o' hk hk2 => by
      rw [hget] at hk
      by_cases hkj : k = j
      · subst hkj; rw [h2] at hk2; cases hk2
      · have hkj' : ¬ j = k := fun e => hkj e.symm
        rw [if_neg hkj'] at hk
        split at hk
        · cases hk
        · rw [(hgo k hkj).1]; exact he.pin k o' hk hk2
    pinb := fun k cs hk hk2 => by
      rw [get_map2] at hk
      cases hc : get bx k with
      | none => rw [hc] at hk; cases hk
      | some c0 => exact he.pinb k c0 hc hk2 }, L⟩
end
theorem weak_show {N : Nat} {tm : List (Nat × A)} {bx : List (Nat × List A)} {ow : List (Nat × Own)} (i j : Nat) {o : Own} (hi : get ow i = some o) (hh : hid i = true) (h2 : Nat.ble 2000 j = false) (hj : get ow j = none) :
    Weak N ⟨tm, bx, ow⟩ ⟨tm.map fun p => (p.1, p.2.mv i j), bx.map fun p => (p.1, p.2.map (A.mv i j)), (j, o) :: ow.filter (fun p => !(Nat.beq p.1 i))⟩ := .mk fun C a w ⟨m, g, hr⟩ => by
  obtain ⟨m', g', h3, h4⟩ := hr.env.show_ hi hh h2 hj
  refine ⟨m', g', h3, hr.size, hr.defers, fun s x hx => ?_⟩
  rw [show get (tm.map fun p => (p.1, p.2.mv i j)) s = _ from get_mapv _ _ _] at hx
  cases h5 : get tm s with
  | none => rw [h5] at hx; cases hx
  | some y => rw [h5] at hx; injection hx with hx; subst hx; exact h4 y _ (hr.tmps s y h5)

section
variable {P : Program} {N : Nat} {Q : Exit → St → Prop} {ops : Array Oper} {rest : List Oper} {o : Oper} {tm : List (Nat × A)} {bx : List (Nat × List A)} {ow : List (Nat × Own)} {ρ : Operand → Option A}
theorem po_len_own {x : Operand} {i n : Nat} {t : TypeId} (ho : o.op = .call { callee := .builtin .len, args := #[x], argTypes := #[t] }) (hx : ρ x = some (.own i n)) {sz : Nat} (hT : sliceSz P t = some sz) : PureOp P bx ow o ρ (.t (.v (.int .i64 (n : Int)))) := pure_run fun C m g w a he h => by
  obtain ⟨_, _, ⟨A, c, h1⟩, _⟩ := h x (by simp [ho, Op.operands, Call.operands]) _ hx
  obtain ⟨e, ii, hu, _⟩ := sliceSz_spec hT
  refine ⟨.int .i64 n, ?_, .v _⟩
  simp [execOp, ho, resolve, invoke, builtin, h1, Builtin.len_, Builtin.lenOf, run_underlying hu, goInt]
theorem po_slice_sfx {t e sz l : Nat} {x q : Operand} {i n : Nat} {ik : IntKind} {rows : List (List T)} (ho : o.op = .slice t x (some q) none none) (hx : ρ x = some (.own i n)) (hi : get ow i = some ⟨e, sz, rows⟩) (hn : n = rows.length) (hT : sliceSz P t = some sz) (hq : ρ q = some (.t (.v (.int ik l)))) (hl : l ≤ n) (h0 : 0 < n) : PureOp P bx ow o ρ (.sfx i n sz l) := pure_run fun C m g w a he h => by
  obtain ⟨h1, h2, h3, h4⟩ := h x (by simp [ho, Op.operands]) _ hx
  have h5 := tr_v (h q (by simp [ho, Op.operands]) _ hq)
  have hln := he.ln i _ hi
  have hv := h4 (by rw [hln]; exact hn)
  obtain ⟨e', ii, hu, hie, hs⟩ := sliceSz_spec hT
  obtain ⟨vs, hown, _⟩ := he.owns i _ hi
  dsimp only at hown
  obtain ⟨b, cap, cur, e1, _, _, e4, _⟩ := own_form hown (by omega)
  rw [e1] at hv
  have c1 : (l : Int) ≤ (n : Int) := by omega
  have hrun : (execOp a.eval o).run P w = .ok (.value (.slice (if cap = l then some ⟨b, 0, none⟩ else some ⟨b, l * sz, none⟩) (n - l) (cap - l))) w := by
    subst hn
    by_cases hcl : cap = l <;> simp [execOp, ho, hv, h5, Instr.sliceAt, run_underlying hu, Instr.slice, Instr.sliceBounds, Instr.sliceBound, asIntOf, sizeOf, typeInfo, hie, hs, c1, hl, hcl, add_mid]
  exact ⟨_, hrun, h1, h2, ⟨_, _, rfl⟩, fun _ => ⟨b, cap, by rw [e1, hn], rfl⟩⟩
theorem flat_take {α : Type} {sz : Nat} {rows : List (List α)} (hr : ∀ r ∈ rows, r.length = sz) (k : Nat) : (rows.take k).flatten = rows.flatten.take (k * sz) := by
  induction rows generalizing k with
  | nil => simp
  | cons r rs ih =>
    cases k with
    | zero => simp
    | succ k =>
      have hq := hr r (by simp)
      rw [List.take_succ_cons, List.flatten_cons, List.flatten_cons, ih (fun x hx => hr x (by simp [hx])), Nat.succ_mul, List.take_append, List.take_of_length_le (show r.length ≤ k * sz + sz by omega)]
      congr 2; omega
end
end Go.Proofs.YtloippgblkoemaaGreatDoor.Sim

/- A logic of states: rows that are the call's alone, shortened. -/
namespace Go.Proofs.YtloippgblkoemaaGreatDoor.Sim
set_option linter.unusedVariables false
set_option linter.unusedSimpArgs false
open Go.RowKit Mem

section
variable {C : Ctx} {bx : List (Nat × List A)} {ow : List (Nat × Own)} {w : World} {m : Mm} {g : Gh}
theorem EnvG.shrink (he : EnvG C bx ow w m g) {i k cap cap' b : Nat} {e : TypeId} {sz : Nat} {rows : List (List T)} {A0 : Option Addr} (hi : get ow i = some ⟨e, sz, rows⟩) (hh : hid i = true) (h2 : Nat.ble 2000 i = false) (hk : k ≤ rows.length) (hc1 : k ≤ cap') (hc2 : cap' ≤ cap)
    (hgo : (g.go i = .slice none 0 0 ∧ A0 = none ∧ cap = 0) ∨ (g.go i = .slice (some ⟨b, 0, none⟩) rows.length cap ∧ A0 = some ⟨b, 0, none⟩)) :
    EnvG C (bx.map fun p => (p.1, p.2.map (A.clr fun j => Nat.beq j i))) ((i, ⟨e, sz, rows.take k⟩) :: ow) w m (g.setO i (.slice A0 k cap') k) ∧ ∀ x v, AR m g x v → AR m (g.setO i (.slice A0 k cap') k) (x.clr fun j => Nat.beq j i) v := by
  obtain ⟨vs, hown, hrl, hca, hbk⟩ := he.owns i _ hi
  dsimp only at hown hrl hca hbk
  have hgj : ∀ q, q ≠ i → (g.setO i (.slice A0 k cap') k).go q = g.go q ∧ (g.setO i (.slice A0 k cap') k).ln q = g.ln q ∧ (g.setO i (.slice A0 k cap') k).lw q = g.lw q := fun q hq => ⟨if_neg hq, if_neg hq, if_neg hq⟩
  have hgi : (g.setO i (.slice A0 k cap') k).go i = .slice A0 k cap' ∧ (g.setO i (.slice A0 k cap') k).ln i = k ∧ (g.setO i (.slice A0 k cap') k).lw i = true := ⟨if_pos rfl, if_pos rfl, if_pos rfl⟩
  have hblk : (Value.slice A0 k cap').ownBlock = (g.go i).ownBlock := by
    rcases hgo with ⟨h1, rfl, _⟩ | ⟨h1, rfl⟩ <;> rw [h1] <;> rfl
  have L0 : ∀ x v, AR0 m g x v → AR0 m (g.setO i (.slice A0 k cap') k) (clr0 (fun j => Nat.beq j i) x) v := by
    intro x v hx
    cases x with
    | own q n =>
      show AR0 m _ (bif Nat.beq q i then .any else .own q n) v
      cases hb : Nat.beq q i with
      | true => trivial
      | false =>
        obtain ⟨e1, e2, e3⟩ := hgj q (Nat.ne_of_beq_eq_false hb)
        exact ⟨e3.trans hx.1, by rw [e2]; exact hx.2.1, hx.2.2.1, by rw [e1, e2]; exact hx.2.2.2⟩
    | oe q n sz kk off =>
      show AR0 m _ (bif Nat.beq q i then .any else .oe q n sz kk off) v
      cases hb : Nat.beq q i with
      | true => trivial
      | false =>
        obtain ⟨e1, e2, e3⟩ := hgj q (Nat.ne_of_beq_eq_false hb)
        exact ⟨e3.trans hx.1, by rw [e2]; exact hx.2.1, hx.2.2.1, by rw [e1, e2]; exact hx.2.2.2⟩
    | sfx q n sz kk =>
      show AR0 m _ (bif Nat.beq q i then .any else .sfx q n sz kk) v
      cases hb : Nat.beq q i with
      | true => trivial
      | false =>
        obtain ⟨e1, e2, e3⟩ := hgj q (Nat.ne_of_beq_eq_false hb)
        exact ⟨e3.trans hx.1, by rw [e2]; exact hx.2.1, hx.2.2.1, by rw [e1, e2]; exact hx.2.2.2⟩
    | _ => exact hx
  have L : ∀ x v, AR m g x v → AR m (g.setO i (.slice A0 k cap') k) (x.clr fun j => Nat.beq j i) v := fun x v hx => hx.mp _ (fun _ => true) (fun x v _ => L0 x v) (allt x)
  have hbx : ∀ q cs, get (bx.map fun p => (p.1, p.2.map (A.clr fun j => Nat.beq j i))) q = some cs → ∃ c0, get bx q = some c0 ∧ cs = c0.map (A.clr fun j => Nat.beq j i) := fun q cs hq => by
    rw [get_map2] at hq
    cases hc : get bx q with
    | none => rw [hc] at hq; cases hq
    | some c0 => rw [hc] at hq; injection hq with hq; exact ⟨c0, rfl, hq.symm⟩
  have hlen : (rows.take k).length = k := by simp; omega
  refine ⟨{
    lo := he.lo, gm := he.gm, sub := he.sub, ext := he.ext, gt := he.gt
    lb := fun q => by rw [get_map2]; rw [show (Option.map (List.map (A.clr fun j => Nat.beq j i)) (get bx q)).isSome = (get bx q).isSome by cases get bx q <;> rfl]; exact he.lb q
    lw := fun q => by
      rw [get_cons]
      by_cases hq : i = q
      · subst hq; rw [if_pos rfl, hgi.2.2]; rfl
      · rw [if_neg hq, (hgj q (fun e => hq e.symm)).2.2]; exact he.lw q
    ln := fun q o' hq => by
      rw [get_cons] at hq
      by_cases hqi : i = q
      · subst hqi; rw [if_pos rfl] at hq; injection hq with hq; subst hq; rw [hgi.2.1]; exact hlen.symm
      · rw [if_neg hqi] at hq; rw [(hgj q (fun e => hqi e.symm)).2.1]; exact he.ln q o' hq
    boxes := fun q cs hq => by
      obtain ⟨c0, hc, rfl⟩ := hbx q cs hq
      obtain ⟨us, ty, h1, h2, h3, h4, h5⟩ := he.boxes q c0 hc
      refine ⟨us, ty, h1, .ce (c := g.cz) (by simpa using h2) rfl, fun p x u hx hu => ?_, h4, h5⟩
      rw [List.getElem?_map] at hx
      cases hp : c0[p]? with
      | none => rw [hp] at hx; cases hx
      | some y => rw [hp] at hx; injection hx with hx; subst hx; exact ⟨L y u (h3 p y u hp hu).1, (h3 p y u hp hu).2⟩
    inj := fun p q cp cq hp hq e => by
      obtain ⟨c0, h1, _⟩ := hbx p cp hp
      obtain ⟨c2, h3, _⟩ := hbx q cq hq
      exact he.inj p q c0 c2 h1 h3 e
    owns := fun q o' hq => by
      rw [get_cons] at hq
      by_cases hqi : i = q
      · subst hqi
        rw [if_pos rfl] at hq; injection hq with hq; subst hq
        rw [hgi.1]
        refine ⟨vs.take (k * sz), ?_, fun r hr => hrl r (List.mem_of_mem_take hr), ?_, fun b' hb' => ?_⟩
        · show RowM w 0 e sz (.slice A0 k cap') (rows.take k).length (vs.take (k * sz))
          rw [hlen]
          obtain ⟨h5, h6⟩ := hown
          have hks : k * sz ≤ rows.length * sz := Nat.mul_le_mul_right _ hk
          refine ⟨by simp; omega, ?_⟩
          rcases hgo with ⟨h1, rfl, rfl⟩ | ⟨h1, rfl⟩
          · rcases h6 with ⟨_, h7⟩ | ⟨b2, cap2, cur, h7, _⟩
            · exact .inl ⟨by rw [show k = 0 by omega, show cap' = 0 by omega], by omega⟩
            · rw [h1] at h7; cases h7
          · rcases h6 with ⟨h7, _⟩ | ⟨b2, cap2, cur, h7, h8, h9, h10, h11, h12, h13⟩
            · rw [h1] at h7; cases h7
            · rw [h1] at h7; injection h7 with h7 _ h14; injection h7 with h7; injection h7 with h7; subst h7 h14
              exact .inr ⟨b, cap', cur, rfl, h8, h9, by omega, Nat.le_trans hc2 h11, Nat.le_trans (Nat.mul_le_mul_right _ hc2) h12, by rw [← h13, List.take_take, Nat.min_eq_left hks]⟩
        · show CellsAre m (rows.take k).flatten _
          rw [flat_take hrl]; exact hca.take _
        · rw [hblk] at hb'
          refine ⟨fun p => by rw [(hbk b' hb').1 p, vis_hid hh, vis_hid hh], fun p cp hp => ?_, (hbk b' hb').2.2⟩
          obtain ⟨c0, h1, _⟩ := hbx p cp hp
          exact (hbk b' hb').2.1 p c0 h1
      · rw [if_neg hqi] at hq
        rw [(hgj q (fun e => hqi e.symm)).1]
        obtain ⟨us, h1, h2, h3, h4⟩ := he.owns q o' hq
        refine ⟨us, h1, h2, h3, fun b' hb' => ⟨(h4 b' hb').1, fun p cp hp => ?_, (h4 b' hb').2.2⟩⟩
        obtain ⟨c0, h5, _⟩ := hbx p cp hp
        exact (h4 b' hb').2.1 p c0 h5
    apart := fun p q op oq hp hq hpq b' hb' => by
      rw [get_cons] at hp hq
      by_cases hpi : i = p
      · subst hpi
        rw [hgi.1, hblk] at hb'
        rw [if_neg hpq] at hq
        rw [(hgj q (fun e => hpq e.symm)).1]
        exact he.apart i q _ oq hi hq hpq b' hb'
      · rw [if_neg hpi] at hp
        rw [(hgj p (fun e => hpi e.symm)).1] at hb'
        by_cases hqi : i = q
        · subst hqi; rw [hgi.1, hblk]; exact he.apart p i op _ hp hi hpq b' hb'
        · rw [if_neg hqi] at hq
          rw [(hgj q (fun e => hqi e.symm)).1]; exact he.apart p q op oq hp hq hpq b' hb'
    pin := fun q o' hq hq2 => by
      rw [get_cons] at hq
      by_cases hqi : i = q
      · subst hqi; rw [h2] at hq2; cases hq2
      · rw [if_neg hqi] at hq; rw [(hgj q (fun e => hqi e.symm)).1]; exact he.pin q o' hq hq2
    pinb := fun q cs hq hq2 => by
      obtain ⟨c0, hc, _⟩ := hbx q cs hq
      exact he.pinb q c0 hc hq2 }, L⟩
end
section
variable {P : Program} {N : Nat} {Q : Exit → St → Prop} {ops : Array Oper} {rest : List Oper} {o : Oper} {tm : List (Nat × A)} {bx : List (Nat × List A)} {ow : List (Nat × Own)} {ρ : Operand → Option A}
theorem sops_shrink {t e sz k d : Nat} {x q : Operand} {i n : Nat} {ik : IntKind} {rows : List (List T)} (hh : hid i = true) (h2 : Nat.ble 2000 i = false) (hg : GuardIs ops tm o true) (ho : o.op = .slice t x none (some q) none) (hd : o.dst = some d) (hN : Nat.blt d N = true) (hx : evA tm x = some (.own i n)) (hi : get ow i = some ⟨e, sz, rows⟩) (hn : n = rows.length) (hT : sliceSz P t = some sz) (hq : evA tm q = some (.t (.v (.int ik k)))) (hk : k ≤ n)
    (h : SOps P N ops Q rest ⟨(d, .own i k) :: tm.map (fun p => (p.1, p.2.clr fun j => Nat.beq j i)), bx.map (fun p => (p.1, p.2.map (A.clr fun j => Nat.beq j i))), (i, ⟨e, sz, rows.take k⟩) :: ow⟩) : SOps P N ops Q (o :: rest) ⟨tm, bx, ow⟩ := by
  refine sops_run hg (fun C a w m g hr => ?_) h
  have he := hr.env
  obtain ⟨h1, h3, _, h4⟩ := hr.ev hx
  have h5 := tr_v (show TR m (.v (.int ik k)) (a.eval q) from hr.ev hq)
  have hln := he.ln i _ hi
  have hv := h4 (by rw [hln]; exact hn)
  obtain ⟨e', ii, hu, hie, hs⟩ := sliceSz_spec hT
  obtain ⟨vs, hown, _⟩ := he.owns i _ hi
  dsimp only at hown
  subst hn
  have key : ∃ (A0 : Option Addr) (cap b : Nat), a.eval x = .slice A0 rows.length cap ∧ rows.length ≤ cap ∧ ((g.go i = .slice none 0 0 ∧ A0 = none ∧ cap = 0) ∨ (g.go i = .slice (some ⟨b, 0, none⟩) rows.length cap ∧ A0 = some ⟨b, 0, none⟩)) := by
    obtain ⟨_, ⟨h6, h7⟩ | ⟨b, cap, cur, h6, _, _, h7, _⟩⟩ := hown
    · exact ⟨none, 0, 0, by rw [hv, h6, h7], by omega, .inl ⟨h6, rfl, rfl⟩⟩
    · exact ⟨_, cap, b, by rw [hv, h6], h7, .inr ⟨h6, rfl⟩⟩
  obtain ⟨A0, cap, b, h6, h7, h8⟩ := key
  have c3 : k ≤ cap := by omega
  have hrun : (execOp a.eval o).run P w = .ok (.value (.slice A0 k cap)) w := by
    have hA : (if cap = 0 then A0 else A0.map (·.add (0 * sz))) = A0 := by
      split
      · rfl
      · rcases h8 with ⟨_, rfl, _⟩ | ⟨_, rfl⟩
        · rfl
        · simp [add_mid]
    have hA' : A0.map (fun x => x.add 0) = A0 := by
      rcases h8 with ⟨_, rfl, _⟩ | ⟨_, rfl⟩
      · rfl
      · simp [add_mid]
    simp [execOp, ho, h6, h5, Instr.sliceAt, run_underlying hu, Instr.slice, Instr.sliceBounds, Instr.sliceBound, asIntOf, sizeOf, typeInfo, hie, hs, c3]
    intro _; exact hA'
  obtain ⟨h9, h10⟩ := he.shrink (b := b) (cap' := cap) hi hh h2 hk c3 (Nat.le_refl _) h8
  refine ⟨_, w, hrun, ?_⟩
  rw [hd]
  have hrel : RelG C N ⟨tm.map (fun p => (p.1, p.2.clr fun j => Nat.beq j i)), _, _⟩ a w m _ := ⟨h9, hr.size, hr.defers, fun s x hx => by
    rw [show get (tm.map fun p => (p.1, p.2.clr fun j => Nat.beq j i)) s = _ from get_mapv _ _ _] at hx
    cases h5 : get tm s with
    | none => rw [h5] at hx; cases hx
    | some y => rw [h5] at hx; injection hx with hx; subst hx; exact h10 y _ (hr.tmps s y h5)⟩
  exact ⟨m, _, hrel.put h9 (fun x v h => h) (Nat.lt_of_succ_le (Nat.le_of_ble_eq_true hN)) ⟨by simp [Gh.setO], by simp [Gh.setO], ⟨_, _, rfl⟩, fun _ => by simp [Gh.setO]⟩⟩
theorem sops_cut {t e sz k d : Nat} {x q q2 : Operand} {i n : Nat} {ik : IntKind} {rows : List (List T)} (hh : hid i = true) (h2 : Nat.ble 2000 i = false) (hg : GuardIs ops tm o true) (ho : o.op = .slice t x none (some q) (some q2)) (hd : o.dst = some d) (hN : Nat.blt d N = true) (hx : evA tm x = some (.own i n)) (hi : get ow i = some ⟨e, sz, rows⟩) (hn : n = rows.length) (hT : sliceSz P t = some sz) (hq : evA tm q = some (.t (.v (.int ik k)))) (hq2 : evA tm q2 = some (.t (.v (.int ik k)))) (hk : k ≤ n)
    (h : SOps P N ops Q rest ⟨(d, .own i k) :: tm.map (fun p => (p.1, p.2.clr fun j => Nat.beq j i)), bx.map (fun p => (p.1, p.2.map (A.clr fun j => Nat.beq j i))), (i, ⟨e, sz, rows.take k⟩) :: ow⟩) : SOps P N ops Q (o :: rest) ⟨tm, bx, ow⟩ := by
  refine sops_run hg (fun C a w m g hr => ?_) h
  have he := hr.env
  obtain ⟨h1, h3, _, h4⟩ := hr.ev hx
  have h5 := tr_v (show TR m (.v (.int ik k)) (a.eval q) from hr.ev hq)
  have h5' := tr_v (show TR m (.v (.int ik k)) (a.eval q2) from hr.ev hq2)
  have hln := he.ln i _ hi
  have hv := h4 (by rw [hln]; exact hn)
  obtain ⟨e', ii, hu, hie, hs⟩ := sliceSz_spec hT
  obtain ⟨vs, hown, _⟩ := he.owns i _ hi
  dsimp only at hown
  subst hn
  have key : ∃ (A0 : Option Addr) (cap b : Nat), a.eval x = .slice A0 rows.length cap ∧ rows.length ≤ cap ∧ ((g.go i = .slice none 0 0 ∧ A0 = none ∧ cap = 0) ∨ (g.go i = .slice (some ⟨b, 0, none⟩) rows.length cap ∧ A0 = some ⟨b, 0, none⟩)) := by
    obtain ⟨_, ⟨h6, h7⟩ | ⟨b, cap, cur, h6, _, _, h7, _⟩⟩ := hown
    · exact ⟨none, 0, 0, by rw [hv, h6, h7], by omega, .inl ⟨h6, rfl, rfl⟩⟩
    · exact ⟨_, cap, b, by rw [hv, h6], h7, .inr ⟨h6, rfl⟩⟩
  obtain ⟨A0, cap, b, h6, h7, h8⟩ := key
  have c3 : k ≤ cap := by omega
  have hrun : (execOp a.eval o).run P w = .ok (.value (.slice A0 k k)) w := by
    have hA : (if cap = 0 then A0 else A0.map (·.add (0 * sz))) = A0 := by
      split
      · rfl
      · rcases h8 with ⟨_, rfl, _⟩ | ⟨_, rfl⟩
        · rfl
        · simp [add_mid]
    have hA' : A0.map (fun x => x.add 0) = A0 := by
      rcases h8 with ⟨_, rfl, _⟩ | ⟨_, rfl⟩
      · rfl
      · simp [add_mid]
    simp [execOp, ho, h6, h5, h5', Instr.sliceAt, run_underlying hu, Instr.slice, Instr.sliceBounds, Instr.sliceBound, asIntOf, sizeOf, typeInfo, hie, hs, c3]
    intro _; exact hA'
  obtain ⟨h9, h10⟩ := he.shrink (b := b) (cap' := k) hi hh h2 hk (Nat.le_refl _) c3 h8
  refine ⟨_, w, hrun, ?_⟩
  rw [hd]
  have hrel : RelG C N ⟨tm.map (fun p => (p.1, p.2.clr fun j => Nat.beq j i)), _, _⟩ a w m _ := ⟨h9, hr.size, hr.defers, fun s x hx => by
    rw [show get (tm.map fun p => (p.1, p.2.clr fun j => Nat.beq j i)) s = _ from get_mapv _ _ _] at hx
    cases h5 : get tm s with
    | none => rw [h5] at hx; cases hx
    | some y => rw [h5] at hx; injection hx with hx; subst hx; exact h10 y _ (hr.tmps s y h5)⟩
  exact ⟨m, _, hrel.put h9 (fun x v h => h) (Nat.lt_of_succ_le (Nat.le_of_ble_eq_true hN)) ⟨by simp [Gh.setO], by simp [Gh.setO], ⟨_, _, rfl⟩, fun _ => by simp [Gh.setO]⟩⟩
end
end Go.Proofs.YtloippgblkoemaaGreatDoor.Sim
namespace Go.Proofs.YtloippgblkoemaaGreatDoor.Sim
set_option linter.unusedVariables false
set_option linter.unusedSimpArgs false
open Go.RowKit Mem
section
variable {P : Program} {N : Nat} {Q : Exit → St → Prop} {ops : Array Oper} {rest : List Oper} {o : Oper} {tm : List (Nat × A)} {bx bx0 bx1 : List (Nat × List A)} {ow ow0 ow1 : List (Nat × Own)}
theorem sops_lcall_tclo {f : FuncId} {xz : Operand} {caps : List T} {xs : List Operand} {at_ : Array TypeId} {args : List A} {r : A} {d : Nat} (hc : LCalls P f (args ++ caps.map A.t) bx0 ow0 r bx1 ow1) (fb fw : Nat → Nat) (kp : Nat → Bool) (hg : GuardIs ops tm o true) (ho : o.op = .call { callee := .value xz, args := xs.toArray, argTypes := at_ }) (hd : o.dst = some d) (hN : Nat.blt d N = true)
    (hz : evA tm xz = some (.t (.clo f caps))) (ha : ArgsL fb fw ow bx0 ow0 (evA tm) xs args) (hx : LentX fb fw bx bx0) (hw : LentW fw ow ow0) (hl : (bx0.all fun p => p.2.all fun x => x.live bx0 ow0) = true) (hB : lendB fb fw bx bx0 bx1 ow ow0 ow1 = true)
    (hkp : ∀ i, kp i = true → Nat.ble 2000 i = true ∧ ∃ o0 o1, get ow0 i = some o0 ∧ get ow1 i = some o1 ∧ o1.rows.length = o0.rows.length)
    (h : SOps P N ops Q rest ⟨(d, r.ren fb fw) :: tm.map (fun p => (p.1, p.2.clr (chgOf fw kp ow0))), bxAft fb fw (chgOf fw kp ow0) bx1 bx, owAft fw ow0 ow1 ow⟩) : SOps P N ops Q (o :: rest) ⟨tm, bx, ow⟩ := by
  have hL := lend_of (kp := kp) hx hw hl hB hkp
  refine .mk fun C a w ⟨m, g, hr⟩ => ?_
  obtain ⟨h1, h2⟩ := ha.ok hL hr.env (a := a) (fun x _ y hy => hr.ev hy)
  have h0 : TR m (.clo f caps) (a.eval xz) := hr.ev hz
  generalize hvz : a.eval xz = vz at h0
  cases h0 with
  | clo f caps vs hvl hvc =>
    have hrun : (execOp a.eval o).run P w = .ok (.enter f ((xs.map a.eval).toArray ++ vs)) w := by
      have := hc.ent ((xs.map a.eval).toArray ++ vs) w
      simp only [execOp, ho, resolve, Deferred.ofValue, hvz, invoke, Sem.run_bind, Sem.run_pure, Result.andThen_ok, List.map_toArray, Array.append_empty, Array.empty_append] at this ⊢
      simpa using this
    refine wpList_step fun K hK => ?_
    rw [if_pos (hg.wanted (m := m) (g := g) fun j want e _ _ y hy => hr.tmps e y hy)]
    refine wp_call_of hrun (hc.run m w _ _ (hL.env_in hr.env) (by simp [h1, hvl]) (fun i x v h3 h4 => ?_)) ?_
    · rw [List.getElem?_append] at h3
      rw [Array.getElem?_append] at h4
      by_cases hi : i < args.length
      · rw [if_pos hi] at h3
        rw [if_pos (by simp; omega)] at h4
        exact h2 i x v h3 (by simpa using h4)
      · rw [if_neg hi] at h3
        rw [if_neg (by simp; omega)] at h4
        rw [List.getElem?_map] at h3
        cases hc' : caps[i - args.length]? with
        | none => rw [hc'] at h3; cases h3
        | some t =>
          rw [hc'] at h3; injection h3 with h3; subst h3
          exact hvc (i - args.length) t v hc' (by rw [← h1]; simpa using h4)
    rintro e w' ⟨v, m', g', rfl, henv, hv⟩
    obtain ⟨g'', e1, e2, e3⟩ := hL.env_out hr.env henv
    refine ⟨v, rfl, hK _ _ (h.go C _ _ ⟨m', g'', ?_⟩)⟩
    rw [hd]
    have hrel : RelG C N ⟨tm.map (fun p => (p.1, p.2.clr (chgOf fw kp ow0))), bxAft fb fw (chgOf fw kp ow0) bx1 bx, owAft fw ow0 ow1 ow⟩ a w' m' g'' := ⟨e1, hr.size, hr.defers, fun s x hx => by
      rw [show get (tm.map fun p => (p.1, p.2.clr (chgOf fw kp ow0))) s = _ from get_mapv _ _ _] at hx
      cases h5 : get tm s with
      | none => rw [h5] at hx; cases hx
      | some y => rw [h5] at hx; injection hx with hx; subst hx; exact e2 y _ (hr.tmps s y h5)⟩
    exact hrel.put e1 (fun x v h => h) (Nat.lt_of_succ_le (Nat.le_of_ble_eq_true hN)) (e3 r v hv)
end
end Go.Proofs.YtloippgblkoemaaGreatDoor.Sim

/- A logic of states: is a slice nil; an empty row of the call's own, under any number. -/
namespace Go.Proofs.YtloippgblkoemaaGreatDoor.Sim
set_option linter.unusedVariables false
set_option linter.unusedSimpArgs false
open Go.RowKit Mem
section
variable {P : Program} {N : Nat} {Q : Exit → St → Prop} {ops : Array Oper} {rest : List Oper} {o : Oper} {tm : List (Nat × A)} {bx : List (Nat × List A)} {ow : List (Nat × Own)}
theorem sops_isnil {t t2 sz d : Nat} {x : Operand} {y : A} {rows : List (List T)} (hg : GuardIs ops tm o true) (ho : o.op = .binOp .eql t x (.const (.slice none 0 0)) t2) (hd : o.dst = some d) (hN : Nat.blt d N = true) (hx : evA tm x = some y) (hv : Vw ow y (.sl sz rows)) (hT : sliceSz P t = some sz)
    (h : ∀ b, (b = true → rows = []) → SOps P N ops Q rest ⟨(d, .t (.v (.bool b))) :: tm, bx, ow⟩) : SOps P N ops Q (o :: rest) ⟨tm, bx, ow⟩ := by
  refine .mk fun C a w ⟨m, g, hr⟩ => ?_
  have hvt : TR m (.sl sz rows) (a.eval x) := hv.ok hr.env (hr.ev hx)
  obtain ⟨e, ii, hu, _⟩ := sliceSz_spec hT
  generalize hvx : a.eval x = v at hvt
  cases hvt with
  | sl _ _ A0 b off cap u hc hm hA hrl hu' ht =>
    have hrun : (execOp a.eval o).run P w = .ok (.value (.bool A0.isNone)) w := by
      have := Lib.run_eql_slice_nil (P := P) w t e A0 rows.length cap 0 0 hu
      have hc0 : a.eval (.const (.slice none 0 0)) = .slice none 0 0 := rfl
      have hgd : (eqGuard .eql t x (.const (.slice none 0 0)) (.slice A0 rows.length cap) (.slice none 0 0)).run P w = .ok () w := by simp [eqGuard]
      simp only [execOp, ho, hvx, hc0, Sem.run_bind, Sem.run_pure, Result.andThen_ok, this, hgd]
    have hb : A0.isNone = true → rows = [] := fun hn => by
      cases rows with
      | nil => rfl
      | cons r rs => rw [hA (by simp)] at hn; cases hn
    refine wpList_step fun K hK => ?_
    rw [if_pos (hg.wanted (m := m) (g := g) fun j want e _ _ y hy => hr.tmps e y hy)]
    refine wp_of_run hrun (hK _ _ ((h A0.isNone hb).go C _ _ ⟨m, g, ?_⟩))
    rw [hd]
    exact hr.put hr.env (fun x v h => h) (Nat.lt_of_succ_le (Nat.le_of_ble_eq_true hN)) (TR.v _)
theorem swp_ret_weak {st st' : St} (hw : Weak N st st') (h : Q .ret st') : SWp P N .ret Q st := .mk fun C a w hr => wp_ret ⟨st', hw.go C a w hr, h⟩
theorem sops_build0i (i : Nat) {t e sz by_ d : Nat} (hg : GuardIs ops tm o true) (ho : o.op = .buildSlice t 0 #[]) (hd : o.dst = some d) (hN : Nat.blt d N = true) (hT : sliceE P t = some (e, sz, by_)) (hi : get ow i = none)
    (h : SOps P N ops Q rest ⟨(d, .own i 0) :: tm, bx, (i, ⟨e, sz, []⟩) :: ow⟩) (hp : Nat.ble 2000 i = false := by rfl) : SOps P N ops Q (o :: rest) ⟨tm, bx, ow⟩ := by
  refine sops_run hg (fun C a w m g hr => ?_) h
  have he := hr.env
  obtain ⟨i', zv, hu, hi', _⟩ := sliceE_spec hT
  have hlw : g.lw i = false := by rw [he.lw, hi]; rfl
  refine ⟨.slice (some ⟨w.heap.size, 0, none⟩) 0 0, w.alloc (.cells #[] e), ?_, ?_⟩
  · simp [execOp, ho, Instr.buildSlice, run_underlying hu, sizeOf, typeInfo, hi', Instr.fill, newRow]
    congr 2
    exact Array.eq_empty_of_size_eq_zero (by simp)
  · obtain ⟨h8, h9⟩ := he.setO (hp := hp) (w' := w.alloc (.cells #[] e)) (i := i) (v := .slice (some ⟨w.heap.size, 0, none⟩) 0 0) (e := e) (sz := sz) (rows := []) (vs := []) (.of (World.ownsRow_made w #[] 0 (Nat.zero_le _) (Nat.zero_le _) (by simp))) (fun r h => by cases h) ⟨rfl, fun j t v h => by simp at h⟩ (.inr hi) (.inr ⟨fun b hb => by injection hb with hb; subst hb; exact Nat.le_refl _, (Lo.refl w).alloc _⟩)
    rw [hd]
    exact ⟨_, _, hr.put h8 (fun x u h => h.setO h9 (.inl hlw)) (Nat.lt_of_succ_le (Nat.le_of_ble_eq_true hN)) ⟨by simp [Gh.setO], by simp [Gh.setO], ⟨_, _, rfl⟩, fun _ => by simp [Gh.setO]⟩⟩
end
end Go.Proofs.YtloippgblkoemaaGreatDoor.Sim
