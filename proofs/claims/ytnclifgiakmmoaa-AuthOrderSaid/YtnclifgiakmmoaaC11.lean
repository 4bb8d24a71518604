/- Merged by bundles.py: Own, SimR. -/
import Derived.Test.YtnclifgiakmmoaaC1
import Derived.Laws.CopyOwn
import Derived.Lib.AppendZerosOnto
import Derived.Lib.Overlaps
import Derived.Laws.Externs
import Derived.Test.YtnclifgiakmmoaaC10
/- Rows of the call's own, written in place: copy, clear, of elements of any size; what becomes of other blocks. -/
namespace Go.Proofs.Ytnclifgiakmmoaa.Mem
set_option linter.unusedVariables false
set_option linter.unusedSimpArgs false
open Go.RowKit

theorem grown_setRow (w : World) (g : Nat) (cs : Array Value) : w.grownBy (w.setRow g cs) (some g) := ⟨rfl, rfl, rfl, by simp, fun k _ hk => setRow_other w g k cs (fun e => hk (by rw [e]))⟩
section
variable {P : Program} (w : World)
end

end Go.Proofs.Ytnclifgiakmmoaa.Mem

/- A logic of states: rows that are the call's alone: shown, shortened, cleared, counted. -/
namespace Go.Proofs.Ytnclifgiakmmoaa.Sim
set_option linter.unusedVariables false
set_option linter.unusedSimpArgs false
open Go.RowKit Mem
def mv0 (i j : Nat) : A → A
  | .own k n => bif Nat.beq k i then .own j n else .own k n
  | .oe k n sz kk off => bif Nat.beq k i then .oe j n sz kk off else .oe k n sz kk off
  | .sfx k n sz kk => bif Nat.beq k i then .sfx j n sz kk else .sfx k n sz kk
  | x => x
def A.mv (i j : Nat) (x : A) : A := x.mapA (mv0 i j)
theorem get_map2 {l : List (Nat × List A)} (f : A → A) (i : Nat) : get (l.map fun p => (p.1, p.2.map f)) i = (get l i).map (List.map f) := get_mapv _ _ _
theorem allt (x : A) : x.allP (fun _ => true) = true := by
  cases x <;> simp [A.allP, A.all1]
  intro y _; cases y <;> simp [A.all1]
section
variable {C : Ctx} {bx : List (Nat × List A)} {ow : List (Nat × Own)} {w : World} {m : Mm} {g : Gh}
/-- a row under another number, seen from now on -/
theorem EnvG.show_ (he : EnvG C bx ow w m g) {i j : Nat} {o : Own} (hi : get ow i = some o) (hh : hid i = true) (h2 : Nat.ble 2000 j = false) (hj : get ow j = none) :
    ∃ m' g', EnvG C (bx.map fun p => (p.1, p.2.map (A.mv i j))) ((j, o) :: ow.filter (fun p => !(Nat.beq p.1 i))) w m' g' ∧ ∀ x v, AR m g x v → AR m' g' (x.mv i j) v := by
  obtain ⟨vs, hown, hrl, hca, hbk⟩ := he.owns i o hi
  have hij : j ≠ i := fun e => by subst e; rw [hi] at hj; cases hj
  have hmb : ∀ b, (g.go i).ownBlock = some b → ∀ k, m b k = none := fun b hb k => by rw [(hbk b hb).1 k, vis_hid hh]; rfl
  have hext : ∀ b k v, m b k = some v → rowm m (g.go i) (vis j vs) b k = some v := fun b k v hv => by
    unfold rowm
    split
    · rename_i hb; rw [hmb b hb k] at hv; cases hv
    · exact hv
  let g' : Gh := { g with go := fun k => if k = j then g.go i else g.go k, ln := fun k => if k = j then g.ln i else g.ln k, lw := fun k => if k = j then true else if k = i then false else g.lw k }
  have hgo : ∀ k, k ≠ j → g'.go k = g.go k ∧ g'.ln k = g.ln k := fun k hk => ⟨if_neg hk, if_neg hk⟩
  have hgj : g'.go j = g.go i ∧ g'.ln j = g.ln i := ⟨if_pos rfl, if_pos rfl⟩
  have hget : ∀ k, get ((j, o) :: ow.filter (fun p => !(Nat.beq p.1 i))) k = if j = k then some o else if k = i then none else get ow k := fun k => by
    rw [get_cons]
    split
    · rfl
    · refine (get_filter (fun k => !(Nat.beq k i)) ow k).trans ?_
      by_cases hk : k = i
      · subst hk; rw [if_pos rfl, if_neg]; rw [show Nat.beq k k = true from Nat.beq_refl _]; simp
      · rw [if_neg hk, if_pos]
        cases hb : Nat.beq k i with
        | true => exact absurd (Nat.eq_of_beq_eq_true hb) hk
        | false => rfl
  have hlj : ∀ k, g.lw k = true → k ≠ j := fun k hk e => by subst e; rw [he.lw, hj] at hk; cases hk
  have L0 : ∀ x v, AR0 m g x v → AR0 (rowm m (g.go i) (vis j vs)) g' (mv0 i j x) v := by
    intro x v hx
    cases x with
    | t x => exact TR.mono hext hx
    | own k n =>
      obtain ⟨h1, h2, h3, h4⟩ := hx
      show AR0 _ g' (bif Nat.beq k i then .own j n else .own k n) v
      cases hb : Nat.beq k i with
      | true =>
        obtain rfl := Nat.eq_of_beq_eq_true hb
        exact ⟨if_pos rfl, by rw [hgj.2]; exact h2, h3, by rw [hgj.1, hgj.2]; exact h4⟩
      | false =>
        have hk := hlj k h1
        exact ⟨by show (if k = j then true else if k = i then false else g.lw k) = true; rw [if_neg hk, if_neg (Nat.ne_of_beq_eq_false hb)]; exact h1, by rw [(hgo k hk).2]; exact h2, h3, by rw [(hgo k hk).1, (hgo k hk).2]; exact h4⟩
    | oe k n sz kk off =>
      obtain ⟨h1, h2, h3, h4⟩ := hx
      show AR0 _ g' (bif Nat.beq k i then .oe j n sz kk off else .oe k n sz kk off) v
      cases hb : Nat.beq k i with
      | true =>
        obtain rfl := Nat.eq_of_beq_eq_true hb
        exact ⟨if_pos rfl, by rw [hgj.2]; exact h2, h3, by rw [hgj.1, hgj.2]; exact h4⟩
      | false =>
        have hk := hlj k h1
        exact ⟨by show (if k = j then true else if k = i then false else g.lw k) = true; rw [if_neg hk, if_neg (Nat.ne_of_beq_eq_false hb)]; exact h1, by rw [(hgo k hk).2]; exact h2, h3, by rw [(hgo k hk).1, (hgo k hk).2]; exact h4⟩
    | sfx k n sz kk =>
      obtain ⟨h1, h2, h3, h4⟩ := hx
      show AR0 _ g' (bif Nat.beq k i then .sfx j n sz kk else .sfx k n sz kk) v
      cases hb : Nat.beq k i with
      | true =>
        obtain rfl := Nat.eq_of_beq_eq_true hb
        exact ⟨if_pos rfl, by rw [hgj.2]; exact h2, h3, by rw [hgj.1, hgj.2]; exact h4⟩
      | false =>
        have hk := hlj k h1
        exact ⟨by show (if k = j then true else if k = i then false else g.lw k) = true; rw [if_neg hk, if_neg (Nat.ne_of_beq_eq_false hb)]; exact h1, by rw [(hgo k hk).2]; exact h2, h3, by rw [(hgo k hk).1, (hgo k hk).2]; exact h4⟩
    | _ => exact hx
  have L : ∀ x v, AR m g x v → AR (rowm m (g.go i) (vis j vs)) g' (x.mv i j) v := fun x v hx => hx.mp _ (fun _ => true) (fun x v _ => L0 x v) (allt x)
  have hbx : ∀ k cs, get bx k = some cs → (g.go i).ownBlock ≠ some (g.gb k) := fun k cs hk e => (hbk _ e).2.1 k cs hk rfl
  refine ⟨rowm m (g.go i) (vis j vs), g', {
    lo := he.lo
    gm := he.gm
    sub := fun b k v hv => by
      unfold rowm at hv
      split at hv
      · rename_i hb
        have := hown.cells hb k v (vis_get hv)
        rwa [addr_add, Nat.zero_add] at this
      · exact he.sub b k v hv
    gt := fun b k v ht => hext b k v (he.gt b k v ht)
    ext := ⟨fun b k v hv => hext b k v (he.ext.keep b k v hv), fun b k hb hg => by
      unfold rowm
      split
      · rename_i hbb
        rcases (hbk b hbb).2.2 with h | h
        · omega
        · rw [hg] at h; cases h
      · exact he.ext.old b k hb hg⟩
    lb := fun k => by rw [get_map2]; rw [show (Option.map (List.map (A.mv i j)) (get bx k)).isSome = (get bx k).isSome by cases get bx k <;> rfl]; exact he.lb k
    lw := fun k => by
      rw [hget]
      show (if k = j then true else if k = i then false else g.lw k) = _
      by_cases hk : k = j
      · subst hk; rw [if_pos rfl, if_pos rfl]; rfl
      · have hk' : ¬ j = k := fun e => hk e.symm
        rw [if_neg hk, if_neg hk']
        split
        · rfl
        · exact he.lw k
    ln := fun k o' hk => by
      rw [hget] at hk
      by_cases hkj : k = j
      · subst hkj; rw [if_pos rfl] at hk; injection hk with hk; subst hk; rw [hgj.2]; exact he.ln i _ hi
      · have hkj' : ¬ j = k := fun e => hkj e.symm
        rw [if_neg hkj'] at hk
        split at hk
        · cases hk
        · rw [(hgo k hkj).2]; exact he.ln k o' hk
    boxes := fun k cs hk => by
      rw [get_map2] at hk
      cases hc : get bx k with
      | none => rw [hc] at hk; cases hk
      | some c0 =>
        rw [hc] at hk; injection hk with hk; subst hk
        obtain ⟨us, ty, h1, h2, h3, h4, h5⟩ := he.boxes k c0 hc
        refine ⟨us, ty, h1, by simpa using h2, fun q x u hx hu => ?_, h4, fun o => ?_⟩
        · rw [List.getElem?_map] at hx
          cases hq : c0[q]? with
          | none => rw [hq] at hx; cases hx
          | some y => rw [hq] at hx; injection hx with hx; subst hx; exact ⟨L y u (h3 q y u hq hu).1, (h3 q y u hq hu).2⟩
        · show rowm m (g.go i) (vis j vs) (g.gb k) o = none
          unfold rowm
          rw [if_neg (hbx k c0 hc)]; exact h5 o
    inj := fun p q cp cq hp hq e => by
      rw [get_map2] at hp hq
      cases hc : get bx p with
      | none => rw [hc] at hp; cases hp
      | some c0 =>
        cases hc2 : get bx q with
        | none => rw [hc2] at hq; cases hq
        | some c2 => exact he.inj p q c0 c2 hc hc2 e
    owns := fun k o' hk => by
      have hbxx : ∀ b : Nat, ∀ q cs, get (bx.map fun p => (p.1, p.2.map (A.mv i j))) q = some cs → ∃ c0, get bx q = some c0 := fun b q cs hq => by
        rw [get_map2] at hq
        cases hc : get bx q with
        | none => rw [hc] at hq; cases hq
        | some c0 => exact ⟨c0, rfl⟩
      rw [hget] at hk
      by_cases hkj : k = j
      · subst hkj
        rw [if_pos rfl] at hk; injection hk with hk; subst hk
        rw [hgj.1]
        refine ⟨vs, hown, hrl, hca.mono hext, fun b hb => ⟨fun q => ?_, fun q cs hq => ?_, (hbk b hb).2.2⟩⟩
        · unfold rowm; rw [if_pos hb]
        · obtain ⟨c0, h1⟩ := hbxx b q cs hq
          exact (hbk b hb).2.1 q c0 h1
      · have hkj' : ¬ j = k := fun e => hkj e.symm
        rw [if_neg hkj'] at hk
        by_cases hki : k = i
        · rw [if_pos hki] at hk; cases hk
        · rw [if_neg hki] at hk
          rw [(hgo k hkj).1]
          obtain ⟨us, h1, h2, h3, h4⟩ := he.owns k o' hk
          refine ⟨us, h1, h2, h3.mono hext, fun b hb => ⟨fun q => ?_, fun q cs hq => ?_, (h4 b hb).2.2⟩⟩
          · unfold rowm
            rw [if_neg (fun e => he.apart i k o o' hi hk (fun e => hki e.symm) b e hb)]; exact (h4 b hb).1 q
          · obtain ⟨c0, h5⟩ := hbxx b q cs hq
            exact (h4 b hb).2.1 q c0 h5
    apart := fun p q op oq hp hq hpq b hb => by
      rw [hget] at hp hq
      by_cases hpj : p = j
      · subst hpj
        rw [hgj.1] at hb
        rw [if_neg hpq] at hq
        split at hq
        · cases hq
        · rename_i hqi
          rw [(hgo q (fun e => hpq e.symm)).1]
          exact he.apart i q o oq hi hq (fun e => hqi e.symm) b hb
      · rw [if_neg (fun e => hpj e.symm)] at hp
        split at hp
        · cases hp
        · rename_i hpi
          rw [(hgo p hpj).1] at hb
          by_cases hqj : q = j
          · subst hqj; rw [hgj.1]; exact he.apart p i op o hp hi hpi b hb
          · rw [if_neg (fun e => hqj e.symm)] at hq
            split at hq
            · cases hq
            · rw [(hgo q hqj).1]; exact he.apart p q op oq hp hq hpq b hb
    pin := fun k o' hk hk2 => by
      rw [hget] at hk
      by_cases hkj : k = j
      · subst hkj; rw [h2] at hk2; cases hk2
      · have hkj' : ¬ j = k := fun e => hkj e.symm
        rw [if_neg hkj'] at hk
        split at hk
        · cases hk
        · rw [(hgo k hkj).1]; exact he.pin k o' hk hk2
    pinb := fun k cs hk hk2 => by
      rw [get_map2] at hk
      cases hc : get bx k with
      | none => rw [hc] at hk; cases hk
      | some c0 => exact he.pinb k c0 hc hk2 }, L⟩
end
theorem weak_show {N : Nat} {tm : List (Nat × A)} {bx : List (Nat × List A)} {ow : List (Nat × Own)} (i j : Nat) {o : Own} (hi : get ow i = some o) (hh : hid i = true) (h2 : Nat.ble 2000 j = false) (hj : get ow j = none) :
    Weak N ⟨tm, bx, ow⟩ ⟨tm.map fun p => (p.1, p.2.mv i j), bx.map fun p => (p.1, p.2.map (A.mv i j)), (j, o) :: ow.filter (fun p => !(Nat.beq p.1 i))⟩ := .mk fun C a w ⟨m, g, hr⟩ => by
  obtain ⟨m', g', h3, h4⟩ := hr.env.show_ hi hh h2 hj
  refine ⟨m', g', h3, hr.size, hr.defers, fun s x hx => ?_⟩
  rw [show get (tm.map fun p => (p.1, p.2.mv i j)) s = _ from get_mapv _ _ _] at hx
  cases h5 : get tm s with
  | none => rw [h5] at hx; cases hx
  | some y => rw [h5] at hx; injection hx with hx; subst hx; exact h4 y _ (hr.tmps s y h5)

section
variable {P : Program} {N : Nat} {Q : Exit → St → Prop} {ops : Array Oper} {rest : List Oper} {o : Oper} {tm : List (Nat × A)} {bx : List (Nat × List A)} {ow : List (Nat × Own)} {ρ : Operand → Option A}
theorem po_len_own {x : Operand} {i n : Nat} {t : TypeId} (ho : o.op = .call { callee := .builtin .len, args := #[x], argTypes := #[t] }) (hx : ρ x = some (.own i n)) {sz : Nat} (hT : sliceSz P t = some sz) : PureOp P bx ow o ρ (.t (.v (.int .i64 (n : Int)))) := pure_run fun C m g w a he h => by
  obtain ⟨_, _, ⟨A, c, h1⟩, _⟩ := h x (by simp [ho, Op.operands, Call.operands]) _ hx
  obtain ⟨e, ii, hu, _⟩ := sliceSz_spec hT
  refine ⟨.int .i64 n, ?_, .v _⟩
  simp [execOp, ho, resolve, invoke, builtin, h1, Builtin.len_, Builtin.lenOf, run_underlying hu, goInt]
end
end Go.Proofs.Ytnclifgiakmmoaa.Sim
