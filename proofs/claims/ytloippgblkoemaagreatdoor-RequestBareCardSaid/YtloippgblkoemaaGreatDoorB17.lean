/- Merged by bundles.py: SimRen, SimRq1, SimElt, SimRq2. -/
import Derived.Test.YtloippgblkoemaaGreatDoorB9
import Derived.Test.YtloippgblkoemaaGreatDoorB16
import Derived.Test.YtloippgblkoemaaGreatDoorB13
/- A logic of states: a row gets another number: a lent one becomes the call's own, a hidden one may be seen from then on. -/
namespace Go.Proofs.YtloippgblkoemaaGreatDoor.Sim
set_option linter.unusedVariables false
set_option linter.unusedSimpArgs false
open Go.RowKit Mem

def rn (i i' j : Nat) : Nat := bif Nat.beq j i then i' else j
theorem rn_same (i i' : Nat) : rn i i' i = i' := by unfold rn; rw [Nat.beq_refl]; rfl
theorem rn_other {i i' j : Nat} (h : j ≠ i) : rn i i' j = j := by
  unfold rn
  cases e : Nat.beq j i with
  | true => exact absurd (Nat.eq_of_beq_eq_true e) h
  | false => rfl
def renO (i i' : Nat) (ow : List (Nat × Own)) : List (Nat × Own) := ow.map fun p => (rn i i' p.1, p.2)
def renX (i i' : Nat) (bx : List (Nat × List A)) : List (Nat × List A) := bx.map fun p => (p.1, p.2.map (A.ren (fun k => k) (rn i i')))
def renT (i i' : Nat) (tm : List (Nat × A)) : List (Nat × A) := tm.map fun p => (p.1, A.ren (fun k => k) (rn i i') p.2)
theorem get_renO {i i' : Nat} {ow : List (Nat × Own)} (hn : get ow i' = none) (hne : i ≠ i') (j : Nat) : get (renO i i' ow) j = if j = i' then get ow i else if j = i then none else get ow j := by
  induction ow with
  | nil => simp [renO, get]
  | cons p r ih =>
    obtain ⟨k, x⟩ := p
    rw [get_cons] at hn
    split at hn
    · cases hn
    rename_i hk
    have ih := ih hn
    show get ((rn i i' k, x) :: renO i i' r) j = _
    rw [get_cons, get_cons, get_cons, ih]
    by_cases hki : k = i
    · subst hki
      rw [rn_same]
      by_cases hj : i' = j
      · subst hj; simp
      · have hj' : ¬ j = i' := fun e => hj e.symm
        by_cases hjk : j = k
        · subst hjk; simp [hj, hj']
        · have hkj : ¬ k = j := fun e => hjk e.symm
          simp [hj, hj', hjk, hkj]
    · rw [rn_other hki]
      by_cases hkj : k = j
      · subst hkj; simp [hk, hki]
      · simp [hkj, hki]
theorem get_renX {i i' : Nat} {bx : List (Nat × List A)} (j : Nat) : get (renX i i' bx) j = (get bx j).map fun cs => cs.map (A.ren (fun k => k) (rn i i')) := by
  induction bx with
  | nil => rfl
  | cons p r ih =>
    obtain ⟨k, x⟩ := p
    show get ((k, _) :: renX i i' r) j = _
    rw [get_cons, get_cons, ih]
    by_cases hkj : k = j
    · rw [if_pos hkj, if_pos hkj]; rfl
    · rw [if_neg hkj, if_neg hkj]
theorem get_renT {i i' : Nat} {tm : List (Nat × A)} (j : Nat) : get (renT i i' tm) j = (get tm j).map (A.ren (fun k => k) (rn i i')) := by
  induction tm with
  | nil => rfl
  | cons p r ih =>
    obtain ⟨k, x⟩ := p
    show get ((k, _) :: renT i i' r) j = _
    rw [get_cons, get_cons, ih]
    by_cases hkj : k = j
    · rw [if_pos hkj, if_pos hkj]; rfl
    · rw [if_neg hkj, if_neg hkj]
theorem EnvG.ren' {C : Ctx} {bx : List (Nat × List A)} {ow : List (Nat × Own)} {w : World} {m : Mm} {g : Gh} (he : EnvG C bx ow w m g) {i i' : Nat} {o : Own} (hi : get ow i = some o) (hh : hid i = true ∨ hid i' = false) (hn : get ow i' = none) (h2 : Nat.ble 2000 i' = false) :
    ∃ m' g', EnvG C (renX i i' bx) (renO i i' ow) w m' g' ∧ ∀ x v, AR m g x v → AR m' g' (x.ren (fun k => k) (rn i i')) v := by
  have hne : i ≠ i' := fun e => by rw [e, hn] at hi; cases hi
  obtain ⟨vs, hrow, hsz, hcells, hblk⟩ := he.owns i o hi
  have hO := fun j => get_renO hn hne j
  have hX := fun j => get_renX (i := i) (i' := i') (bx := bx) j
  have hlwi : g.lw i' = false := by rw [he.lw, hn]; rfl
  have hmm : ∀ b q u, m b q = some u → rowm m (g.go i) (vis i' vs) b q = some u := fun b q u hu => by
    unfold rowm
    split
    · rename_i hb
      rw [(hblk b hb).1 q] at hu
      rcases hh with hh | hh
      · rw [vis_hid hh] at hu; simp at hu
      · rw [vis_see hh]; exact vis_get hu
    · exact hu
  have hgoO : ∀ j, j ≠ i' → (if j = i' then g.go i else g.go j) = g.go j := fun j h => if_neg h
  have hlw' : ∀ j, g.lw j = true → j ≠ i' := fun j hj e => by rw [e, hlwi] at hj; cases hj
  have hget : ∀ j, g.lw j = true → (get (renO i i' ow) (rn i i' j)).isSome = true := fun j hj => by
    rw [hO]
    by_cases hji : j = i
    · subst hji; rw [rn_same, if_pos rfl, hi]; rfl
    · rw [rn_other hji, if_neg (hlw' j hj), if_neg hji, ← he.lw j]; exact hj
  let g' : Gh := { g with go := fun j => if j = i' then g.go i else g.go j, ln := fun j => if j = i' then g.ln i else g.ln j, lw := fun j => (get (renO i i' ow) j).isSome }
  have hgo : ∀ j, g.lw j = true → g'.go (rn i i' j) = g.go j := fun j hj => by
    by_cases hji : j = i
    · subst hji; rw [rn_same]; exact if_pos rfl
    · rw [rn_other hji]; exact if_neg (hlw' j hj)
  have hln : ∀ j, g.lw j = true → g'.ln (rn i i' j) = g.ln j := fun j hj => by
    by_cases hji : j = i
    · subst hji; rw [rn_same]; exact if_pos rfl
    · rw [rn_other hji]; exact if_neg (hlw' j hj)
  have hAR : ∀ x v, AR m g x v → AR (rowm m (g.go i) (vis i' vs)) g' (x.ren (fun k => k) (rn i i')) v := fun x v hx => by
    refine AR.mp (ren0 (fun k => k) (rn i i')) (fun _ => true) (fun x v _ hx => ?_) (by
      cases x <;> simp [A.allP, A.all1]
      intro y _; cases y <;> simp [A.all1]) hx
    cases x with
    | t x => exact TR.mono hmm hx
    | bp k off => exact hx
    | sb k n sz e => exact hx
    | own j n =>
      obtain ⟨h1, h3, h4, h5⟩ := hx
      exact ⟨hget j h1, by rw [hln j h1]; exact h3, h4, fun e => by rw [hgo j h1]; exact h5 (by rw [hln j h1] at e; exact e)⟩
    | emp => exact hx
    | oe j n sz k off =>
      obtain ⟨h1, h3, h4, h5⟩ := hx
      exact ⟨hget j h1, by rw [hln j h1]; exact h3, h4, fun e => by rw [hgo j h1]; exact h5 (by rw [hln j h1] at e; exact e)⟩
    | any => trivial
    | sfx j n sz k =>
      obtain ⟨h1, h3, h4, h5⟩ := hx
      exact ⟨hget j h1, by rw [hln j h1]; exact h3, h4, fun e => by rw [hgo j h1]; exact h5 (by rw [hln j h1] at e; exact e)⟩
    | ag cs => exact hx
    | tu cs => exact hx
    | cl f cs => exact hx
  have hown : ∀ j oj, get (renO i i' ow) j = some oj → (j = i' ∧ oj = o) ∨ (j ≠ i' ∧ j ≠ i ∧ get ow j = some oj) := fun j oj hj => by
    rw [hO] at hj
    by_cases h1 : j = i'
    · rw [if_pos h1, hi] at hj; injection hj with hj; exact .inl ⟨h1, hj.symm⟩
    · rw [if_neg h1] at hj
      by_cases h3 : j = i
      · rw [if_pos h3] at hj; cases hj
      · rw [if_neg h3] at hj; exact .inr ⟨h1, h3, hj⟩
  have hgo1 : g'.go i' = g.go i := if_pos rfl
  have hgo2 : ∀ j, j ≠ i' → g'.go j = g.go j := fun j h => if_neg h
  refine ⟨rowm m (g.go i) (vis i' vs), g', {
    lo := he.lo
    gm := he.gm
    sub := fun b q u hu => by
      unfold rowm at hu
      split at hu
      · rename_i hb
        have := hrow.cells hb q u (vis_get hu)
        rwa [addr_add, Nat.zero_add] at this
      · exact he.sub b q u hu
    gt := fun b q u ht => hmm b q u (he.gt b q u ht)
    ext := ⟨fun b q u hu => hmm b q u (he.ext.keep b q u hu), fun b q hb hgb => by
      unfold rowm
      by_cases hvv : (g.go i).ownBlock = some b
      · rcases (hblk b hvv).2.2 with h1 | h1
        · omega
        · rw [hgb] at h1; cases h1
      · rw [if_neg hvv]; exact he.ext.old b q hb hgb⟩
    lb := fun j => by
      rw [hX, Option.isSome_map]; exact he.lb j
    lw := fun j => rfl
    ln := fun j oj hj => by
      rcases hown j oj hj with ⟨h1, h3⟩ | ⟨h1, h3, h4⟩
      · subst h1 h3; show (if j = j then g.ln i else g.ln j) = _; rw [if_pos rfl]; exact he.ln i _ hi
      · show (if j = i' then g.ln i else g.ln j) = _; rw [if_neg h1]; exact he.ln j _ h4
    boxes := fun j cs hj => by
      rw [hX] at hj
      cases hb : get bx j with
      | none => rw [hb] at hj; cases hj
      | some cs0 =>
        rw [hb] at hj
        have hj : cs0.map (A.ren (fun k => k) (rn i i')) = cs := by simpa using hj
        subst hj
        obtain ⟨vs2, ty, h1, h3, h4, h5, h6⟩ := he.boxes j cs0 hb
        refine ⟨vs2, ty, h1, by simpa using h3, fun q x u hx hu => ?_, h5, fun q => ?_⟩
        · rw [List.getElem?_map] at hx
          cases hc : cs0[q]? with
          | none => rw [hc] at hx; cases hx
          | some y =>
            rw [hc] at hx
            have hx : A.ren (fun k => k) (rn i i') y = x := by simpa using hx
            subst hx
            exact ⟨hAR _ _ (h4 q y u hc hu).1, (h4 q y u hc hu).2⟩
        · show rowm m (g.go i) (vis i' vs) (g.gb j) q = none
          unfold rowm
          rw [if_neg (fun e => (hblk _ e).2.1 j cs0 hb rfl)]
          exact h6 q
    inj := fun j k cj ck hj hk e => by
      rw [hX] at hj hk
      cases hb : get bx j with
      | none => rw [hb] at hj; cases hj
      | some c1 =>
        cases hb2 : get bx k with
        | none => rw [hb2] at hk; cases hk
        | some c2 => exact he.inj j k c1 c2 hb hb2 e
    owns := fun j oj hj => by
      rcases hown j oj hj with ⟨h1, h3⟩ | ⟨h1, h3, h4⟩
      · subst h1 h3
        rw [hgo1]
        refine ⟨vs, hrow, hsz, hcells.mono hmm, fun b hb => ⟨fun k => ?_, fun q cs hq => ?_, (hblk b hb).2.2⟩⟩
        · unfold rowm; rw [if_pos hb]
        · rw [hX] at hq
          cases hb2 : get bx q with
          | none => rw [hb2] at hq; cases hq
          | some c2 => exact (hblk b hb).2.1 q c2 hb2
      · rw [hgo2 j h1]
        obtain ⟨vs2, k1, k2, k3, k4⟩ := he.owns j oj h4
        refine ⟨vs2, k1, k2, k3.mono hmm, fun b hb => ⟨fun k => ?_, fun q cs hq => ?_, (k4 b hb).2.2⟩⟩
        · unfold rowm
          rw [if_neg (fun e => he.apart i j o oj hi h4 (fun e => h3 e.symm) b e hb)]
          exact (k4 b hb).1 k
        · rw [hX] at hq
          cases hb2 : get bx q with
          | none => rw [hb2] at hq; cases hq
          | some c2 => exact (k4 b hb).2.1 q c2 hb2
    apart := fun j k oj ok hj hk hjk b hb => by
      rcases hown j oj hj with ⟨h1, h3⟩ | ⟨h1, h3, h4⟩
      · rcases hown k ok hk with ⟨k1, k3⟩ | ⟨k1, k3, k4⟩
        · exact absurd (h1.trans k1.symm) hjk
        · subst h1; rw [hgo1] at hb; rw [hgo2 k k1]
          exact he.apart i k o ok hi k4 (fun e => k3 e.symm) b hb
      · rw [hgo2 j h1] at hb
        rcases hown k ok hk with ⟨k1, k3⟩ | ⟨k1, k3, k4⟩
        · subst k1; rw [hgo1]
          exact he.apart j i oj o h4 hi h3 b hb
        · rw [hgo2 k k1]
          exact he.apart j k oj ok h4 k4 hjk b hb
    pin := fun j oj hj hj2 => by
      rcases hown j oj hj with ⟨h1, h3⟩ | ⟨h1, h3, h4⟩
      · rw [h1, h2] at hj2; cases hj2
      · rw [hgo2 j h1]; exact he.pin j oj h4 hj2
    pinb := fun j cs hj hj2 => by
      rw [hX] at hj
      cases hb : get bx j with
      | none => rw [hb] at hj; cases hj
      | some c1 => exact he.pinb j c1 hb hj2 }, hAR⟩
theorem EnvG.ren {C : Ctx} {bx : List (Nat × List A)} {ow : List (Nat × Own)} {w : World} {m : Mm} {g : Gh} (he : EnvG C bx ow w m g) {i i' : Nat} {o : Own} (hi : get ow i = some o) (hh : hid i = true) (hn : get ow i' = none) (h2 : Nat.ble 2000 i' = false) :
    ∃ m' g', EnvG C (renX i i' bx) (renO i i' ow) w m' g' ∧ ∀ x v, AR m g x v → AR m' g' (x.ren (fun k => k) (rn i i')) v := he.ren' hi (.inl hh) hn h2
theorem weak_ren {N : Nat} {tm tm' : List (Nat × A)} {bx bx' : List (Nat × List A)} {ow ow' : List (Nat × Own)} (i i' : Nat) {o : Own} (hi : get ow i = some o) (hh : hid i = true) (hn : get ow i' = none) (h2 : Nat.ble 2000 i' = false)
    (h3 : renT i i' tm = tm') (h4 : renX i i' bx = bx') (h5 : renO i i' ow = ow') : Weak N ⟨tm, bx, ow⟩ ⟨tm', bx', ow'⟩ := .mk fun C a w ⟨m, g, hr⟩ => by
  subst h3 h4 h5
  obtain ⟨m', g', h6, h7⟩ := hr.env.ren hi hh hn h2
  refine ⟨m', g', h6, hr.size, hr.defers, fun s x hx => ?_⟩
  rw [get_renT] at hx
  cases ht : get tm s with
  | none => rw [ht] at hx; cases hx
  | some y =>
    rw [ht] at hx
    have hx : A.ren (fun k => k) (rn i i') y = x := by simpa using hx
    subst hx
    exact h7 _ _ (hr.tmps s y ht)
theorem weak_vw_bx {N : Nat} {tm : List (Nat × A)} {bx : List (Nat × List A)} {ow : List (Nat × Own)} (i j : Nat) {cs : List A} {y : A} {t : T} (hb : get bx i = some cs) (hs : cs[j]? = some y) (h : Vw ow y t) : Weak N ⟨tm, bx, ow⟩ ⟨tm, (i, cs.set j (.t t)) :: bx, ow⟩ := .mk fun C a w ⟨m, g, hr⟩ => by
  have he := hr.env
  obtain ⟨vs, ty, h3, h4, h5, h6, h7⟩ := he.boxes i cs hb
  have hjl : j < cs.length := (List.getElem?_eq_some_iff.1 hs).1
  have hcells : ∀ (k : Nat) x u, (cs.set j (.t t))[k]? = some x → vs[k]? = some u → AR m g x u ∧ u.oneCell' = true := by
    refine fun k x u hx hu => ?_
    rw [List.getElem?_set] at hx
    by_cases hjk : j = k
    · subst hjk
      rw [if_pos rfl, if_pos hjl] at hx
      injection hx with hx; subst hx
      obtain ⟨h8, h9⟩ := h5 j _ u hs (by simpa using hu)
      exact ⟨h.ok he h8, h9⟩
    · rw [if_neg hjk] at hx
      exact h5 k x u hx (by simpa using hu)
  exact ⟨m, g, he.setAtW hb (vs' := vs) ⟨rfl, rfl, rfl, Nat.le_refl _, fun _ _ _ => rfl⟩ h3 (by simpa using h4) hcells, hr.size, hr.defers, hr.tmps⟩
theorem swp_up {P : Program} {N : Nat} {c : Code} {Q : Exit → St → Prop} {st : St} (h : SWp P N c (Upto N Q) st) : SWp P N c Q st := .mk fun C a w hr => Code.wp_mono (fun _ _ _ h => good_upto h) (h.go C a w hr)
theorem up_to {N : Nat} {Q : Exit → St → Prop} {e : Exit} {st st' : St} (hw : Weak N st st') (h : Q e st') : Upto N Q e st := ⟨st', hw, h⟩
end Go.Proofs.YtloippgblkoemaaGreatDoor.Sim

/- The reader of messages: its small steps, walked. -/
namespace Go.Proofs.YtloippgblkoemaaGreatDoor.Rq
set_option linter.unusedVariables false
set_option linter.unusedSimpArgs false
open Go.RowKit Mem Sim Opn Hd
def rawT (r : PRaw) : List T := [.v (.string r.start), headsT r.heads, .sl 1 (r.body.map byteT)]
def rdA (r : PRd) : List A := [.t (.v (.int .i64 r.phase)), .own 1001 (r.line.map byteT).length, .t (.v (.string r.raw.start)), .t (headsT r.raw.heads), .own 1002 (r.raw.body.map byteT).length, .t (.v (.int .i64 r.left)), .t (.v (.int .i64 r.err)), .own 1003 (r.out.map rawT).length]
def rdO (r : PRd) : List (Nat × Own) := [(1001, ⟨5, 1, r.line.map byteT⟩), (1002, ⟨5, 1, r.raw.body.map byteT⟩), (1003, ⟨25, 3, r.out.map rawT⟩)]
set_option maxRecDepth 100000 in
theorem fault_ (r : PRd) (e : Int) : LCalls Tryz.prog 42 [.bp 2000 0, .t (.v (.int .i64 e))] [(2000, rdA r)] (rdO r) (.tu []) [(2000, rdA (faultP r e))] (rdO (faultP r e)) := by
  refine lcalls_of Tryz.func42 rfl rfl Tryz.ntmps42 rfl ?_
  repeat' (first | (refine rg 0 ?_; refine oMv ?_; refine oMv ?_; refine sp (po_nilcheck rfl rfl) ?_; refine oFb ?_; refine oFb ?_; refine oS ?_; refine oN ?_) | refine gc ?_ | refine ct ?_ | refine cf ?_ | refine sc ?_ ?_ <;> intro hc | refine retl (by first | exact .inr rfl | exact .inl rfl) rfl .nil ?_ rfl (.cons rfl (by rfl) rfl .nil) (.cons rfl (by rfl) (.cons rfl (by rfl) (.cons rfl (by rfl) .nil))))
  rfl
set_option maxRecDepth 100000 in
theorem start_ (r : PRd) (s : ByteArray) : LCalls Tryz.prog 98 [.bp 2000 0, .t (.v (.string s))] [(2000, rdA r)] (rdO r) (.tu []) [(2000, rdA (startP r s))] (rdO (startP r s)) := by
  refine lcalls_of Tryz.func98 rfl rfl Tryz.ntmps98 rfl ?_
  repeat' (first | (refine rg 0 ?_; refine oMv ?_; refine oMv ?_; refine oMv ?_; refine sp (po_nilcheck rfl rfl) ?_; refine oFb ?_; refine oFb ?_; refine oFb ?_; refine oS ?_; refine sp (po_nilcheck rfl rfl) ?_; refine oFb ?_; refine oFb ?_; refine oS ?_; refine oN ?_) | refine gc ?_ | refine ct ?_ | refine cf ?_ | refine sc ?_ ?_ <;> intro hc | refine retl (by first | exact .inr rfl | exact .inl rfl) rfl .nil ?_ rfl (.cons rfl (by rfl) rfl .nil) (.cons rfl (by rfl) (.cons rfl (by rfl) (.cons rfl (by rfl) .nil))))
  rfl
set_option maxRecDepth 100000 in
set_option maxHeartbeats 1000000 in
theorem whole_ (r : PRd) (ho : r.out.length ≤ 1000000) : LCalls Tryz.prog 44 [.bp 2000 0] [(2000, rdA r)] (rdO r) (.tu []) [(2000, rdA (wholeP r))] (rdO (wholeP r)) := by
  have hmo : (r.out.map rawT).length = r.out.length := List.length_map _
  have hb : ((r.out.map rawT).length + 1) * 64 ≤ 140737488355328 := by omega
  have hm : (r.out.map rawT).length + 1 ≤ maxLen := by unfold maxLen; omega
  refine lcalls_of Tryz.func44 rfl rfl Tryz.ntmps44 rfl ?_
  have hA : rdA (wholeP r) = [.t (.v (.int .i64 0)), .own 1001 0, .t (.v (.string ⟨#[]⟩)), .t (.sl 2 []), .own 1002 0, .t (.v (.int .i64 0)), .t (.v (.int .i64 0)), .own 1003 (r.out.map rawT ++ [rawT r.raw]).length] := by
    unfold rdA wholeP; rw [List.map_append]; rfl
  have hO : rdO (wholeP r) = [(1001, ⟨5, 1, []⟩), (1002, ⟨5, 1, []⟩), (1003, ⟨25, 3, r.out.map rawT ++ [rawT r.raw]⟩)] := by
    unfold rdO wholeP; rw [List.map_append]; rfl
  rw [hA, hO]
  refine swp_up ?_
  refine swp_weak (weak_ren 1001 1004 rfl rfl rfl rfl rfl rfl rfl) ?_
  refine swp_weak (weak_ren 1002 2 rfl rfl rfl rfl rfl rfl rfl) ?_
  repeat' (first | refine gc ?_ | refine up_to (((weak_own0_bx 5 1 (i := 2000) (j := 1) (q := 1001) rfl rfl rfl).trans (weak_own0_bx 5 1 (i := 2000) (j := 4) (q := 1002) rfl rfl rfl)).trans (weak_vw_bx 2000 3 rfl rfl (.nil 2))) ?_ | ((refine swp_any (id := 0) [[], [], [], [], [], [], [], [], [], [], [], [1003], [], [], [2000]] [[1003], [], [], [], [], [], [], [], [], [], [], [], [], [], []] mixed (by kernel_rfl) ?_) <;> refine yp (fun _ _ => po_move rfl rfl) ?_ <;> refine yp (fun _ _ => po_move rfl rfl) ?_ <;> refine yp (fun _ _ => po_nilcheck rfl rfl) ?_ <;> refine yp (fun _ _ => po_field_bx rfl rfl (tyF rfl)) ?_ <;> refine yp (fun _ _ => po_load_bx rfl rfl (tyT rfl) rfl rfl) ?_ <;> refine yp (fun _ _ => po_move rfl rfl) ?_ <;> refine yp (fun _ _ => po_nilcheck rfl rfl) ?_ <;> refine yp (fun _ _ => po_field_bx rfl rfl (tyF rfl)) ?_ <;> refine yp (fun _ _ => po_field_bx rfl rfl (tyF rfl)) ?_ <;> (refine yp (fun _ _ => po_load_bx_agg rfl rfl (tyT rfl) rfl (vc (vc (vc .nil))) rfl) ?_) <;> refine yp (fun _ _ => po_buildSlice rfl (tyE rfl) (dc (.nil _)) rfl rfl rfl) ?_ <;> refine sany_eff [] [(1003, _)] (.free rfl rfl) rfl rfl (fun _ _ _ _ => e_append rfl rfl rfl (by rfl) rfl (by exact .t _) (tyE rfl) (by assumption) (by assumption)) ?_ <;> refine yp (fun _ _ => po_nilcheck rfl rfl) ?_ <;> refine yp (fun _ _ => po_field_bx rfl rfl (tyF rfl)) ?_ <;> refine sany_eff [(2000, _)] [] (.free rfl rfl) rfl rfl (fun _ _ _ _ => e_store rfl rfl rfl rfl rfl rfl (tyT rfl) rfl rfl) ?_ <;> refine sany_nil ?_) | (refine rg 1 ?_; refine oMv ?_; refine sp (po_buildS str49 rfl .nil rfl) ?_; refine sp (po_nilcheck rfl rfl) ?_; refine oFb ?_; refine oS ?_; refine oN ?_) | refine ct ?_ | refine cf ?_ | refine sc ?_ ?_ <;> intro hc | refine retl (by first | exact .inr rfl | exact .inl rfl) rfl .nil ?_ rfl (.cons rfl (by rfl) rfl .nil) (.cons rfl (by rfl) (.cons rfl (by rfl) (.cons rfl (by rfl) .nil))))
  rfl
end Go.Proofs.YtloippgblkoemaaGreatDoor.Rq

/- A logic of states: an array value's element. -/
namespace Go.Proofs.YtloippgblkoemaaGreatDoor.Sim
set_option linter.unusedVariables false
set_option linter.unusedSimpArgs false
open Go.RowKit Mem
def elt1 (P : Program) (t : TypeId) : Option (Nat × Nat) := match P.underlying t with
  | some (.array n e) => match tyI P e with
    | some (false, sz) => some (n, sz)
    | _ => none
  | _ => none
theorem elt1_spec {P : Program} {t n sz : Nat} (h : elt1 P t = some (n, sz)) : ∃ e, P.underlying t = some (.array n e) ∧ tyI P e = some (false, sz) := by
  unfold elt1 at h
  split at h
  · rename_i n' e hu
    split at h
    · rename_i k ht; injection h with h; injection h with h1 h2; subst h1 h2; exact ⟨e, hu, ht⟩
    · cases h
  · cases h
section
variable {P : Program} {bx : List (Nat × List A)} {ow : List (Nat × Own)} {o : Oper} {ρ : Operand → Option A} {r : A}
theorem po_elt {ty n sz k : Nat} {x ix : Operand} {cs : List T} {t : T} {j : Int} {ik : IntKind} (ho : o.op = .index ty x ix) (hx : ρ x = some (.t (.agg cs))) (hi : ρ ix = some (.t (.v (.int ik j)))) (hT : elt1 P ty = some (n, sz)) (hj : j = (k : Int)) (hk : k < n) (ht : cs[k * sz]? = some t) : PureOp P bx ow o ρ (.t t) := pure_run fun C m g w a he h => by
  have h1 : TR m (.agg cs) (a.eval x) := h x (by simp [ho, Op.operands]) _ hx
  have h2 := tr_v (h ix (by simp [ho, Op.operands]) _ hi)
  obtain ⟨e, hu, hT'⟩ := elt1_spec hT
  obtain ⟨d, i, hu', hie, hd, hs⟩ := tyI_spec hT'
  generalize hv : a.eval x = v at h1
  subst hj
  have hlt : (k : Int) < (n : Int) := by omega
  cases h1 with
  | agg _ vs hl h4 h3 =>
    have hlt2 : k * sz < vs.size := by rw [hl]; exact (List.getElem?_eq_some_iff.1 ht).1
    have hagg : (isAgg e).run P w = .ok false w := by
      unfold isAgg
      rw [Sem.run_bind, run_underlying hu' w]
      cases d <;> simp_all
    refine ⟨vs[k * sz], ?_, h3 (k * sz) t _ ht (by simp [hlt2])⟩
    simp [execOp, ho, hv, h2, Instr.index, asIntOf, run_underlying hu, sizeOf, typeInfo, hie, hs, part, hagg, hlt, hk, hlt2]
end
end Go.Proofs.YtloippgblkoemaaGreatDoor.Sim

/- The reader of messages: lines, walked. -/
namespace Go.Proofs.YtloippgblkoemaaGreatDoor.Rq
set_option linter.unusedVariables false
set_option linter.unusedSimpArgs false
open Go.RowKit Mem Sim Opn Hd Str
set_option maxRecDepth 100000 in
set_option maxHeartbeats 4000000 in
theorem number_ (s : ByteArray) (hs : s.size ≤ maxLen) : PCalls Tryz.prog 130 [.v (.string s)] (.v (.int .i64 (sizeP s))) := by
  unfold maxLen at hs
  have hl := toList_len s
  unfold sizeP
  refine pcalls_of Tryz.func130 rfl rfl Tryz.ntmps130 rfl ?_
  cases h0 : lead0 s with
  | true =>
    rcases lead0_yes h0 with h1 | ⟨h1, h2⟩
    · repeat' (first | refine rg 0 (aq0 ?_) | (refine rg 1 ?_; refine oMv ?_; refine sp (po_len_str rfl rfl (tyR rfl)) ?_; refine oCm ?_; refine oMv ?_; (first | refine oMv ?_ | refine oK ?_) <;> (first | refine sp (po_len_str rfl rfl (tyR rfl)) ?_ | refine oK ?_) <;> (first | refine oCm ?_ | refine oK ?_) <;> refine oPt ?_ <;> refine oMv ?_ <;> (first | refine oMv ?_ | refine oK ?_) <;> (first | refine sp (po_index_str (k := 0) rfl rfl rfl (tyR rfl) (by rfl) (by first | assumption | omega)) ?_ | refine oK ?_) <;> (first | refine oCm ?_ | refine oK ?_) <;> (first | refine oMv ?_ | refine oK ?_) <;> (first | refine oMv ?_ | refine oK ?_) <;> (first | refine sp (po_str rfl rfl rfl rfl) ?_ | refine oK ?_) <;> (first | refine oPt ?_ | refine oPf ?_ | refine oK ?_) <;> refine oPt ?_ <;> refine oN ?_) | refine rg 2 (aq0 ?_) | refine gc ?_ | refine ct ?_ | refine cf ?_ | refine sc ?_ ?_ <;> intro hc | refine rq rfl (rt .nil) ?_)
      rfl
    · have h3 := h2 (by omega)
      have e1 : (!decide (s = ⟨#[48]⟩)) = true := by rw [decide_eq_false (fun e => by rw [e] at h1; exact absurd h1 (by decide))]; rfl
      by_cases h4 : s.size ≤ 4
      · repeat' (first | refine rg 0 (aq0 ?_) | (refine rg 1 ?_; refine oMv ?_; refine sp (po_len_str rfl rfl (tyR rfl)) ?_; refine oCm ?_; refine oMv ?_; refine oMv ?_ <;> refine sp (po_len_str rfl rfl (tyR rfl)) ?_ <;> refine oCm ?_ <;> (first | refine oPt ?_ | refine oPf ?_) <;> refine oMv ?_ <;> refine oMv ?_ <;> refine sp (po_index_str (k := 0) rfl rfl rfl (tyR rfl) (by rfl) (by first | assumption | omega)) ?_ <;> refine oCm ?_ <;> refine oMv ?_ <;> refine oMv ?_ <;> refine sp (po_str rfl rfl rfl rfl) ?_ <;> refine oPt ?_ <;> (first | refine oPt ?_ | refine oPf ?_) <;> refine oN ?_) | refine rg 2 (aq0 ?_) | refine gc ?_ | refine ct ?_ | refine cf ?_ | refine sc ?_ ?_ <;> intro hc | refine rq rfl (rt .nil) ?_)
        rfl
      · repeat' (first | refine rg 0 (aq0 ?_) | (refine rg 1 ?_; refine oMv ?_; refine sp (po_len_str rfl rfl (tyR rfl)) ?_; refine oCm ?_; refine oMv ?_; refine oMv ?_ <;> refine sp (po_len_str rfl rfl (tyR rfl)) ?_ <;> refine oCm ?_ <;> (first | refine oPt ?_ | refine oPf ?_) <;> refine oMv ?_ <;> (first | refine oMv ?_ | refine oK ?_) <;> (first | refine sp (po_index_str (k := 0) rfl rfl rfl (tyR rfl) (by rfl) (by first | assumption | omega)) ?_ | refine oK ?_) <;> (first | refine oCm ?_ | refine oK ?_) <;> (first | refine oMv ?_ | refine oK ?_) <;> (first | refine oMv ?_ | refine oK ?_) <;> (first | refine sp (po_str rfl rfl rfl rfl) ?_ | refine oK ?_) <;> (first | refine oPt ?_ | refine oPf ?_ | refine oK ?_) <;> refine oPt ?_ <;> refine oN ?_) | refine rg 2 (aq0 ?_) | refine gc ?_ | refine ct ?_ | refine cf ?_ | refine sc ?_ ?_ <;> intro hc | refine rq rfl (rt .nil) ?_)
        rfl
  | false =>
    obtain ⟨h1, h2⟩ := lead0_no h0
    have h3 := h2 h1
    by_cases h4 : s.size ≤ 4
    · rw [decide_eq_true h4]
      have hcs : (s[0].toNat = 48 ∧ (!decide (s = ⟨#[48]⟩)) = false) ∨ s[0].toNat ≠ 48 := by
        by_cases h5 : s[0].toNat = 48
        · refine .inl ⟨h5, ?_⟩
          suffices h9 : s = ⟨#[48]⟩ by rw [decide_eq_true h9]; rfl
          have h6 := h3 h5
          have : s.toList = [48] := by
            have h7 : s.toList.length = 1 := by omega
            match hq : s.toList, h7 with
            | [b], _ =>
              have := toList_get s 0 h1
              rw [hq] at this; simp at this
              rw [← this] at h5
              have : b = 48 := UInt8.toNat_inj.1 h5
              rw [this]
          rw [← toList_bs s, this]; rfl
        · exact .inr h5
      rcases hcs with ⟨h5, e1⟩ | h5
      all_goals
        repeat' (first | refine rg 0 (aq0 ?_) | (refine rg 1 ?_; refine oMv ?_; refine sp (po_len_str rfl rfl (tyR rfl)) ?_; refine oCm ?_; refine oMv ?_; refine oMv ?_ <;> refine sp (po_len_str rfl rfl (tyR rfl)) ?_ <;> refine oCm ?_ <;> (first | refine oPt ?_ | refine oPf ?_) <;> refine oMv ?_ <;> refine oMv ?_ <;> refine sp (po_index_str (k := 0) rfl rfl rfl (tyR rfl) (by rfl) (by assumption)) ?_ <;> refine oCm ?_ <;> refine oMv ?_ <;> (first | refine oMv ?_ | refine oK ?_) <;> (first | refine sp (po_str rfl rfl rfl rfl) ?_ | refine oK ?_) <;> (first | refine oPt ?_ | refine oPf ?_) <;> (first | refine oPt ?_ | refine oPf ?_) <;> refine oN ?_) | refine rg 3 (aq0 ?_) | (refine rg 4 ?_; refine oMv ?_; refine sp (po_len_str rfl rfl (tyR rfl)) ?_; refine oMv ?_; refine oN ?_) | refine gc ?_ | refine ct ?_ | refine cf ?_ | refine sc ?_ ?_ <;> intro hc | refine rq rfl (rt .nil) ?_)
        refine swp_for (fun k => ⟨[(0, .t (.v (.string s))), (24, .t (.v (.int .i64 (s.size : Int)))), (3, .t (.v (.int .i64 (sizeN (s.toList.take k))))), (25, .t (.v (.int .i64 (k : Int))))], [], []⟩) (fun k => (s.toList.take k).all hexB = true) s.size (weak_sub (.cons rfl rfl rfl (.cons rfl rfl rfl (.cons rfl rfl rfl (.cons rfl rfl rfl .nil)))) .nil .nil) rfl ?_
        intro k hk hI
        by_cases hlt : k < s.size
        · have hR := hexI_rng s[k]
          have hc1 : PCalls Tryz.prog 121 [.v (.string (bs digL)), .v (.int .u8 (s[k].toNat : Int))] (.v (.int .i64 (hexI s[k]))) := indexByte_ (bs digL) s[k]
          have hb := sizeN_4 (s.toList.take k) hI (k := k) (by simp; omega) (by omega)
          rw [List.take_take, Nat.min_self] at hb
          cases hd : hexB s[k] with
          | true =>
            have hd1 : 0 ≤ hexI s[k] := of_decide_eq_true hd
            have hn := sizeN_snoc s.toList (k := k) (by omega)
            rw [toList_at s hlt] at hn
            unfold digP at hn
            by_cases h15 : 15 < hexI s[k]
            · rw [if_pos h15] at hn
              repeat' (first | refine for_next hlt (weak_sub (.cons rfl (by rfl) rfl (.cons rfl (by rfl) rfl (.cons rfl (by first | rfl | (exact congrArg (fun n => A.t (T.v (Value.int .i64 n))) (by rw [hn]))) rfl (.cons rfl (by rfl) rfl .nil)))) .nil .nil) (all_snoc hI hlt hd) | refine rg 5 (aq6 ?_) | refine rg 6 (aq4 ?_) | (refine rg 7 (aq31 ?_); refine oC (hc1) rfl (ac (ac .nil)) ?_; refine aq0 ?_) | refine rg 8 (aq21 ?_) | refine rg 10 (aq21 ?_) | (refine rg 11 ?_; refine oMv ?_; (first | refine sp (po_dec rfl rfl rfl (by omega)) ?_ | refine sp (po_arith rfl rfl rfl (ar_sub (by first | rfl | (refine wrap_i64 ?_; omega)) rfl)) ?_); refine aq0 ?_) | (refine rg 12 ?_; refine oMv ?_; refine sp (po_arith rfl rfl rfl (ar_mul (by first | rfl | (refine wrap_i64 ?_; omega)) rfl)) ?_; refine aq52 ?_) | refine rg 13 (aq9 ?_) | refine gc ?_ | refine ct ?_ | refine cf ?_)
            · rw [if_neg h15] at hn
              repeat' (first | refine for_next hlt (weak_sub (.cons rfl (by rfl) rfl (.cons rfl (by rfl) rfl (.cons rfl (by first | rfl | (exact congrArg (fun n => A.t (T.v (Value.int .i64 n))) (by rw [hn]))) rfl (.cons rfl (by rfl) rfl .nil)))) .nil .nil) (all_snoc hI hlt hd) | refine rg 5 (aq6 ?_) | refine rg 6 (aq4 ?_) | (refine rg 7 (aq31 ?_); refine oC (hc1) rfl (ac (ac .nil)) ?_; refine aq0 ?_) | refine rg 8 (aq21 ?_) | refine rg 10 (aq21 ?_) | (refine rg 12 ?_; refine oMv ?_; refine sp (po_arith rfl rfl rfl (ar_mul (by first | rfl | (refine wrap_i64 ?_; omega)) rfl)) ?_; refine aq52 ?_) | refine rg 13 (aq9 ?_) | refine gc ?_ | refine ct ?_ | refine cf ?_)
          | false =>
            have hd1 : hexI s[k] < 0 := by unfold hexB at hd; simpa using hd
            rw [all_bad hlt hd]
            repeat' (first | refine rg 5 (aq6 ?_) | refine rg 6 (aq4 ?_) | (refine rg 7 (aq31 ?_); refine oC (hc1) rfl (ac (ac .nil)) ?_; refine aq0 ?_) | refine rg 8 (aq21 ?_) | refine rg 9 (aq0 ?_) | refine gc ?_ | refine ct ?_ | refine cf ?_ | refine sc ?_ ?_ <;> intro hc | refine rq rfl (rt .nil) ?_)
            rfl
        · obtain rfl : k = s.size := by omega
          rw [take_full s (Nat.lt_irrefl _)] at hI
          rw [hI, take_full s (Nat.lt_irrefl _)]
          repeat' (first | refine rg 5 (aq6 ?_) | refine rg 14 (aq4 ?_) | refine gc ?_ | refine ct ?_ | refine cf ?_ | refine sc ?_ ?_ <;> intro hc | refine rq rfl (rt .nil) ?_)
          rfl
    · rw [decide_eq_false h4]
      repeat' (first | refine rg 0 (aq0 ?_) | (refine rg 1 ?_; refine oMv ?_; refine sp (po_len_str rfl rfl (tyR rfl)) ?_; refine oCm ?_; refine oMv ?_; refine oMv ?_ <;> refine sp (po_len_str rfl rfl (tyR rfl)) ?_ <;> refine oCm ?_ <;> (first | refine oPt ?_ | refine oPf ?_) <;> refine oMv ?_ <;> (first | refine oMv ?_ | refine oK ?_) <;> (first | refine sp (po_index_str (k := 0) rfl rfl rfl (tyR rfl) (by rfl) (by assumption)) ?_ | refine oK ?_) <;> (first | refine oCm ?_ | refine oK ?_) <;> (first | refine oMv ?_ | refine oK ?_) <;> (first | refine oMv ?_ | refine oK ?_) <;> (first | refine sp (po_str rfl rfl rfl rfl) ?_ | refine oK ?_) <;> (first | refine oPt ?_ | refine oPf ?_ | refine oK ?_) <;> refine oPt ?_ <;> refine oN ?_) | refine rg 2 (aq0 ?_) | refine gc ?_ | refine ct ?_ | refine cf ?_ | refine sc ?_ ?_ <;> intro hc | refine rq rfl (rt .nil) ?_)
      rfl
set_option maxRecDepth 100000 in
set_option maxHeartbeats 1000000 in
theorem chunk_ (r : PRd) (hb : r.raw.body.length ≤ 1000000) (s : ByteArray) (hs : s.size ≤ maxLen) : LCalls Tryz.prog 100 [.bp 2000 0, .t (.v (.string s))] [(2000, rdA r)] (rdO r) (.tu []) [(2000, rdA (chunkP r s))] (rdO (chunkP r s)) := by
  have hmb : (r.raw.body.map byteT).length = r.raw.body.length := List.length_map _
  have c1 := number_ s hs
  have c2 := fault_ r 2
  have c6 := fault_ r 6
  have hr := sizeP_rng s
  unfold chunkP
  generalize sizeP s = z at *
  refine lcalls_of Tryz.func100 rfl rfl Tryz.ntmps100 rfl ?_
  by_cases h1 : z < 0
  · rw [if_pos h1]
    repeat' (first | (refine rg 0 ?_; refine oMv ?_; (first | refine sops_lcall (c2) (fun i => i) (fun i => i) (fun _ => false) (.free rfl rfl) rfl rfl rfl (by first | ((repeat' (first | exact .nil | refine .cons rfl rfl rfl ?_ | refine .vw rfl (by first | exact .t _ | exact .own rfl (by rfl) | exact .nil _ | exact .emp _ | exact .fn _) ?_)) <;> fail) | fail) (.cons rfl rfl .nil) (.cons rfl rfl (.cons rfl rfl (.cons rfl rfl .nil))) rfl rfl (fun _ h => Bool.noConfusion h) ?_ | refine oC (c1) rfl (ac .nil) ?_); refine aq0 ?_) | refine rg 2 (aq18 ?_) | (refine rg 3 ?_; refine oMv ?_; (refine sops_lcall (c2) (fun i => i) (fun i => i) (fun _ => false) (.free rfl rfl) rfl rfl rfl (by ((repeat' (first | exact .nil | refine .cons rfl rfl rfl ?_)) <;> fail)) (.cons rfl rfl .nil) (.cons rfl rfl (.cons rfl rfl (.cons rfl rfl .nil))) rfl rfl (fun _ h => Bool.noConfusion h) ?_); refine oN ?_) | refine gc ?_ | refine ct ?_ | refine cf ?_ | refine sc ?_ ?_ <;> intro hc | refine retl (by first | exact .inr rfl | exact .inl rfl) rfl .nil ?_ rfl (.cons rfl (by rfl) rfl .nil) (.cons rfl (by rfl) (.cons rfl (by rfl) (.cons rfl (by rfl) .nil))))
    rfl
  · rw [if_neg h1]
    by_cases h2 : z = 0
    · rw [if_pos h2]
      repeat' (first | (refine rg 0 ?_; refine oMv ?_; refine oC (c1) rfl (ac .nil) ?_; refine aq0 ?_) | refine rg 2 (aq18 ?_) | refine rg 4 (aq18 ?_) | refine rg 5 (aq53 ?_) | refine gc ?_ | refine ct ?_ | refine cf ?_ | refine sc ?_ ?_ <;> intro hc | refine retl (by first | exact .inr rfl | exact .inl rfl) rfl .nil ?_ rfl (.cons rfl (by rfl) rfl .nil) (.cons rfl (by rfl) (.cons rfl (by rfl) (.cons rfl (by rfl) .nil))))
      rfl
    · rw [if_neg h2]
      by_cases h3 : 1024 < (r.raw.body.length : Int) + z
      · rw [if_pos h3]
        repeat' (first | (refine rg 0 ?_; refine oMv ?_; (first | refine sops_lcall (c6) (fun i => i) (fun i => i) (fun _ => false) (.free rfl rfl) rfl rfl rfl (by first | ((repeat' (first | exact .nil | refine .cons rfl rfl rfl ?_ | refine .vw rfl (by first | exact .t _ | exact .own rfl (by rfl) | exact .nil _ | exact .emp _ | exact .fn _) ?_)) <;> fail) | fail) (.cons rfl rfl .nil) (.cons rfl rfl (.cons rfl rfl (.cons rfl rfl .nil))) rfl rfl (fun _ h => Bool.noConfusion h) ?_ | refine oC (c1) rfl (ac .nil) ?_); refine aq0 ?_) | refine rg 2 (aq18 ?_) | refine rg 4 (aq18 ?_) | refine rg 6 (aq54 ?_) | (refine rg 7 ?_; refine oMv ?_; (refine sops_lcall (c6) (fun i => i) (fun i => i) (fun _ => false) (.free rfl rfl) rfl rfl rfl (by ((repeat' (first | exact .nil | refine .cons rfl rfl rfl ?_)) <;> fail)) (.cons rfl rfl .nil) (.cons rfl rfl (.cons rfl rfl (.cons rfl rfl .nil))) rfl rfl (fun _ h => Bool.noConfusion h) ?_); refine oN ?_) | refine gc ?_ | refine ct ?_ | refine cf ?_ | refine sc ?_ ?_ <;> intro hc | refine retl (by first | exact .inr rfl | exact .inl rfl) rfl .nil ?_ rfl (.cons rfl (by rfl) rfl .nil) (.cons rfl (by rfl) (.cons rfl (by rfl) (.cons rfl (by rfl) .nil))))
        rfl
      · rw [if_neg h3]
        repeat' (first | (refine rg 0 ?_; refine oMv ?_; refine oC (c1) rfl (ac .nil) ?_; refine aq0 ?_) | refine rg 2 (aq18 ?_) | refine rg 4 (aq18 ?_) | refine rg 6 (aq54 ?_) | (refine rg 1 ?_; refine oMv ?_; refine oMv ?_; refine oMv ?_; refine sp (po_nilcheck rfl rfl) ?_; refine oFb ?_; refine oFb ?_; refine oS ?_; refine sp (po_nilcheck rfl rfl) ?_; refine oFb ?_; refine oFb ?_; refine oS ?_; refine oN ?_) | refine gc ?_ | refine ct ?_ | refine cf ?_ | refine sc ?_ ?_ <;> intro hc | refine retl (by first | exact .inr rfl | exact .inl rfl) rfl .nil ?_ rfl (.cons rfl (by rfl) rfl .nil) (.cons rfl (by rfl) (.cons rfl (by rfl) (.cons rfl (by rfl) .nil))))
        rfl
set_option maxRecDepth 100000 in
set_option maxHeartbeats 1000000 in
theorem ended_ (r : PRd) (ho : r.out.length ≤ 1000000) (s : ByteArray) : LCalls Tryz.prog 101 [.bp 2000 0, .t (.v (.string s))] [(2000, rdA r)] (rdO r) (.tu []) [(2000, rdA (endedP r s))] (rdO (endedP r s)) := by
  have c2 := fault_ r 2
  have c3 := whole_ r ho
  unfold endedP
  refine lcalls_of Tryz.func101 rfl rfl Tryz.ntmps101 rfl ?_
  by_cases h1 : s ≠ ⟨#[]⟩
  · rw [if_pos h1]
    have e1 : (!decide (s = ⟨#[]⟩)) = true := by rw [decide_eq_false h1]; rfl
    repeat' (first | refine rg 1 (aq55 ?_) | (refine rg 2 ?_; refine oMv ?_; refine sops_lcall (c2) (fun i => i) (fun i => i) (fun _ => false) (.free rfl rfl) rfl rfl rfl (by ((repeat' (first | exact .nil | refine .cons rfl rfl rfl ?_)) <;> fail)) (.cons rfl rfl .nil) (.cons rfl rfl (.cons rfl rfl (.cons rfl rfl .nil))) rfl rfl (fun _ h => Bool.noConfusion h) ?_; refine oN ?_) | refine gc ?_ | refine ct ?_ | refine cf ?_ | refine sc ?_ ?_ <;> intro hc | refine retl (by first | exact .inr rfl | exact .inl rfl) rfl .nil ?_ rfl (.cons rfl (by rfl) rfl .nil) (.cons rfl (by rfl) (.cons rfl (by rfl) (.cons rfl (by rfl) .nil))))
    rfl
  · rw [if_neg h1]
    have e1 : (!decide (s = ⟨#[]⟩)) = false := by rw [decide_eq_true (Classical.not_not.1 h1)]; rfl
    by_cases h2 : r.phase = 6
    · rw [if_pos h2]
      repeat' (first | refine rg 1 (aq55 ?_) | refine rg 3 (aq56 ?_) | (refine rg 4 ?_; refine oMv ?_; refine sops_lcall (c3) (fun i => i) (fun i => i) (fun _ => false) (.free rfl rfl) rfl rfl rfl (by ((repeat' (first | exact .nil | refine .cons rfl rfl rfl ?_)) <;> fail)) (.cons rfl rfl .nil) (.cons rfl rfl (.cons rfl rfl (.cons rfl rfl .nil))) rfl rfl (fun _ h => Bool.noConfusion h) ?_; refine oN ?_) | refine gc ?_ | refine ct ?_ | refine cf ?_ | refine sc ?_ ?_ <;> intro hc | refine retl (by first | exact .inr rfl | exact .inl rfl) rfl .nil ?_ rfl (.cons rfl (by rfl) rfl .nil) (.cons rfl (by rfl) (.cons rfl (by rfl) (.cons rfl (by rfl) .nil))))
      rfl
    · rw [if_neg h2]
      repeat' (first | refine rg 1 (aq55 ?_) | refine rg 3 (aq56 ?_) | refine rg 0 (aq53 ?_) | refine gc ?_ | refine ct ?_ | refine cf ?_ | refine sc ?_ ?_ <;> intro hc | refine retl (by first | exact .inr rfl | exact .inl rfl) rfl .nil ?_ rfl (.cons rfl (by rfl) rfl .nil) (.cons rfl (by rfl) (.cons rfl (by rfl) (.cons rfl (by rfl) .nil))))
      rfl
theorem fram_ch (l : List Pl.Head) : (fram l).1.chunked = 0 ∨ (fram l).1.chunked = 1 := by
  unfold fram framV
  split <;> (try split) <;> first | exact .inl rfl | exact .inr rfl
set_option maxRecDepth 100000 in
set_option maxHeartbeats 1000000 in
theorem body_ (r : PRd) (hn : r.raw.heads.length ≤ 1000) (hh : ∀ h ∈ r.raw.heads, okHead h) (ho : r.out.length ≤ 1000000) : LCalls Tryz.prog 127 [.bp 2000 0] [(2000, rdA r)] (rdO r) (.tu []) [(2000, rdA (bodyP r))] (rdO (bodyP r)) := by
  have c1 := framing_ r.raw.heads hn hh
  have c2 := fault_ r (fram r.raw.heads).2
  have c3 := whole_ r ho
  unfold framT endT at c1
  unfold bodyP
  generalize (fram r.raw.heads).2 = e at *
  generalize (fram r.raw.heads).1 = f at *
  refine lcalls_of Tryz.func127 rfl rfl Tryz.ntmps127 rfl ?_
  by_cases h1 : e ≠ 0
  · rw [if_pos h1]
    repeat' (first | (refine rg 0 (aq57 ?_); (first | refine sops_lcall (c2) (fun i => i) (fun i => i) (fun _ => false) (.free rfl rfl) rfl rfl rfl (by first | ((repeat' (first | exact .nil | refine .cons rfl rfl rfl ?_ | refine .vw rfl (by first | exact .t _ | exact .own rfl (by rfl) | exact .nil _ | exact .emp _ | exact .fn _) ?_)) <;> fail) | fail) (.cons rfl rfl .nil) (.cons rfl rfl (.cons rfl rfl (.cons rfl rfl .nil))) rfl rfl (fun _ h => Bool.noConfusion h) ?_ | refine oC (c1) rfl (ac .nil) ?_); refine aq27 ?_; refine sal str89 ?_; refine aq58 ?_) | refine rg 2 (aq18 ?_) | (refine rg 3 (aq15 ?_); (refine sops_lcall (c2) (fun i => i) (fun i => i) (fun _ => false) (.free rfl rfl) rfl rfl rfl (by ((repeat' (first | exact .nil | refine .cons rfl rfl rfl ?_)) <;> fail)) (.cons rfl rfl .nil) (.cons rfl rfl (.cons rfl rfl (.cons rfl rfl .nil))) rfl rfl (fun _ h => Bool.noConfusion h) ?_); refine oN ?_) | refine gc ?_ | refine ct ?_ | refine cf ?_ | refine sc ?_ ?_ <;> intro hc | refine retl (by first | exact .inr rfl | exact .inl rfl) rfl .nil ?_ rfl (.cons rfl (by rfl) rfl .nil) (.cons rfl (by rfl) (.cons rfl (by rfl) (.cons rfl (by rfl) .nil))))
    rfl
  · rw [if_neg h1]
    by_cases h2 : f.chunked = 1
    · rw [if_pos h2]
      repeat' (first | (refine rg 0 (aq57 ?_); refine oC (c1) rfl (ac .nil) ?_; refine aq27 ?_; refine sal str89 ?_; refine aq58 ?_) | refine rg 2 (aq18 ?_) | refine rg 4 (aq59 ?_) | refine rg 5 (aq53 ?_) | refine gc ?_ | refine ct ?_ | refine cf ?_ | refine sc ?_ ?_ <;> intro hc | refine retl (by first | exact .inr rfl | exact .inl rfl) rfl .nil ?_ rfl (.cons rfl (by rfl) rfl .nil) (.cons rfl (by rfl) (.cons rfl (by rfl) (.cons rfl (by rfl) .nil))))
      rfl
    · rw [if_neg h2]
      by_cases h3 : f.length = 0
      · rw [if_pos h3]
        repeat' (first | (refine rg 0 (aq57 ?_); (first | refine sops_lcall (c3) (fun i => i) (fun i => i) (fun _ => false) (.free rfl rfl) rfl rfl rfl (by first | ((repeat' (first | exact .nil | refine .cons rfl rfl rfl ?_ | refine .vw rfl (by first | exact .t _ | exact .own rfl (by rfl) | exact .nil _ | exact .emp _ | exact .fn _) ?_)) <;> fail) | fail) (.cons rfl rfl .nil) (.cons rfl rfl (.cons rfl rfl (.cons rfl rfl .nil))) rfl rfl (fun _ h => Bool.noConfusion h) ?_ | refine oC (c1) rfl (ac .nil) ?_); refine aq27 ?_; refine sal str89 ?_; refine aq58 ?_) | refine rg 2 (aq18 ?_) | refine rg 4 (aq59 ?_) | refine rg 6 (aq59 ?_) | (refine rg 7 ?_; refine oMv ?_; (refine sops_lcall (c3) (fun i => i) (fun i => i) (fun _ => false) (.free rfl rfl) rfl rfl rfl (by ((repeat' (first | exact .nil | refine .cons rfl rfl rfl ?_)) <;> fail)) (.cons rfl rfl .nil) (.cons rfl rfl (.cons rfl rfl (.cons rfl rfl .nil))) rfl rfl (fun _ h => Bool.noConfusion h) ?_); refine oN ?_) | refine gc ?_ | refine ct ?_ | refine cf ?_ | refine sc ?_ ?_ <;> intro hc | refine retl (by first | exact .inr rfl | exact .inl rfl) rfl .nil ?_ rfl (.cons rfl (by rfl) rfl .nil) (.cons rfl (by rfl) (.cons rfl (by rfl) (.cons rfl (by rfl) .nil))))
        rfl
      · rw [if_neg h3]
        repeat' (first | (refine rg 0 (aq57 ?_); refine oC (c1) rfl (ac .nil) ?_; refine aq27 ?_; refine sal str89 ?_; refine aq58 ?_) | refine rg 2 (aq18 ?_) | refine rg 4 (aq59 ?_) | refine rg 6 (aq59 ?_) | ((refine swp_any (id := 1) [[], [], [], [], [], [], [], [2000], [], [], [], [2000]] [[], [2000], [2000], [2000], [], [], [], [], [], [], [], []] mixed (by kernel_rfl) ?_) <;> refine yp (fun _ _ => po_move rfl rfl) ?_ <;> refine yp (fun _ _ => po_move rfl rfl) ?_ <;> refine yp (fun _ _ => po_field_bx rfl rfl (tyF rfl)) ?_ <;> refine yp (fun _ _ => po_load_bx rfl rfl (tyT rfl) rfl rfl) ?_ <;> refine yp (fun _ _ => po_nilcheck rfl rfl) ?_ <;> refine yp (fun _ _ => po_field_bx rfl rfl (tyF rfl)) ?_ <;> refine yp (fun _ _ => po_field_bx rfl rfl (tyF rfl)) ?_ <;> refine sany_eff [(2000, _)] [] (.free rfl rfl) rfl rfl (fun _ _ _ _ => e_store rfl rfl rfl rfl rfl rfl (tyT rfl) rfl rfl) ?_ <;> refine yp (fun _ _ => po_nilcheck rfl rfl) ?_ <;> refine yp (fun _ _ => po_field_bx rfl rfl (tyF rfl)) ?_ <;> refine yp (fun _ _ => po_field_bx rfl rfl (tyF rfl)) ?_ <;> refine sany_eff [(2000, _)] [] (.free rfl rfl) rfl rfl (fun _ _ _ _ => e_store rfl rfl rfl rfl rfl rfl (tyT rfl) rfl rfl) ?_ <;> refine sany_nil ?_) | refine gc ?_ | refine ct ?_ | refine cf ?_ | refine sc ?_ ?_ <;> intro hc | refine retl (by first | exact .inr rfl | exact .inl rfl) rfl .nil ?_ rfl (.cons rfl (by rfl) rfl .nil) (.cons rfl (by rfl) (.cons rfl (by rfl) (.cons rfl (by rfl) .nil))))
        rfl
end Go.Proofs.YtloippgblkoemaaGreatDoor.Rq
