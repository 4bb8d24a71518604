/- Merged by bundles.py: SimBr13a, SimBr13, WOwn0, SimBr13b, SimRen, SimSb, SimCopyP. -/
import Derived.Test.YtnclifgiakmmoaaA10
import Derived.Test.YtnclifgiakmmoaaA11
import Derived.Test.YtnclifgiakmmoaaA13
import Derived.Test.YtnclifgiakmmoaaA0
import Derived.Test.YtnclifgiakmmoaaA5
import Derived.Test.YtnclifgiakmmoaaA12
import Derived.Shelf.Abstract
import Derived.Test.YtnclifgiakmmoaaA6
import Derived.Test.YtnclifgiakmmoaaA7
/- auth's functions, as the logic of states has them. -/
namespace Go.Proofs.Ytnclifgiakmmoaa.Pol
set_option linter.unusedVariables false
set_option linter.unusedSimpArgs false
open Go.RowKit Mem Sim Opn WAddr WName WMatch WAuth
theorem tr2 {m : Mm} {a b : T} {x y : Value} (ha : TR m a x) (hb : TR m b y) : TR m (.tup [a, b]) (.tuple #[x, y]) := by
  refine .tup [a, b] #[x, y] rfl fun j t v h1 h2 => ?_
  match j, h1, h2 with
  | 0, h1, h2 => simp at h1 h2; subst h1 h2; exact ha
  | 1, h1, h2 => simp at h1 h2; subst h1 h2; exact hb
theorem args4 {m : Mm} {t0 t1 t2 t3 : T} {vals : Array Value} (hl : vals.size = [t0, t1, t2, t3].length) (hv : ∀ (i : Nat) t v, [t0, t1, t2, t3][i]? = some t → vals[i]? = some v → TR m t v) : ∃ x0 x1 x2 x3, vals = #[x0, x1, x2, x3] ∧ TR m t0 x0 ∧ TR m t1 x1 ∧ TR m t2 x2 ∧ TR m t3 x3 := by
  obtain ⟨l⟩ := vals
  match l, hl with
  | [x0, x1, x2, x3], _ => exact ⟨x0, x1, x2, x3, rfl, hv 0 _ _ rfl rfl, hv 1 _ _ rfl rfl, hv 2 _ _ rfl rfl, hv 3 _ _ rfl rfl⟩
theorem agg_inv {m : Mm} {cs : List T} {v : Value} (h : TR m (.agg cs) v) : ∃ vs : List Value, v = .agg vs.toArray ∧ CellsAre m cs vs := by
  cases h with
  | agg cs vs h h1 ht => exact ⟨vs.toList, by simp, by simpa using h, fun j t v h2 h3 => ⟨ht j t v h2 (by simpa using h3), h1 v (List.mem_of_getElem? h3)⟩⟩
theorem agg_bwd {m : Mm} {cs : List T} {vs : List Value} (h : CellsAre m cs vs) : TR m (.agg cs) (.agg vs.toArray) :=
  .agg cs vs.toArray (by simpa using h.1) (fun v hv => by
    obtain ⟨j, hj⟩ := List.getElem?_of_mem hv
    have hj' : vs[j]? = some v := by simpa using hj
    have hlt : j < cs.length := by rw [← h.1]; exact (List.getElem?_eq_some_iff.1 hj').1
    exact (h.2 j _ v (List.getElem?_eq_getElem hlt) hj').2) fun j t v h1 h2 => (h.2 j t v h1 (by simpa using h2)).1
theorem ask_inv {m : Mm} {a : Pl.Asker} {v : Value} (h : TR m (.agg (askT a)) v) : v = .agg #[.string a.ns, .string a.sa, .int .u32 a.addr] := by
  obtain ⟨vs, rfl, hc⟩ := agg_inv h
  rw [cells_ex hc [.string a.ns, .string a.sa, .int .u32 a.addr] rfl]
/-- what of a request fits, however many headers -/
structure OkReq0 (q : Pl.Req) : Prop where
  method : q.method.size ≤ maxLen
  path : q.path.size ≤ maxLen
  host : q.host.size ≤ maxLen
  heads : ∀ h ∈ q.heads, okHead h
theorem req_inv {m : Mm} {w : World} (hs : Sub m w) {q : Pl.Req} {tg qu : ByteArray} {bd v : Value} (hq : OkReq0 q) (h : TR m (.agg (reqT q tg qu bd)) v) : ∃ A cap, v = .agg #[.string q.method, .string tg, .string q.path, .string qu, .string q.host, .slice A q.heads.length cap, bd] ∧ SliceAt HeadR 2 w.heap.size w A q.heads ∧ q.heads.length ≤ maxLen ∧ bd.oneCell' = true := by
  obtain ⟨vs, rfl, hc⟩ := agg_inv h
  obtain ⟨u0, vs, rfl, h0, hc⟩ := cellsAre_inv hc
  obtain ⟨u1, vs, rfl, h1, hc⟩ := cellsAre_inv hc
  obtain ⟨u2, vs, rfl, h2, hc⟩ := cellsAre_inv hc
  obtain ⟨u3, vs, rfl, h3, hc⟩ := cellsAre_inv hc
  obtain ⟨u4, vs, rfl, h4, hc⟩ := cellsAre_inv hc
  obtain ⟨u5, vs, rfl, h5, hc⟩ := cellsAre_inv hc
  have hone : ∀ u ∈ vs, u.oneCell' = true := fun u hu => by
    obtain ⟨j, hj⟩ := List.getElem?_of_mem hu
    have hlt : j < 1 := by have := (List.getElem?_eq_some_iff.1 hj).1; have := hc.1; simp at this; omega
    have : j = 0 := by omega
    subst this
    exact (hc.2 0 _ u rfl hj).2
  obtain ⟨u6, vs, rfl, h6, hc⟩ := cellsAre_inv hc
  obtain rfl := cellsAre_inv0 hc
  obtain ⟨A, cap, e, hA, hc1, hc2⟩ := sl_fwd hs (by omega) (head_fwd hs) hq.heads h5
  injection e with e; subst e
  rw [tr_v h6] at hone
  rw [tr_v h0, tr_v h1, tr_v h2, tr_v h3, tr_v h4, tr_v h6]
  exact ⟨A, cap, rfl, hA, Nat.le_trans hc1 hc2, hone bd (by simp)⟩
theorem pols_inv {m : Mm} {w : World} (hs : Sub m w) {l : List Pl.Policy} {v : Value} (hl : ∀ p ∈ l, okPolicy p) (h : TR m (.sl 5 (l.map polT)) v) : ∃ A cap, v = .slice A l.length cap ∧ SliceAt PolicyR 5 w.heap.size w A l ∧ l.length ≤ maxLen := by
  obtain ⟨A, cap, e, hA, hc1, hc2⟩ := sl_fwd hs (by omega) (policy_fwd hs) hl h
  injection e with e; subst e
  exact ⟨A, cap, rfl, hA, Nat.le_trans hc1 hc2⟩
theorem p_judge (l : List Pl.Policy) (hl : ∀ p ∈ l, okPolicy p) (a : Pl.Asker) (ha : OkAsk a) (port : Int) (q : Pl.Req) (hq : OkReq0 q) (hf : q.heads.length ≤ 1000) (tg qu : ByteArray) (bd : Value) :
    PCalls Try.prog 9 [.sl 5 (l.map polT), .agg (askT a), .v (.int .i64 port), .agg (reqT q tg qu bd)] (.tup [.v (.bool (Pl.judgeP (matchP a port q) l).1), .v (.int .u64 (Pl.judgeP (matchP a port q) l).2)]) where
  ent := ent_of Try.func9 rfl rfl
  run := fun m w vals hm hvl hv _ => by
    obtain ⟨x0, x1, x2, x3, rfl, h0, h1, h2, h3⟩ := args4 hvl hv
    obtain ⟨A0, cap0, rfl, hA0, hn⟩ := pols_inv hm hl h0
    obtain rfl := ask_inv h1
    rw [tr_v h2]
    obtain ⟨A, cap, rfl, hA, _, _⟩ := req_inv hm hq h3
    refine (judge l A0 cap0 a port q A cap tg qu bd w (Nat.le_refl _) hA0 hn ⟨ha.ns, ha.sa, hq.method, hq.path, hq.host, hA, hf⟩).mono fun e w' ⟨he, hlo⟩ => ?_
    rw [he]
    exact post_ex hm hlo (tr2 (.v _) (.v _))
theorem p_long (l : List Pl.Policy) (hl : ∀ p ∈ l, okPolicy p) (a : Pl.Asker) (ha : OkAsk a) (q : Pl.Req) (hq : OkReq0 q) (tg qu : ByteArray) (bd : Value) :
    PCalls Try.prog 5 [.sl 5 (l.map polT), .agg (askT a), .agg (reqT q tg qu bd)] (.v (.bool (long13 l a q))) where
  ent := ent_of Try.func5 rfl rfl
  run := fun m w vals hm hvl hv _ => by
    obtain ⟨x0, x1, x3, rfl, h0, h1, h3⟩ := args3 hvl hv
    obtain ⟨A0, cap0, rfl, hA0, hn⟩ := pols_inv hm hl h0
    obtain rfl := ask_inv h1
    obtain ⟨A, cap, rfl, hA, hn2, hbd⟩ := req_inv hm hq h3
    refine (long13_ l A0 cap0 a q A cap (.string tg) (.string qu) bd w (Nat.le_refl _) hA0 hn ⟨ha.ns, ha.sa, hq.method, hq.path, hq.host, hA, hn2⟩ rfl rfl hbd).mono fun e w' ⟨he, hlo⟩ => ?_
    rw [he]
    exact post_ex hm hlo (.v _)
theorem few_rule {r : Pl.Rule} (h : longRule r = false) : FewR r := by
  unfold longRule at h
  simp only [Bool.or_eq_false_iff, decide_eq_false_iff_not, List.any_eq_false] at h
  obtain ⟨⟨⟨⟨⟨h1, h2⟩, h3⟩, h4⟩, h5⟩, h6⟩ := h
  refine ⟨by omega, by omega, by omega, fun s hs => ?_, fun s hs => ?_, fun s hs => ?_⟩
  · have := h4 s hs
    simp [srcLong, termsB, rowLong] at this
    omega
  · have := h5 s hs
    simp [tgtLong, termsB, rowLong] at this
    omega
  · have := h6 s hs
    simp [whenLong, termsB, rowLong] at this
    omega
theorem few_pol {p : Pl.Policy} (h : longPol p = false) : FewP p := by
  unfold longPol at h
  simp only [Bool.or_eq_false_iff, decide_eq_false_iff_not, List.any_eq_false] at h
  exact ⟨by omega, fun r hr => few_rule (by simpa using h.2 r hr)⟩
theorem few_long {l : List Pl.Policy} {a : Pl.Asker} {q : Pl.Req} (h : long13 l a q = false) : FewL l ∧ l.length ≤ 30 ∧ q.heads.length ≤ 100 ∧ ∀ p ∈ l, FewP p := by
  unfold long13 longHeads at h
  simp only [Bool.or_eq_false_iff, decide_eq_false_iff_not, List.any_eq_false] at h
  have hp : ∀ p ∈ l, FewP p := fun p hp => few_pol (by simpa using h.2 p hp)
  exact ⟨⟨by omega, fun p h => ⟨(hp p h).n, (hp p h).r⟩⟩, by omega, by omega, hp⟩
end Go.Proofs.Ytnclifgiakmmoaa.Pol

/- auth's functions and the law's own, as the logic of states has them. -/
namespace Go.Proofs.Ytnclifgiakmmoaa.Pol
set_option linter.unusedVariables false
set_option linter.unusedSimpArgs false
open Go.RowKit Mem Sim Opn WAddr WName WMatch WAuth
theorem p_awake13 : PCalls Try.prog 8 [] (.v (.bool true)) where
  ent := ent_of Try.func8 rfl rfl
  run := fun m w vals hs hvl hv _ => by
    have : vals = #[] := Array.eq_empty_of_size_eq_zero hvl
    subst this
    refine (awake13 w).mono fun e w' ⟨he, hlo⟩ => ?_
    rw [he]
    exact post_ex hs hlo (.v _)
end Go.Proofs.Ytnclifgiakmmoaa.Pol

/- Words for what is made anew. -/
namespace Go.Proofs.Ytnclifgiakmmoaa.Mem
set_option linter.unusedVariables false
set_option linter.unusedSimpArgs false
open Go.RowKit
theorem RowF.flat {α : Type} {T T' : Nat → Prop} {R : Rel α} (hR : Flat R) {e : TypeId} {sz base : Nat} {w : World} {v : Value} {xs : List α} (h : RowF T R e sz base w v xs) : RowF T' R e sz base w v xs := by
  obtain ⟨cells, ho, hf⟩ := h
  exact ⟨cells, ho, fun k x hx => Foot.flat hR ((hf k x hx).at (B := w.heap.size) fun b hb => hb.1)⟩
/-- made since base -/
abbrev New {α : Type} (base : Nat) (R : Rel α) (w : World) (x : α) (cs : List Value) : Prop := Foot (fun b => base ≤ b ∧ b < w.heap.size) R w x cs
theorem New.lo {α : Type} {base : Nat} {R : Rel α} {w w' : World} {x : α} {cs : List Value} (h : New base R w x cs) (hl : Lo w w') : New base R w' x cs :=
  (h.keep fun p hp => hl.cell p hp.2).mono fun b hb => ⟨hb.1, Nat.lt_of_lt_of_le hb.2 hl.size⟩
theorem TermR.flat : Flat WMatch.TermR := fun _ _ _ _ _ _ h => h
theorem CidrR.flat : Flat Opn.CidrR := fun _ _ _ _ _ _ h => h
theorem IntC.flat (k : IntKind) : Flat (IntC k) := fun _ _ _ _ _ _ h => h
theorem TermR.one {B : Nat} {w : World} {t : Pl.Term} {cs : List Value} (h : WMatch.TermR B w t cs) : ∀ u ∈ cs, u.oneCell' = true := by
  obtain ⟨rfl, _⟩ := h
  intro u hu; simp at hu; rcases hu with rfl | rfl <;> rfl
theorem CidrR.one {B : Nat} {w : World} {t : Pl.Cidr} {cs : List Value} (h : Opn.CidrR B w t cs) : ∀ u ∈ cs, u.oneCell' = true := by
  obtain ⟨c0, c1, rfl, ⟨e0, _⟩, ⟨e1, _⟩⟩ := h
  injection e0 with e0; injection e1 with e1; subst e0 e1
  intro u hu; simp at hu; rcases hu with rfl | rfl <;> rfl
theorem IntC.one {k : IntKind} {B : Nat} {w : World} {t : Int} {cs : List Value} (h : IntC k B w t cs) : ∀ u ∈ cs, u.oneCell' = true := by
  obtain ⟨rfl, _⟩ := h
  intro u hu; simp at hu; subst hu; rfl
theorem StrC.one {B : Nat} {w : World} {t : ByteArray} {cs : List Value} (h : StrC B w t cs) : ∀ u ∈ cs, u.oneCell' = true := by
  obtain ⟨rfl, _⟩ := h
  intro u hu; simp at hu; subst hu; rfl
end Go.Proofs.Ytnclifgiakmmoaa.Mem

/- auth's other functions, as the logic of states has them. -/
namespace Go.Proofs.Ytnclifgiakmmoaa.Pol
set_option linter.unusedVariables false
set_option linter.unusedSimpArgs false
open Go.RowKit Mem Sim Opn WAddr WName WMatch WAuth
theorem p_longRule (r : Pl.Rule) (hr : okRule r) : PCalls Try.prog 7 [.agg (ruleT r)] (.v (.bool (longRule r))) where
  ent := ent_of Try.func7 rfl rfl
  run := fun m w vals hm hvl hv _ => by
    obtain ⟨x0, rfl, h0⟩ := args1 hvl hv
    obtain ⟨vs, rfl, hc⟩ := agg_inv h0
    have hrr := rule_fwd hm r vs hr hc
    obtain ⟨c0, c1, c2, rfl⟩ : ∃ c0 c1 c2, vs = [c0, c1, c2] := by obtain ⟨c0, c1, c2, h, _⟩ := hrr; exact ⟨c0, c1, c2, h⟩
    refine (longRule_ r c0 c1 c2 w (Nat.le_refl _) hrr).mono fun e w' ⟨he, hlo⟩ => ?_
    rw [he]
    exact post_ex hm hlo (.v _)
end Go.Proofs.Ytnclifgiakmmoaa.Pol

/- A logic of states: a row gets another number: a lent one becomes the call's own, a hidden one may be seen from then on. -/
namespace Go.Proofs.Ytnclifgiakmmoaa.Sim
set_option linter.unusedVariables false
set_option linter.unusedSimpArgs false
open Go.RowKit Mem

def rn (i i' j : Nat) : Nat := bif Nat.beq j i then i' else j
theorem rn_same (i i' : Nat) : rn i i' i = i' := by unfold rn; rw [Nat.beq_refl]; rfl
theorem rn_other {i i' j : Nat} (h : j ≠ i) : rn i i' j = j := by
  unfold rn
  cases e : Nat.beq j i with
  | true => exact absurd (Nat.eq_of_beq_eq_true e) h
  | false => rfl
def renO (i i' : Nat) (ow : List (Nat × Own)) : List (Nat × Own) := ow.map fun p => (rn i i' p.1, p.2)
def renX (i i' : Nat) (bx : List (Nat × List A)) : List (Nat × List A) := bx.map fun p => (p.1, p.2.map (A.ren (fun k => k) (rn i i')))
theorem get_renO {i i' : Nat} {ow : List (Nat × Own)} (hn : get ow i' = none) (hne : i ≠ i') (j : Nat) : get (renO i i' ow) j = if j = i' then get ow i else if j = i then none else get ow j := by
  induction ow with
  | nil => simp [renO, get]
  | cons p r ih =>
    obtain ⟨k, x⟩ := p
    rw [get_cons] at hn
    split at hn
    · cases hn
    rename_i hk
    have ih := ih hn
    show get ((rn i i' k, x) :: renO i i' r) j = _
    rw [get_cons, get_cons, get_cons, ih]
    by_cases hki : k = i
    · subst hki
      rw [rn_same]
      by_cases hj : i' = j
      · subst hj; simp
      · have hj' : ¬ j = i' := fun e => hj e.symm
        by_cases hjk : j = k
        · subst hjk; simp [hj, hj']
        · have hkj : ¬ k = j := fun e => hjk e.symm
          simp [hj, hj', hjk, hkj]
    · rw [rn_other hki]
      by_cases hkj : k = j
      · subst hkj; simp [hk, hki]
      · simp [hkj, hki]
theorem get_renX {i i' : Nat} {bx : List (Nat × List A)} (j : Nat) : get (renX i i' bx) j = (get bx j).map fun cs => cs.map (A.ren (fun k => k) (rn i i')) := by
  induction bx with
  | nil => rfl
  | cons p r ih =>
    obtain ⟨k, x⟩ := p
    show get ((k, _) :: renX i i' r) j = _
    rw [get_cons, get_cons, ih]
    by_cases hkj : k = j
    · rw [if_pos hkj, if_pos hkj]; rfl
    · rw [if_neg hkj, if_neg hkj]
theorem EnvG.ren' {C : Ctx} {bx : List (Nat × List A)} {ow : List (Nat × Own)} {w : World} {m : Mm} {g : Gh} (he : EnvG C bx ow w m g) {i i' : Nat} {o : Own} (hi : get ow i = some o) (hh : hid i = true ∨ hid i' = false) (hn : get ow i' = none) (h2 : Nat.ble 2000 i' = false) :
    ∃ m' g', EnvG C (renX i i' bx) (renO i i' ow) w m' g' ∧ ∀ x v, AR m g x v → AR m' g' (x.ren (fun k => k) (rn i i')) v := by
  have hne : i ≠ i' := fun e => by rw [e, hn] at hi; cases hi
  obtain ⟨vs, hrow, hsz, hcells, hblk⟩ := he.owns i o hi
  have hO := fun j => get_renO hn hne j
  have hX := fun j => get_renX (i := i) (i' := i') (bx := bx) j
  have hlwi : g.lw i' = false := by rw [he.lw, hn]; rfl
  have hmm : ∀ b q u, m b q = some u → rowm m (g.go i) (vis i' vs) b q = some u := fun b q u hu => by
    unfold rowm
    split
    · rename_i hb
      rw [(hblk b hb).1 q] at hu
      rcases hh with hh | hh
      · rw [vis_hid hh] at hu; simp at hu
      · rw [vis_see hh]; exact vis_get hu
    · exact hu
  have hgoO : ∀ j, j ≠ i' → (if j = i' then g.go i else g.go j) = g.go j := fun j h => if_neg h
  have hlw' : ∀ j, g.lw j = true → j ≠ i' := fun j hj e => by rw [e, hlwi] at hj; cases hj
  have hget : ∀ j, g.lw j = true → (get (renO i i' ow) (rn i i' j)).isSome = true := fun j hj => by
    rw [hO]
    by_cases hji : j = i
    · subst hji; rw [rn_same, if_pos rfl, hi]; rfl
    · rw [rn_other hji, if_neg (hlw' j hj), if_neg hji, ← he.lw j]; exact hj
  let g' : Gh := { g with go := fun j => if j = i' then g.go i else g.go j, ln := fun j => if j = i' then g.ln i else g.ln j, lw := fun j => (get (renO i i' ow) j).isSome }
  have hgo : ∀ j, g.lw j = true → g'.go (rn i i' j) = g.go j := fun j hj => by
    by_cases hji : j = i
    · subst hji; rw [rn_same]; exact if_pos rfl
    · rw [rn_other hji]; exact if_neg (hlw' j hj)
  have hln : ∀ j, g.lw j = true → g'.ln (rn i i' j) = g.ln j := fun j hj => by
    by_cases hji : j = i
    · subst hji; rw [rn_same]; exact if_pos rfl
    · rw [rn_other hji]; exact if_neg (hlw' j hj)
  have hAR : ∀ x v, AR m g x v → AR (rowm m (g.go i) (vis i' vs)) g' (x.ren (fun k => k) (rn i i')) v := fun x v hx => by
    refine AR.mp (ren0 (fun k => k) (rn i i')) (fun _ => true) (fun x v _ hx => ?_) (by
      cases x <;> simp [A.allP, A.all1]
      intro y _; cases y <;> simp [A.all1]) hx
    cases x with
    | t x => exact TR.mono hmm hx
    | bp k off => exact hx
    | sb k n => exact hx
    | own j n =>
      obtain ⟨h1, h3, h4, h5⟩ := hx
      exact ⟨hget j h1, by rw [hln j h1]; exact h3, h4, fun e => by rw [hgo j h1]; exact h5 (by rw [hln j h1] at e; exact e)⟩
    | emp => exact hx
    | oe j n sz k off =>
      obtain ⟨h1, h3, h4, h5⟩ := hx
      exact ⟨hget j h1, by rw [hln j h1]; exact h3, h4, fun e => by rw [hgo j h1]; exact h5 (by rw [hln j h1] at e; exact e)⟩
    | any => trivial
    | sfx j n sz k =>
      obtain ⟨h1, h3, h4, h5⟩ := hx
      exact ⟨hget j h1, by rw [hln j h1]; exact h3, h4, fun e => by rw [hgo j h1]; exact h5 (by rw [hln j h1] at e; exact e)⟩
    | ag cs => exact hx
    | tu cs => exact hx
    | cl f cs => exact hx
  have hown : ∀ j oj, get (renO i i' ow) j = some oj → (j = i' ∧ oj = o) ∨ (j ≠ i' ∧ j ≠ i ∧ get ow j = some oj) := fun j oj hj => by
    rw [hO] at hj
    by_cases h1 : j = i'
    · rw [if_pos h1, hi] at hj; injection hj with hj; exact .inl ⟨h1, hj.symm⟩
    · rw [if_neg h1] at hj
      by_cases h3 : j = i
      · rw [if_pos h3] at hj; cases hj
      · rw [if_neg h3] at hj; exact .inr ⟨h1, h3, hj⟩
  have hgo1 : g'.go i' = g.go i := if_pos rfl
  have hgo2 : ∀ j, j ≠ i' → g'.go j = g.go j := fun j h => if_neg h
  refine ⟨rowm m (g.go i) (vis i' vs), g', {
    lo := he.lo
    gm := he.gm
    sub := fun b q u hu => by
      unfold rowm at hu
      split at hu
      · rename_i hb
        have := hrow.cells hb q u (vis_get hu)
        rwa [addr_add, Nat.zero_add] at this
      · exact he.sub b q u hu
    gt := fun b q u ht => hmm b q u (he.gt b q u ht)
    ext := ⟨fun b q u hu => hmm b q u (he.ext.keep b q u hu), fun b q hb hgb => by
      unfold rowm
      by_cases hvv : (g.go i).ownBlock = some b
      · rcases (hblk b hvv).2.2 with h1 | h1
        · omega
        · rw [hgb] at h1; cases h1
      · rw [if_neg hvv]; exact he.ext.old b q hb hgb⟩
    lb := fun j => by
      rw [hX, Option.isSome_map]; exact he.lb j
    lw := fun j => rfl
    ln := fun j oj hj => by
      rcases hown j oj hj with ⟨h1, h3⟩ | ⟨h1, h3, h4⟩
      · subst h1 h3; show (if j = j then g.ln i else g.ln j) = _; rw [if_pos rfl]; exact he.ln i _ hi
      · show (if j = i' then g.ln i else g.ln j) = _; rw [if_neg h1]; exact he.ln j _ h4
    boxes := fun j cs hj => by
      rw [hX] at hj
      cases hb : get bx j with
      | none => rw [hb] at hj; cases hj
      | some cs0 =>
        rw [hb] at hj
        have hj : cs0.map (A.ren (fun k => k) (rn i i')) = cs := by simpa using hj
        subst hj
        obtain ⟨vs2, ty, h1, h3, h4, h5, h6⟩ := he.boxes j cs0 hb
        refine ⟨vs2, ty, h1, by simpa using h3, fun q x u hx hu => ?_, h5, fun q => ?_⟩
        · rw [List.getElem?_map] at hx
          cases hc : cs0[q]? with
          | none => rw [hc] at hx; cases hx
          | some y =>
            rw [hc] at hx
            have hx : A.ren (fun k => k) (rn i i') y = x := by simpa using hx
            subst hx
            exact ⟨hAR _ _ (h4 q y u hc hu).1, (h4 q y u hc hu).2⟩
        · show rowm m (g.go i) (vis i' vs) (g.gb j) q = none
          unfold rowm
          rw [if_neg (fun e => (hblk _ e).2.1 j cs0 hb rfl)]
          exact h6 q
    inj := fun j k cj ck hj hk e => by
      rw [hX] at hj hk
      cases hb : get bx j with
      | none => rw [hb] at hj; cases hj
      | some c1 =>
        cases hb2 : get bx k with
        | none => rw [hb2] at hk; cases hk
        | some c2 => exact he.inj j k c1 c2 hb hb2 e
    owns := fun j oj hj => by
      rcases hown j oj hj with ⟨h1, h3⟩ | ⟨h1, h3, h4⟩
      · subst h1 h3
        rw [hgo1]
        refine ⟨vs, hrow, hsz, hcells.mono hmm, fun b hb => ⟨fun k => ?_, fun q cs hq => ?_, (hblk b hb).2.2⟩⟩
        · unfold rowm; rw [if_pos hb]
        · rw [hX] at hq
          cases hb2 : get bx q with
          | none => rw [hb2] at hq; cases hq
          | some c2 => exact (hblk b hb).2.1 q c2 hb2
      · rw [hgo2 j h1]
        obtain ⟨vs2, k1, k2, k3, k4⟩ := he.owns j oj h4
        refine ⟨vs2, k1, k2, k3.mono hmm, fun b hb => ⟨fun k => ?_, fun q cs hq => ?_, (k4 b hb).2.2⟩⟩
        · unfold rowm
          rw [if_neg (fun e => he.apart i j o oj hi h4 (fun e => h3 e.symm) b e hb)]
          exact (k4 b hb).1 k
        · rw [hX] at hq
          cases hb2 : get bx q with
          | none => rw [hb2] at hq; cases hq
          | some c2 => exact (k4 b hb).2.1 q c2 hb2
    apart := fun j k oj ok hj hk hjk b hb => by
      rcases hown j oj hj with ⟨h1, h3⟩ | ⟨h1, h3, h4⟩
      · rcases hown k ok hk with ⟨k1, k3⟩ | ⟨k1, k3, k4⟩
        · exact absurd (h1.trans k1.symm) hjk
        · subst h1; rw [hgo1] at hb; rw [hgo2 k k1]
          exact he.apart i k o ok hi k4 (fun e => k3 e.symm) b hb
      · rw [hgo2 j h1] at hb
        rcases hown k ok hk with ⟨k1, k3⟩ | ⟨k1, k3, k4⟩
        · subst k1; rw [hgo1]
          exact he.apart j i oj o h4 hi h3 b hb
        · rw [hgo2 k k1]
          exact he.apart j k oj ok h4 k4 hjk b hb
    pin := fun j oj hj hj2 => by
      rcases hown j oj hj with ⟨h1, h3⟩ | ⟨h1, h3, h4⟩
      · rw [h1, h2] at hj2; cases hj2
      · rw [hgo2 j h1]; exact he.pin j oj h4 hj2
    pinb := fun j cs hj hj2 => by
      rw [hX] at hj
      cases hb : get bx j with
      | none => rw [hb] at hj; cases hj
      | some c1 => exact he.pinb j c1 hb hj2 }, hAR⟩
theorem EnvG.ren {C : Ctx} {bx : List (Nat × List A)} {ow : List (Nat × Own)} {w : World} {m : Mm} {g : Gh} (he : EnvG C bx ow w m g) {i i' : Nat} {o : Own} (hi : get ow i = some o) (hh : hid i = true) (hn : get ow i' = none) (h2 : Nat.ble 2000 i' = false) :
    ∃ m' g', EnvG C (renX i i' bx) (renO i i' ow) w m' g' ∧ ∀ x v, AR m g x v → AR m' g' (x.ren (fun k => k) (rn i i')) v := he.ren' hi (.inl hh) hn h2
end Go.Proofs.Ytnclifgiakmmoaa.Sim

/- A logic of states: a row of the call's own, seen as a box. -/
namespace Go.Proofs.Ytnclifgiakmmoaa.Sim
set_option linter.unusedVariables false
set_option linter.unusedSimpArgs false
open Go.RowKit Mem

theorem fz_ok {i : Nat} (h : wnB i = true) (n : Nat) (t : Tag) : FzOk (fzOf i n t) n := by
  unfold fzOf; rw [h]
  cases e : Nat.beq t.cap 0
  · exact .inr (Nat.le_add_right _ _)
  · exact .inl rfl
theorem fz_tag {i : Nat} (h : wnB i = true) {fz : Nat × Nat} {n : Nat} (hf : FzOk fz n) (ty : TypeId) : ∃ t : Tag, t.ty = ty ∧ fzOf i n t = fz := by
  rcases hf with h1 | h1
  · refine ⟨⟨ty, 0, fz.1, 0⟩, rfl, ?_⟩
    unfold fzOf; rw [h]; show (fz.1, 0) = fz; rw [← h1]
  · refine ⟨⟨ty, 1, fz.1 - n, fz.2⟩, rfl, ?_⟩
    unfold fzOf; rw [h]; show (n + (fz.1 - n), fz.2) = fz
    rw [show n + (fz.1 - n) = fz.1 by omega]
section
variable {P : Program} {bx : List (Nat × List A)} {ow : List (Nat × Own)} {o : Oper} {ρ : Operand → Option A} {r : A}
theorem po_index_sb {t : TypeId} {x ix : Operand} {i nn sz k : Nat} {n : Int} {ik : IntKind} (ho : o.op = .indexAddr t x ix) (hx : ρ x = some (.sb i nn)) (hix : ρ ix = some (.t (.v (.int ik n)))) (hT : sliceSz P t = some sz) (hn : n = (k : Int)) (hk : k < nn) : PureOp P bx ow o ρ (.bp i (k * sz)) := pure_run fun C m g w a he h => by
  obtain ⟨h1, cap, h2, _⟩ := h x (by simp [ho, Op.operands]) _ hx
  have h5 := tr_v (h ix (by simp [ho, Op.operands]) _ hix)
  obtain ⟨e', ii, hu, hie, hs⟩ := sliceSz_spec hT
  subst hn
  have hlt : (k : Int) < (nn : Int) := by omega
  refine ⟨.pointer (some ⟨g.gb i, k * sz, none⟩), ?_, h1, rfl⟩
  simp [execOp, ho, h2, h5, Instr.indexAt, asIntOf, run_underlying hu, sizeOf, typeInfo, hie, hs, hk, addr_add]
theorem po_load_wn {ty : TypeId} {x : Operand} {i off n : Nat} {cs : List A} (ho : o.op = .load ty x) (hx : ρ x = some (.bp i off)) (hT : tyI P ty = some (false, n)) (hb : get bx i = some cs) (ht : cs[off]? = some r) (hq : wnB i = true := by rfl) : PureOp P bx ow o ρ r := pure_run fun C m g w a he h => by
  obtain ⟨_, h1⟩ := h x (by simp [ho, Op.operands]) _ hx
  obtain ⟨vs, ty', hh, hs, hc, _, _⟩ := he.boxes i cs hb
  rw [ob_win hq] at hh
  have hlt : off < vs.size := Nat.lt_of_lt_of_le (List.getElem?_eq_some_iff.1 ht).1 hs.1
  have hcell : w.cell? ⟨g.gb i, off, none⟩ = some vs[off] := by simp [World.cell?, hh, hlt]
  exact ⟨vs[off], by simp [execOp, ho, h1, run_load_scalar hT hcell], (hc off r _ ht (by simp [hlt])).1⟩
end
section
variable {P : Program} {N : Nat} {Q : Exit → St → Prop} {ops : Array Oper} {rest : List Oper} {o : Oper} {tm : List (Nat × A)} {bx : List (Nat × List A)} {ow : List (Nat × Own)}
theorem sops_store_wn {ty : TypeId} {x z : Operand} {y : A} {i off n : Nat} {ag : Bool} {cs : List A} (hg : GuardIs ops tm o true) (ho : o.op = .store ty x z) (hd : o.dst = none) (hx : evA tm x = some (.bp i off)) (hz : evA tm z = some y) (hk : y.okB = true)
    (hb : get bx i = some cs) (hT : tyI P ty = some (ag, n)) (hn : y.cells.length = n) (hfit : off + n ≤ cs.length)
    (h : SOps P N ops Q rest ⟨tm, (i, spl cs off y.cells) :: bx, ow⟩) (hq : wnB i = true := by rfl) : SOps P N ops Q (o :: rest) ⟨tm, bx, ow⟩ := by
  refine .mk fun C a w ⟨m, g, hr⟩ => ?_
  obtain ⟨_, h1⟩ := hr.ev hx
  have hv := acells_ok (hr.ev hz) hk
  obtain ⟨vs, ty', hh, hs, hc, hw0, hm⟩ := hr.env.boxes i cs hb
  rw [ob_win hq] at hh
  obtain ⟨d', i', hu, hi', _, hsz⟩ := tyI_spec hT
  have hlen : (a.eval z).cells.toList.length = n := by rw [hv.1, hn]
  have hst := run_storeCells_atM P (g.gb i) off ty'.ty (fzOf i vs.size ty') (a.eval z).cells.toList 0 vs w hh (fz_ok hq _ _) (by rw [hlen, Nat.add_zero]; exact Nat.le_trans hfit hs.1) hv.one
  rw [Nat.add_zero] at hst
  generalize hvs' : (vs.toList.take off ++ (a.eval z).cells.toList ++ vs.toList.drop (off + (a.eval z).cells.toList.length)).toArray = vs' at hst
  have hle := hs.1
  have hsize : vs'.size = vs.size := by rw [← hvs']; simp; simp at hlen; omega
  have hcl : (spl cs off y.cells).length = cs.length := by unfold spl; simp; omega
  have hcells : ∀ (k : Nat) x v, (spl cs off y.cells)[k]? = some x → vs'[k]? = some v → AR m g x v ∧ v.oneCell' = true := by
    have hc' : ACells m g cs (vs.toList.take cs.length) := ⟨by simp; omega, fun j t v h2 h3 => by
      rw [List.getElem?_take] at h3
      split at h3
      · exact hc j t v h2 (by simpa using h3)
      · cases h3⟩
    have hca : ACells m g (spl cs off y.cells) ((vs.toList.take cs.length).take off ++ ((a.eval z).cells.toList ++ (vs.toList.take cs.length).drop (off + y.cells.length))) := by
      unfold spl
      exact (hc'.take off).app (hv.app (hc'.drop _))
    intro k x v hx hv'
    refine hca.2 k x v hx ?_
    have hkl : k < cs.length := by rw [← hcl]; exact (List.getElem?_eq_some_iff.1 hx).1
    rw [← hvs'] at hv'
    simp only [List.getElem?_toArray] at hv'
    rw [hv.1, List.append_assoc] at hv'
    by_cases h1' : k < off
    · rw [List.getElem?_append_left (by simp; omega)] at hv'
      rw [List.getElem?_append_left (by simp; omega), List.getElem?_take_of_lt h1', List.getElem?_take_of_lt hkl]
      rw [List.getElem?_take_of_lt h1'] at hv'
      exact hv'
    · rw [List.getElem?_append_right (by simp; omega)] at hv' ⊢
      have e1 : (vs.toList.take off).length = off := by simp; omega
      have e2 : ((vs.toList.take cs.length).take off).length = off := by simp; omega
      rw [e1] at hv'
      rw [e2]
      by_cases h2' : k - off < y.cells.length
      · rw [List.getElem?_append_left (by rw [hv.1]; exact h2')] at hv' ⊢
        exact hv'
      · rw [List.getElem?_append_right (by rw [hv.1]; omega)] at hv' ⊢
        rw [List.getElem?_drop] at hv' ⊢
        rw [hv.1] at hv' ⊢
        rw [List.getElem?_take_of_lt (by omega)]
        exact hv'
  refine wpList_step fun K hK => ?_
  rw [if_pos (hg.wanted (m := m) (g := g) fun j want e _ _ y hy => hr.tmps e y hy)]
  have hrun : (execOp a.eval o).run P w = .ok .skip (w.setRow (g.gb i) vs') := by
    have hsz' : (a.eval z).cells.size = i'.size := by rw [hsz]; simpa using hlen
    have hsv : (storeVar ty ⟨g.gb i, off, none⟩ (a.eval z)).run P w = .ok () (w.setRow (g.gb i) vs') := by
      generalize a.eval z = u at *
      simp [storeVar, sizeOf, typeInfo, hi', hsz']
      simpa [hsz'] using hst
    simp only [execOp, ho, h1, Instr.storeAt, Instr.sureAddr, Sem.run_bind, Sem.run_pure, Result.andThen_ok, hsv]
  unfold Oper.wp
  rw [hrun, Oper.upon_skip]
  refine hK _ _ (h.go C _ _ ⟨m, g, ?_⟩)
  rw [hd]
  refine hr.put_none (hr.env.setAtW (ty := ty') hb (grown_setRow w (g.gb i) vs') ?_ ⟨by omega, fun h => by rw [hq] at h; cases h⟩ hcells) (fun x v h => h)
  rw [ob_win hq, hsize]
  exact setRow_heap w (g.gb i) vs vs' ty'.ty _ hh
end
/-- a leaf where row i has become box j -/
def sb0 (i j len : Nat) : A → A
  | .own k n => bif Nat.beq k i then (bif Nat.beq n len then .sb j n else .any) else .own k n
  | .oe k n sz kk off => bif Nat.beq k i then .any else .oe k n sz kk off
  | .sfx k n sz kk => bif Nat.beq k i then .any else .sfx k n sz kk
  | x => x
def A.tsb (i j len : Nat) (x : A) := x.mapA (sb0 i j len)
section
variable {C : Ctx} {bx : List (Nat × List A)} {ow : List (Nat × Own)} {w : World} {m : Mm} {g : Gh}
/-- a row that is the call's alone, seen as a box -/
theorem EnvG.toBox (he : EnvG C bx ow w m g) {i j : Nat} {o : Own} (hi : get ow i = some o) (hh : hid i = true) (h2 : Nat.ble 2000 i = false) (hn : 0 < o.rows.length) (hj : get bx j = none) (hw : wnB j = true) :
    ∃ g', EnvG C ((j, o.rows.flatten.map .t) :: bx.map fun p => (p.1, p.2.map (A.tsb i j o.rows.length))) (ow.filter (fun p => !(Nat.beq p.1 i))) w m g' ∧ ∀ x v, AR m g x v → AR m g' (x.tsb i j o.rows.length) v := by
  obtain ⟨vs, hown, hrl, hca, hbk⟩ := he.owns i o hi
  obtain ⟨b, cap, cur, e1, e2, ⟨fz, e3, e3f⟩, e4, e5, e6, e7⟩ := own_form hown hn
  have hob : (g.go i).ownBlock = some b := by rw [e1]; rfl
  obtain ⟨hmv, hbx, hmine⟩ := hbk b hob
  have hmb : ∀ k, m b k = none := fun k => by rw [hmv k, vis_hid hh]; rfl
  have hlbj : g.lb j = false := by rw [he.lb, hj]; rfl
  let g' : Gh := { g with gb := fun k => if k = j then b else g.gb k, lb := fun k => if k = j then true else g.lb k, lw := fun k => if k = i then false else g.lw k }
  have hgb : ∀ k, k ≠ j → g'.gb k = g.gb k := fun k hk => if_neg hk
  have hgj : g'.gb j = b := if_pos rfl
  have hget : ∀ k, get (ow.filter (fun p => !(Nat.beq p.1 i))) k = if k = i then none else get ow k := fun k => by
    refine (get_filter (fun k => !(Nat.beq k i)) ow k).trans ?_
    by_cases hk : k = i
    · subst hk; rw [if_pos rfl, if_neg]; rw [show Nat.beq k k = true from Nat.beq_refl _]; simp
    · rw [if_neg hk, if_pos]
      cases hb : Nat.beq k i with
      | true => exact absurd (Nat.eq_of_beq_eq_true hb) hk
      | false => rfl
  have hlw : ∀ k, k ≠ i → g.lw k = true → g'.lw k = true := fun k hk h => by show (if k = i then false else g.lw k) = true; rw [if_neg hk]; exact h
  have L0 : ∀ x v, AR0 m g x v → AR0 m g' (sb0 i j o.rows.length x) v := by
    intro x v hx
    cases x with
    | bp k off =>
      obtain ⟨h1, h2⟩ := hx
      have hk : k ≠ j := fun e => by subst e; rw [hlbj] at h1; cases h1
      exact ⟨by show (if k = j then true else g.lb k) = true; rw [if_neg hk]; exact h1, by rw [hgb k hk]; exact h2⟩
    | sb k n =>
      obtain ⟨h1, h2⟩ := hx
      have hk : k ≠ j := fun e => by subst e; rw [hlbj] at h1; cases h1
      exact ⟨by show (if k = j then true else g.lb k) = true; rw [if_neg hk]; exact h1, by rw [hgb k hk]; exact h2⟩
    | own k n =>
      show AR0 m g' (bif Nat.beq k i then (bif Nat.beq n o.rows.length then .sb j n else .any) else .own k n) v
      obtain ⟨h1, h2, h3, h4⟩ := hx
      cases hb : Nat.beq k i with
      | true =>
        obtain rfl := Nat.eq_of_beq_eq_true hb
        cases hl : Nat.beq n o.rows.length with
        | false => trivial
        | true =>
          obtain rfl := Nat.eq_of_beq_eq_true hl
          refine ⟨if_pos rfl, cap, ?_, e4, e5⟩
          rw [h4 (he.ln k o hi).symm, e1, hgj]
      | false => exact ⟨hlw k (Nat.ne_of_beq_eq_false hb) h1, h2, h3, h4⟩
    | oe k n sz kk off =>
      show AR0 m g' (bif Nat.beq k i then .any else .oe k n sz kk off) v
      obtain ⟨h1, h2, h3, h4⟩ := hx
      cases hb : Nat.beq k i with
      | true => trivial
      | false => exact ⟨hlw k (Nat.ne_of_beq_eq_false hb) h1, h2, h3, h4⟩
    | sfx k n sz kk =>
      show AR0 m g' (bif Nat.beq k i then .any else .sfx k n sz kk) v
      obtain ⟨h1, h2, h3, h4⟩ := hx
      cases hb : Nat.beq k i with
      | true => trivial
      | false => exact ⟨hlw k (Nat.ne_of_beq_eq_false hb) h1, h2, h3, h4⟩
    | _ => exact hx
  have L : ∀ x v, AR m g x v → AR m g' (x.tsb i j o.rows.length) v := fun x v hx => hx.mp _ (fun _ => true) (fun x v _ => L0 x v) (allt x)
  have hbx' : ∀ k cs, get (bx.map fun p => (p.1, p.2.map (A.tsb i j o.rows.length))) k = some cs → ∃ c0, get bx k = some c0 ∧ cs = c0.map (A.tsb i j o.rows.length) := fun k cs hk => by
    rw [get_map2] at hk
    cases hc : get bx k with
    | none => rw [hc] at hk; cases hk
    | some c0 => rw [hc] at hk; injection hk with hk; exact ⟨c0, rfl, hk.symm⟩
  have hne : ∀ k c0, get bx k = some c0 → k ≠ j := fun k c0 hk e => by subst e; rw [hj] at hk; cases hk
  obtain ⟨tg, ht1, ht2⟩ := fz_tag hw e3f o.e
  have hlen : o.rows.flatten.length = o.rows.length * o.sz := flat_len hrl
  have hvl : vs.length = o.rows.flatten.length := hca.1
  have hcs : o.rows.length * o.sz ≤ cur.size := Nat.le_trans (Nat.mul_le_mul_right _ e4) e6
  refine ⟨g', {
    lo := he.lo, gm := he.gm, sub := he.sub, gt := he.gt, ext := he.ext
    lb := fun k => by
      rw [get_cons, get_map2]
      show (if k = j then true else g.lb k) = _
      by_cases hk : k = j
      · rw [if_pos hk, if_pos hk.symm]; rfl
      · rw [if_neg hk, if_neg (fun e => hk e.symm), show (Option.map (List.map (A.tsb i j o.rows.length)) (get bx k)).isSome = (get bx k).isSome by cases get bx k <;> rfl]; exact he.lb k
    lw := fun k => by
      rw [hget]
      show (if k = i then false else g.lw k) = _
      by_cases hk : k = i
      · rw [if_pos hk, if_pos hk]; rfl
      · rw [if_neg hk, if_neg hk]; exact he.lw k
    ln := fun k o' hk => by
      rw [hget] at hk
      split at hk
      · cases hk
      · exact he.ln k o' hk
    boxes := fun k cs hk => by
      rw [get_cons] at hk
      by_cases hkj : j = k
      · subst hkj
        rw [if_pos rfl] at hk; injection hk with hk; subst hk
        refine ⟨cur, tg, ?_, ⟨by simp only [List.length_map]; omega, fun h => by rw [hw] at h; cases h⟩, fun q x u hx hu => ?_, ?_, fun q => ?_⟩
        · rw [hgj, ob_win hw, ht1, ht2]; exact e3
        · rw [List.getElem?_map] at hx
          cases hq : o.rows.flatten[q]? with
          | none => rw [hq] at hx; cases hx
          | some t =>
            rw [hq] at hx; injection hx with hx; subst hx
            have hql : q < o.rows.length * o.sz := by rw [← hlen]; exact (List.getElem?_eq_some_iff.1 hq).1
            have hvq : vs[q]? = some u := by rw [← e7, List.getElem?_take_of_lt hql]; simpa using hu
            exact hca.2 q t u hq hvq
        · rw [hgj]; exact hmine
        · rw [hgj]; exact hmb q
      · rw [if_neg hkj] at hk
        obtain ⟨c0, hc, rfl⟩ := hbx' k cs hk
        rw [hgb k (hne k c0 hc)]
        obtain ⟨us, ty, h1, h3, h4, h5, h6⟩ := he.boxes k c0 hc
        refine ⟨us, ty, h1, by simpa using h3, fun q x u hx hu => ?_, h5, h6⟩
        rw [List.getElem?_map] at hx
        cases hq : c0[q]? with
        | none => rw [hq] at hx; cases hx
        | some y => rw [hq] at hx; injection hx with hx; subst hx; exact ⟨L y u (h4 q y u hq hu).1, (h4 q y u hq hu).2⟩
    inj := fun p q cp cq hp hq e => by
      rw [get_cons] at hp hq
      by_cases hpj : j = p <;> by_cases hqj : j = q
      · omega
      · rw [if_neg hqj] at hq
        obtain ⟨c0, hc, _⟩ := hbx' q cq hq
        rw [← hpj, hgj, hgb q (hne q c0 hc)] at e
        exact absurd e.symm (hbx q c0 hc)
      · rw [if_neg hpj] at hp
        obtain ⟨c0, hc, _⟩ := hbx' p cp hp
        rw [← hqj, hgj, hgb p (hne p c0 hc)] at e
        exact absurd e (hbx p c0 hc)
      · rw [if_neg hpj] at hp; rw [if_neg hqj] at hq
        obtain ⟨c0, hc, _⟩ := hbx' p cp hp
        obtain ⟨c2, hc2, _⟩ := hbx' q cq hq
        rw [hgb p (hne p c0 hc), hgb q (hne q c2 hc2)] at e
        exact he.inj p q c0 c2 hc hc2 e
    owns := fun k o' hk => by
      rw [hget] at hk
      split at hk
      · cases hk
      · rename_i hki
        obtain ⟨us, h1, h3, h4, h5⟩ := he.owns k o' hk
        refine ⟨us, h1, h3, h4, fun b' hb' => ⟨(h5 b' hb').1, fun q cs hq => ?_, (h5 b' hb').2.2⟩⟩
        rw [get_cons] at hq
        by_cases hqj : j = q
        · rw [← hqj, hgj]
          exact fun e => he.apart i k o o' hi hk (fun e => hki e.symm) b hob (by rw [hb', e])
        · rw [if_neg hqj] at hq
          obtain ⟨c0, hc, _⟩ := hbx' q cs hq
          rw [hgb q (hne q c0 hc)]
          exact (h5 b' hb').2.1 q c0 hc
    apart := fun p q op oq hp hq hpq b' hb' => by
      rw [hget] at hp hq
      split at hp
      · cases hp
      · split at hq
        · cases hq
        · exact he.apart p q op oq hp hq hpq b' hb'
    pin := fun k o' hk hk2 => by
      rw [hget] at hk
      split at hk
      · cases hk
      · exact he.pin k o' hk hk2
    pinb := fun k cs hk hk2 => by
      rw [get_cons] at hk
      by_cases hkj : j = k
      · subst hkj
        have h1 : j < 2000 := by unfold wnB at hw; simp [Nat.blt_eq] at hw; omega
        have := Nat.le_of_ble_eq_true hk2; omega
      · rw [if_neg hkj] at hk
        obtain ⟨c0, hc, _⟩ := hbx' k cs hk
        rw [hgb k (hne k c0 hc)]; exact he.pinb k c0 hc hk2 }, L⟩
end
theorem weak_tobox {N : Nat} {tm : List (Nat × A)} {bx : List (Nat × List A)} {ow : List (Nat × Own)} (i j : Nat) {o : Own} (hi : get ow i = some o) (hn : 0 < o.rows.length) (hj : get bx j = none) (hh : hid i = true := by rfl) (h2 : Nat.ble 2000 i = false := by rfl) (hw : wnB j = true := by rfl) :
    Weak N ⟨tm, bx, ow⟩ ⟨tm.map fun p => (p.1, p.2.tsb i j o.rows.length), (j, o.rows.flatten.map .t) :: bx.map fun p => (p.1, p.2.map (A.tsb i j o.rows.length)), ow.filter (fun p => !(Nat.beq p.1 i))⟩ := .mk fun C a w ⟨m, g, hr⟩ => by
  obtain ⟨g', h3, h4⟩ := hr.env.toBox hi hh h2 hn hj hw
  refine ⟨m, g', h3, hr.size, hr.defers, fun s x hx => ?_⟩
  rw [show get (tm.map fun p => (p.1, p.2.tsb i j o.rows.length)) s = _ from get_mapv _ _ _] at hx
  cases h5 : get tm s with
  | none => rw [h5] at hx; cases hx
  | some y => rw [h5] at hx; injection hx with hx; subst hx; exact h4 y _ (hr.tmps s y h5)
/-- a leaf where box j has become data -/
def fb0 (j n : Nat) (t : T) : A → A
  | .sb k q => bif Nat.beq k j then (bif Nat.beq q n then .t t else .any) else .sb k q
  | .bp k off => bif Nat.beq k j then .any else .bp k off
  | x => x
def A.fsb (j n : Nat) (t : T) (x : A) := x.mapA (fb0 j n t)
section
variable {C : Ctx} {bx : List (Nat × List A)} {ow : List (Nat × Own)} {w : World} {m : Mm} {g : Gh}
/-- a box that was a row is data from now on -/
theorem EnvG.fromBox (he : EnvG C bx ow w m g) {j : Nat} {cs : List A} {sz : Nat} {rows : List (List T)} (hb : get bx j = some cs) (hw : wnB j = true) (hr : ∀ r ∈ rows, r.length = sz) (hv : VwL ow cs rows.flatten) :
    ∃ m' g', EnvG C ((bx.filter fun p => !(Nat.beq p.1 j)).map fun p => (p.1, p.2.map (A.fsb j rows.length (.sl sz rows)))) ow w m' g' ∧ ∀ x v, AR m g x v → AR m' g' (x.fsb j rows.length (.sl sz rows)) v := by
  obtain ⟨vs, ty, hh, hsz, hc, hmine, hmn⟩ := he.boxes j cs hb
  rw [ob_win hw] at hh
  obtain ⟨hvl, hva⟩ := hv.at
  have hle := hsz.1
  let us : List Value := vs.toList.take cs.length
  have hus : us.length = cs.length := by simp [us]; omega
  have hus2 : ∀ (k : Nat) u, us[k]? = some u → k < cs.length ∧ vs[k]? = some u := fun k u h => by
    have hk : k < cs.length := by rw [← hus]; exact (List.getElem?_eq_some_iff.1 h).1
    simp only [us] at h
    rw [List.getElem?_take_of_lt hk] at h
    exact ⟨hk, by simpa using h⟩
  let m' : Mm := fun b o => if b = g.gb j then us[o]? else m b o
  have hext : ∀ b k v, m b k = some v → m' b k = some v := fun b k v hv => by
    show (if b = g.gb j then us[k]? else m b k) = some v
    split
    · rename_i e; rw [e, hmn k] at hv; cases hv
    · exact hv
  let g' : Gh := { g with lb := fun k => if k = j then false else g.lb k }
  have hget : ∀ k, get ((bx.filter fun p => !(Nat.beq p.1 j)).map fun p => (p.1, p.2.map (A.fsb j rows.length (.sl sz rows)))) k = if k = j then none else (get bx k).map (List.map (A.fsb j rows.length (.sl sz rows))) := fun k => by
    rw [get_map2]
    have := get_filter (fun k => !(Nat.beq k j)) bx k
    rw [this]
    by_cases hk : k = j
    · subst hk; rw [if_pos rfl, if_neg]; · rfl
      rw [show Nat.beq k k = true from Nat.beq_refl _]; simp
    · rw [if_neg hk, if_pos]
      cases hb : Nat.beq k j with
      | true => exact absurd (Nat.eq_of_beq_eq_true hb) hk
      | false => rfl
  have hbx' : ∀ k cs', get ((bx.filter fun p => !(Nat.beq p.1 j)).map fun p => (p.1, p.2.map (A.fsb j rows.length (.sl sz rows)))) k = some cs' → k ≠ j ∧ ∃ c0, get bx k = some c0 ∧ cs' = c0.map (A.fsb j rows.length (.sl sz rows)) := fun k cs' hk => by
    rw [hget] at hk
    split at hk
    · cases hk
    · rename_i hkj
      cases hc : get bx k with
      | none => rw [hc] at hk; cases hk
      | some c0 => rw [hc] at hk; injection hk with hk; exact ⟨hkj, c0, rfl, hk.symm⟩
  have hlb : ∀ k, k ≠ j → g.lb k = true → g'.lb k = true := fun k hk h => by show (if k = j then false else g.lb k) = true; rw [if_neg hk]; exact h
  have hfl := flat_len hr
  have hcell : ∀ (k q : Nat) (r : List T) (t : T), rows[k]? = some r → r[q]? = some t → ∃ u, us[k * sz + q]? = some u ∧ TR m t u ∧ u.oneCell' = true := fun k q r t h1 h2 => by
    have h3 := flat_get hr h1 h2
    obtain ⟨x, h4, h5⟩ := hva _ t h3
    have h6 : k * sz + q < us.length := by rw [hus]; exact (List.getElem?_eq_some_iff.1 h4).1
    have h7 := List.getElem?_eq_getElem h6
    obtain ⟨h8, h9⟩ := hc _ x _ h4 (hus2 _ _ h7).2
    exact ⟨_, h7, h5.ok he h8, h9⟩
  have L0 : ∀ x v, AR0 m g x v → AR0 m' g' (fb0 j rows.length (.sl sz rows) x) v := by
    intro x v hx
    cases x with
    | t x => exact TR.mono hext hx
    | bp k off =>
      show AR0 m' g' (bif Nat.beq k j then .any else .bp k off) v
      cases hb : Nat.beq k j with
      | true => trivial
      | false => exact ⟨hlb k (Nat.ne_of_beq_eq_false hb) hx.1, hx.2⟩
    | sb k q =>
      show AR0 m' g' (bif Nat.beq k j then (bif Nat.beq q rows.length then .t (.sl sz rows) else .any) else .sb k q) v
      cases hb : Nat.beq k j with
      | false => exact ⟨hlb k (Nat.ne_of_beq_eq_false hb) hx.1, hx.2⟩
      | true =>
        obtain rfl := Nat.eq_of_beq_eq_true hb
        cases hl : Nat.beq q rows.length with
        | false => trivial
        | true =>
          obtain rfl := Nat.eq_of_beq_eq_true hl
          obtain ⟨_, cap, h2, h3, h4⟩ := hx
          show TR m' (.sl sz rows) v
          rw [h2]
          refine .sl sz rows _ (g.gb k) 0 cap (fun a b => (us[a * sz + b]?).getD undef) h3 h4 (fun _ => rfl) hr (fun a b r t h5 h6 => ?_) (fun a b r t h5 h6 => ?_)
          · obtain ⟨u, h7, h8, h9⟩ := hcell a b r t h5 h6
            rw [h7]
            refine ⟨?_, h9⟩
            show (if g.gb k = g.gb k then us[0 + (a * sz + b)]? else _) = _
            rw [if_pos rfl, Nat.zero_add]; exact h7
          · obtain ⟨u, h7, h8, h9⟩ := hcell a b r t h5 h6
            rw [h7]
            exact TR.mono hext h8
    | _ => exact hx
  have L : ∀ x v, AR m g x v → AR m' g' (x.fsb j rows.length (.sl sz rows)) v := fun x v hx => hx.mp _ (fun _ => true) (fun x v _ => L0 x v) (allt x)
  refine ⟨m', g', {
    lo := he.lo, gm := he.gm
    sub := fun b k v hv => by
      have hv2 : (if b = g.gb j then us[k]? else m b k) = some v := hv
      split at hv2
      · rename_i e
        have h1 := (hus2 k v hv2).2
        rw [e]
        simp only [World.cell?, hh]; simpa using h1
      · exact he.sub b k v hv2
    gt := fun b k v ht => hext b k v (he.gt b k v ht)
    ext := ⟨fun b k v hv => hext b k v (he.ext.keep b k v hv), fun b k hb hg => by
      show (if b = g.gb j then us[k]? else m b k) = _
      split
      · rename_i e
        rcases hmine with h | h
        · rw [e] at hb; omega
        · rw [← e, hg] at h; cases h
      · exact he.ext.old b k hb hg⟩
    lb := fun k => by
      rw [hget]
      show (if k = j then false else g.lb k) = _
      by_cases hk : k = j
      · rw [if_pos hk, if_pos hk]; rfl
      · rw [if_neg hk, if_neg hk, show ∀ f : List A → List A, (Option.map f (get bx k)).isSome = (get bx k).isSome from fun f => by cases get bx k <;> rfl]; exact he.lb k
    lw := he.lw, ln := he.ln
    boxes := fun k cs' hk => by
      obtain ⟨hkj, c0, hc0, rfl⟩ := hbx' k cs' hk
      obtain ⟨us', ty', h1, h3, h4, h5, h6⟩ := he.boxes k c0 hc0
      refine ⟨us', ty', h1, by simpa using h3, fun q x u hx hu => ?_, h5, fun q => ?_⟩
      · rw [List.getElem?_map] at hx
        cases hq : c0[q]? with
        | none => rw [hq] at hx; cases hx
        | some y => rw [hq] at hx; injection hx with hx; subst hx; exact ⟨L y u (h4 q y u hq hu).1, (h4 q y u hq hu).2⟩
      · show (if g.gb k = g.gb j then us[q]? else m (g.gb k) q) = none
        rw [if_neg (fun e => hkj (he.inj k j c0 cs hc0 hb e))]; exact h6 q
    inj := fun p q cp cq hp hq e => by
      obtain ⟨_, c0, h1, _⟩ := hbx' p cp hp
      obtain ⟨_, c2, h3, _⟩ := hbx' q cq hq
      exact he.inj p q c0 c2 h1 h3 e
    owns := fun k o' hk => by
      obtain ⟨us', h1, h3, h4, h5⟩ := he.owns k o' hk
      refine ⟨us', h1, h3, h4.mono hext, fun b' hb' => ⟨fun q => ?_, fun q cs' hq => ?_, (h5 b' hb').2.2⟩⟩
      · show (if b' = g.gb j then us[q]? else m b' q) = _
        rw [if_neg (fun e => (h5 b' hb').2.1 j cs hb e.symm)]; exact (h5 b' hb').1 q
      · obtain ⟨_, c0, h6, _⟩ := hbx' q cs' hq
        exact (h5 b' hb').2.1 q c0 h6
    apart := he.apart
    pin := he.pin
    pinb := fun k cs' hk hk2 => by
      obtain ⟨_, c0, h1, _⟩ := hbx' k cs' hk
      exact he.pinb k c0 h1 hk2 }, L⟩
end
theorem weak_frombox {N : Nat} {tm : List (Nat × A)} {bx : List (Nat × List A)} {ow : List (Nat × Own)} (j sz : Nat) (rows : List (List T)) {cs : List A} (hb : get bx j = some cs) (hr : ∀ r ∈ rows, r.length = sz) (hv : VwL ow cs rows.flatten) (hw : wnB j = true := by rfl) :
    Weak N ⟨tm, bx, ow⟩ ⟨tm.map fun p => (p.1, p.2.fsb j rows.length (.sl sz rows)), (bx.filter fun p => !(Nat.beq p.1 j)).map fun p => (p.1, p.2.map (A.fsb j rows.length (.sl sz rows))), ow⟩ := .mk fun C a w ⟨m, g, hr'⟩ => by
  obtain ⟨m', g', h3, h4⟩ := hr'.env.fromBox hb hw hr hv
  refine ⟨m', g', h3, hr'.size, hr'.defers, fun s x hx => ?_⟩
  rw [show get (tm.map fun p => (p.1, p.2.fsb j rows.length (.sl sz rows))) s = _ from get_mapv _ _ _] at hx
  cases h5 : get tm s with
  | none => rw [h5] at hx; cases hx
  | some y => rw [h5] at hx; injection hx with hx; subst hx; exact h4 y _ (hr'.tmps s y h5)

section
variable {P : Program} {bx : List (Nat × List A)} {ow : List (Nat × Own)} {o : Oper} {ρ : Operand → Option A} {r : A}
theorem e_store_wn {ty : TypeId} {x z : Operand} {y : A} {i off n : Nat} {ag : Bool} {cs : List A} (ho : o.op = .store ty x z) (hd : o.dst = none) (hx : ρ x = some (.bp i off)) (hz : ρ z = some y) (hk : y.okB = true)
    (hb : get bx i = some cs) (hT : tyI P ty = some (ag, n)) (hn : y.cells.length = n) (hfit : off + n ≤ cs.length) (hq : wnB i = true := by rfl) : EStep P bx ow o ρ .any ((i, spl cs off y.cells) :: bx) ow := .mk fun C m g w a Q he hop => by
  obtain ⟨_, h1⟩ := hop x (by simp [ho, Op.operands]) _ hx
  have hv := acells_ok (hop z (by simp [ho, Op.operands]) _ hz) hk
  obtain ⟨vs, ty', hh, hs, hc, hw0, hm⟩ := he.boxes i cs hb
  rw [ob_win hq] at hh
  obtain ⟨d', i', hu, hi', _, hsz⟩ := tyI_spec hT
  have hlen : (a.eval z).cells.toList.length = n := by rw [hv.1, hn]
  have hst := run_storeCells_atM P (g.gb i) off ty'.ty (fzOf i vs.size ty') (a.eval z).cells.toList 0 vs w hh (fz_ok hq _ _) (by rw [hlen, Nat.add_zero]; exact Nat.le_trans hfit hs.1) hv.one
  rw [Nat.add_zero] at hst
  generalize hvs' : (vs.toList.take off ++ (a.eval z).cells.toList ++ vs.toList.drop (off + (a.eval z).cells.toList.length)).toArray = vs' at hst
  have hle := hs.1
  have hsize : vs'.size = vs.size := by rw [← hvs']; simp; simp at hlen; omega
  have hcl : (spl cs off y.cells).length = cs.length := by unfold spl; simp; omega
  have hcells : ∀ (k : Nat) x v, (spl cs off y.cells)[k]? = some x → vs'[k]? = some v → AR m g x v ∧ v.oneCell' = true := by
    have hc' : ACells m g cs (vs.toList.take cs.length) := ⟨by simp; omega, fun j t v h2 h3 => by
      rw [List.getElem?_take] at h3
      split at h3
      · exact hc j t v h2 (by simpa using h3)
      · cases h3⟩
    have hca : ACells m g (spl cs off y.cells) ((vs.toList.take cs.length).take off ++ ((a.eval z).cells.toList ++ (vs.toList.take cs.length).drop (off + y.cells.length))) := by
      unfold spl
      exact (hc'.take off).app (hv.app (hc'.drop _))
    intro k x v hx hv'
    refine hca.2 k x v hx ?_
    have hkl : k < cs.length := by rw [← hcl]; exact (List.getElem?_eq_some_iff.1 hx).1
    rw [← hvs'] at hv'
    simp only [List.getElem?_toArray] at hv'
    rw [hv.1, List.append_assoc] at hv'
    by_cases h1' : k < off
    · rw [List.getElem?_append_left (by simp; omega)] at hv'
      rw [List.getElem?_append_left (by simp; omega), List.getElem?_take_of_lt h1', List.getElem?_take_of_lt hkl]
      rw [List.getElem?_take_of_lt h1'] at hv'
      exact hv'
    · rw [List.getElem?_append_right (by simp; omega)] at hv' ⊢
      have e1 : (vs.toList.take off).length = off := by simp; omega
      have e2 : ((vs.toList.take cs.length).take off).length = off := by simp; omega
      rw [e1] at hv'
      rw [e2]
      by_cases h2' : k - off < y.cells.length
      · rw [List.getElem?_append_left (by rw [hv.1]; exact h2')] at hv' ⊢
        exact hv'
      · rw [List.getElem?_append_right (by rw [hv.1]; omega)] at hv' ⊢
        rw [List.getElem?_drop] at hv' ⊢
        rw [hv.1] at hv' ⊢
        rw [List.getElem?_take_of_lt (by omega)]
        exact hv'
  have hrun : (execOp a.eval o).run P w = .ok .skip (w.setRow (g.gb i) vs') := by
    have hsz' : (a.eval z).cells.size = i'.size := by rw [hsz]; simpa using hlen
    have hsv : (storeVar ty ⟨g.gb i, off, none⟩ (a.eval z)).run P w = .ok () (w.setRow (g.gb i) vs') := by
      generalize a.eval z = u at *
      simp [storeVar, sizeOf, typeInfo, hi', hsz']
      simpa [hsz'] using hst
    simp only [execOp, ho, h1, Instr.storeAt, Instr.sureAddr, Sem.run_bind, Sem.run_pure, Result.andThen_ok, hsv]
  unfold Oper.wp
  rw [hrun, Oper.upon_skip]
  refine ⟨undef, m, g, (by rw [hd]; try rfl), he.setAtW (ty := ty') hb (grown_setRow w (g.gb i) vs') ?_ ⟨by omega, fun h => by rw [hq] at h; cases h⟩ hcells, trivial, fun x u h => h⟩
  rw [ob_win hq, hsize]
  exact setRow_heap w (g.gb i) vs vs' ty'.ty _ hh
theorem mid_get {a b c : List A} {j : Nat} (h : b[j]? = some r) : (a ++ (b ++ c))[a.length + j]? = some r := by
  rw [List.getElem?_append_right (by omega), Nat.add_sub_cancel_left, List.getElem?_append_left (List.getElem?_eq_some_iff.1 h).1]; exact h
theorem mid_spl {a b c ys : List A} {j : Nat} (h : j + ys.length ≤ b.length) : spl (a ++ (b ++ c)) (a.length + j) ys = a ++ (spl b j ys ++ c) := by
  unfold spl
  rw [List.take_append, List.drop_append, List.take_append, List.drop_append]
  have h1 : a.length + j - a.length = j := by omega
  have h2 : a.length + j + ys.length - a.length = j + ys.length := by omega
  rw [h1, h2, List.take_of_length_le (by omega : a.length ≤ a.length + j), List.drop_of_length_le (by omega : a.length ≤ a.length + j + ys.length)]
  have h3 : j - b.length = 0 := by omega
  have h4 : j + ys.length - b.length = 0 := by omega
  rw [h3, h4]; simp
theorem po_index_mid {t : TypeId} {x ix : Operand} {i nn sz k : Nat} {n : Int} {ik : IntKind} {a : List A} (ha : a.length = k * sz) (ho : o.op = .indexAddr t x ix) (hx : ρ x = some (.sb i nn)) (hix : ρ ix = some (.t (.v (.int ik n)))) (hT : sliceSz P t = some sz) (hn : n = (k : Int)) (hk : k < nn) : PureOp P bx ow o ρ (.bp i a.length) := by
  rw [ha]; exact po_index_sb ho hx hix hT hn hk
theorem po_load_mid {ty : TypeId} {x : Operand} {i j n : Nat} {a b c : List A} (ho : o.op = .load ty x) (hx : ρ x = some (.bp i (a.length + j))) (hT : tyI P ty = some (false, n)) (hb : get bx i = some (a ++ (b ++ c))) (ht : b[j]? = some r) (hq : wnB i = true := by rfl) : PureOp P bx ow o ρ r :=
  po_load_wn ho hx hT hb (mid_get ht) hq
theorem e_store_mid {ty : TypeId} {x z : Operand} {y : A} {i j n : Nat} {ag : Bool} {a b c : List A} (ho : o.op = .store ty x z) (hd : o.dst = none) (hx : ρ x = some (.bp i (a.length + j))) (hz : ρ z = some y) (hk : y.okB = true)
    (hb : get bx i = some (a ++ (b ++ c))) (hT : tyI P ty = some (ag, n)) (hn : y.cells.length = n) (hf : Nat.ble (j + n) b.length = true) (hq : wnB i = true := by rfl) : EStep P bx ow o ρ .any ((i, a ++ (spl b j y.cells ++ c)) :: bx) ow := by
  have hfit := Nat.le_of_ble_eq_true hf
  rw [← mid_spl (by omega)]
  exact e_store_wn ho hd hx hz hk hb hT hn (by simp; omega) hq
end
section
variable {P : Program} {N : Nat} {Q : Exit → St → Prop} {ops : Array Oper} {rest : List Oper} {o : Oper} {tm : List (Nat × A)} {bx : List (Nat × List A)} {ow : List (Nat × Own)}
/-- the whole of an element written -/
theorem sops_store_mid {ty : TypeId} {x z : Operand} {y : A} {i n : Nat} {ag : Bool} {a b c : List A} (hg : GuardIs ops tm o true) (ho : o.op = .store ty x z) (hd : o.dst = none) (hx : evA tm x = some (.bp i a.length)) (hz : evA tm z = some y) (hk : y.okB = true)
    (hb : get bx i = some (a ++ (b ++ c))) (hT : tyI P ty = some (ag, n)) (hn : y.cells.length = n) (hl : b.length = n)
    (h : SOps P N ops Q rest ⟨tm, (i, a ++ (y.cells ++ c)) :: bx, ow⟩) (hq : wnB i = true := by rfl) : SOps P N ops Q (o :: rest) ⟨tm, bx, ow⟩ := by
  refine sops_store_wn hg ho hd hx hz hk hb hT hn (by simp; omega) ?_ hq
  have := mid_spl (a := a) (b := b) (c := c) (ys := y.cells) (j := 0) (by omega)
  rw [Nat.add_zero] at this
  rw [this]
  have h2 : spl b 0 y.cells = y.cells := by unfold spl; rw [hn, Nat.zero_add, ← hl]; simp
  rw [h2]; exact h
end
end Go.Proofs.Ytnclifgiakmmoaa.Sim

/- The document's copy of a policy: its rules are a row of the caller's own. -/
namespace Go.Proofs.Ytnclifgiakmmoaa.Pol
set_option linter.unusedVariables false
set_option linter.unusedSimpArgs false
open Go.RowKit Mem Sim Opn
def CL0 (p : Pl.Policy) (k : Nat) : St := ⟨[(1, .bp 1 0), (2, .bp 2 0), (3, .own 1003 ((p.rules.take k).map ruleT).length), (4, .t (.v (.int .i64 (k : Int))))], [(1, pcells p), (2, [.t (.v (.int .u64 0)), .t (.v (.string ⟨#[]⟩)), .t (.v (.int .u64 0)), .t (.v (.int .i64 0)), nil0])], [(1003, ⟨31, 3, (p.rules.take k).map ruleT⟩)]⟩
def polL (p : Pl.Policy) (i : Nat) : List A := [.t (.v (.int .u64 p.id)), .t (.v (.string p.ns)), .t (.v (.int .u64 p.service)), .t (.v (.int .i64 p.deny)), .own i (p.rules.map ruleT).length]
set_option maxRecDepth 100000 in
set_option maxHeartbeats 2000000 in
theorem copyL_ (p : Pl.Policy) (hf : FewP p) : LCalls Try.prog 10 [.t (.agg (polT p))] [] [] (.ag (polL p 1003)) [] [(1003, ⟨31, 3, p.rules.map ruleT⟩)] := by
  have hm1 : (p.rules.map ruleT).length = p.rules.length := List.length_map _
  have n1 := hf.n
  refine lcalls_of Try.func10 rfl rfl Try.ntmps10 rfl ?_
  repeat' (first | (refine rg 0 ?_; refine sbx ?_; refine sal str26 ?_; refine oN ?_) | (refine rg 1 ?_; refine oAs ?_; refine oN ?_) | (refine rg 2 ?_; refine oAs ?_; refine oN ?_) | refine gc ?_ | refine ct ?_ | refine cf ?_ | refine swp_cond rfl (fun hc => ?_) (fun hc => ?_) | refine rq rfl (.cell rfl rfl (tyT rfl) (vc (vc (vc (vc (vc .nil))))) rfl .nil) ?_)
  refine swp_for (CL0 p) (fun _ => True) p.rules.length ?_ trivial ?_
  · refine Weak.trans (weak_own0 (i := 1003) 31 3 (s := 3) rfl rfl) ?_
    exact (weak_sub (.cons rfl rfl rfl (.cons rfl rfl rfl (.cons rfl rfl rfl (.cons rfl rfl rfl .nil)))) (.cons rfl rfl rfl (.cons rfl rfl rfl .nil)) (.cons rfl rfl .nil))
  intro k hk _
  unfold CL0
  by_cases hlt : k < p.rules.length
  · have c1 := copyRule_ p.rules[k] (hf.r _ (List.getElem_mem hlt))
    have hsn := map_take_succ ruleT hlt
    have g1 : (((p.rules.take k).map ruleT).length + 1) * 72 ≤ 140737488355328 := by rw [List.length_map, List.length_take]; omega
    repeat' (first | refine for_next hlt (weak_sub (.cons rfl (by rfl) rfl (.cons rfl (by rfl) rfl (.cons rfl (by first | rfl | (rw [hsn]; try rfl)) rfl (.cons rfl (by rfl) rfl .nil)))) (.cons rfl (by rfl) rfl (.cons rfl (by rfl) rfl .nil)) (.cons rfl (by first | rfl | (rw [hsn]; try rfl)) .nil)) trivial | (refine rg 3 ?_; refine oMv ?_; refine oFb ?_; refine oLb ?_; (first | refine sp (po_len_own rfl rfl (tyS rfl)) ?_ | refine sp (pln rfl (tyS rfl)) ?_); refine oCm ?_; refine oN ?_) | (refine rg 5 ?_; refine oMv ?_; refine oFb ?_; refine oLb ?_; refine oMv ?_; (first | refine sp (ixo rfl) ?_ | refine sp (pix rfl (tyS rfl)) ?_); (first | refine sp (po_load_bx_agg rfl rfl (tyT rfl) rfl (vc (vc (vc .nil))) rfl) ?_ | refine sp (po_load_agg rfl rfl (tyT rfl) rfl rfl) ?_); refine oC (c1) rfl (ac .nil) ?_; refine sp (po_buildSlice rfl (tyE rfl) (dc (.nil _)) rfl rfl rfl) ?_; refine sap rfl (tyE rfl) ?_; refine oAs ?_; refine oN ?_) | (refine rg 4 ?_; refine oMv ?_; refine sp (xinc rfl) ?_; refine oAs ?_; refine oN ?_) | refine gc ?_ | refine ct ?_)
  · obtain rfl : k = p.rules.length := by omega
    rw [List.take_length]
    repeat' (first | (refine rg 3 ?_; refine oMv ?_; refine oFb ?_; refine oLb ?_; (first | refine sp (po_len_own rfl rfl (tyS rfl)) ?_ | refine sp (pln rfl (tyS rfl)) ?_); refine oCm ?_; refine oN ?_) | (refine rg 6 ?_; refine oMv ?_; refine oFb ?_; refine oS ?_; refine oN ?_) | (refine rg 7 ?_; (first | refine sp (po_load_bx_agg rfl rfl (tyT rfl) rfl (vc (vc (vc (vc (vc .nil))))) rfl) ?_ | refine sp (po_load_agg rfl rfl (tyT rfl) rfl rfl) ?_ | refine sp (lda rfl) ?_ | refine sp (po_load_bx_ag rfl rfl (tyT rfl) rfl rfl rfl rfl) ?_); refine oS ?_; refine oN ?_) | refine gc ?_ | refine ct ?_ | refine cf ?_ | refine swp_cond rfl (fun hc => ?_) (fun hc => ?_) | refine retl (by exact .inr rfl) rfl (.cell rfl rfl (tyT rfl) rfl rfl .nil) ?_ rfl .nil (.cons rfl (by rfl) .nil))
    all_goals rfl
end Go.Proofs.Ytnclifgiakmmoaa.Pol
