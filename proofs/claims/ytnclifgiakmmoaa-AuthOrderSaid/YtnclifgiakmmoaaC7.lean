/- Merged by bundles.py: SimTab, Post, Open, PlMatch, WMatch, WTerm, OpenTerm. -/
import Derived.Test.YtnclifgiakmmoaaC6
import Derived.Test.YtnclifgiakmmoaaC0
import Derived.ProofKit
import Derived.OpenShut
import Derived.Lib.SmallJoins
import Derived.ShutString
import Derived.ChangeSame
import Derived.Deep.Slices
/- The program's types: cells, fields, elements. (Printed by mk_tab.py.) -/

namespace Go.Proofs.Ytnclifgiakmmoaa.Sim
open Go.RowKit Mem
set_option linter.unusedVariables false
set_option maxRecDepth 100000
def tabT : List (Nat × Bool × Nat) := [(1, false, 1), (2, false, 1), (3, false, 1), (4, false, 1), (5, false, 1), (6, false, 1), (7, true, 4), (8, true, 4), (9, false, 1), (10, false, 1), (11, false, 1), (12, false, 1), (13, true, 2), (14, true, 2), (15, false, 1), (16, false, 1), (17, false, 1), (18, true, 1), (19, true, 1), (21, false, 1), (22, false, 1), (23, false, 1), (24, false, 1), (25, true, 5), (26, true, 5), (27, false, 1), (28, false, 1), (29, false, 1), (30, true, 3), (31, true, 3), (32, true, 2), (33, true, 2), (34, false, 1), (35, true, 3), (36, true, 3), (37, false, 1), (38, false, 1), (39, true, 7), (40, true, 7), (41, false, 1), (42, false, 1), (43, false, 1), (44, false, 1), (46, false, 1), (47, false, 1), (48, false, 1), (49, false, 1), (50, false, 1), (51, false, 1), (52, false, 1), (53, false, 1), (54, true, 3), (55, true, 3), (56, false, 1), (57, true, 4), (58, true, 4), (59, true, 2), (60, true, 2), (61, false, 1), (62, true, 2), (63, true, 2), (64, false, 1), (66, false, 1), (67, false, 1), (68, false, 1), (69, true, 2), (70, true, 2), (71, false, 1), (72, false, 1), (73, false, 1), (74, false, 1), (75, false, 1), (76, false, 1), (77, false, 1), (78, false, 1), (79, false, 1), (80, false, 1), (81, false, 1), (83, false, 1), (84, false, 1), (85, false, 1), (86, true, 2), (87, true, 2), (88, false, 1), (89, false, 1), (90, false, 1), (91, false, 1), (92, false, 1), (93, false, 1), (94, false, 1), (95, false, 1), (96, false, 1), (97, false, 1), (98, false, 1), (99, false, 1), (100, false, 1), (101, false, 1), (102, false, 1), (103, false, 1), (104, false, 1), (105, false, 1), (106, false, 1), (107, false, 1), (108, false, 1), (109, true, 3), (110, true, 3), (111, true, 15), (112, false, 1), (113, false, 1), (114, true, 4), (115, true, 4), (116, true, 0), (117, true, 0), (118, true, 0), (119, false, 1), (120, false, 1), (121, false, 1), (122, false, 1), (123, false, 1), (124, false, 1), (125, false, 1), (126, true, 11), (127, true, 11), (128, false, 1)]
def tabS : List (Nat × Nat) := [(22, 5), (24, 3), (27, 3), (28, 4), (29, 2), (37, 2), (38, 1), (52, 2), (53, 2), (56, 1), (68, 1), (93, 1)]
def tabR : List Nat := [9, 10, 11]
def tabF : List (Nat × Nat × Nat) := [(7, 0, 0), (7, 1, 1), (7, 2, 2), (7, 3, 3), (8, 0, 0), (8, 1, 1), (8, 2, 2), (8, 3, 3), (13, 0, 0), (13, 1, 1), (14, 0, 0), (14, 1, 1), (18, 0, 0), (19, 0, 0), (25, 0, 0), (25, 1, 1), (25, 2, 2), (25, 3, 3), (25, 4, 4), (26, 0, 0), (26, 1, 1), (26, 2, 2), (26, 3, 3), (26, 4, 4), (30, 0, 0), (30, 1, 1), (30, 2, 2), (31, 0, 0), (31, 1, 1), (31, 2, 2), (32, 0, 0), (32, 1, 1), (33, 0, 0), (33, 1, 1), (35, 0, 0), (35, 1, 2), (36, 0, 0), (36, 1, 2), (39, 0, 0), (39, 1, 1), (39, 2, 2), (39, 3, 3), (39, 4, 4), (39, 5, 5), (39, 6, 6), (40, 0, 0), (40, 1, 1), (40, 2, 2), (40, 3, 3), (40, 4, 4), (40, 5, 5), (40, 6, 6), (54, 0, 0), (54, 1, 1), (54, 2, 2), (55, 0, 0), (55, 1, 1), (55, 2, 2), (57, 0, 0), (57, 1, 1), (57, 2, 2), (57, 3, 3), (58, 0, 0), (58, 1, 1), (58, 2, 2), (58, 3, 3), (59, 0, 0), (59, 1, 1), (60, 0, 0), (60, 1, 1), (62, 0, 0), (62, 1, 1), (63, 0, 0), (63, 1, 1), (69, 0, 0), (69, 1, 1), (70, 0, 0), (70, 1, 1), (86, 0, 0), (86, 1, 1), (87, 0, 0), (87, 1, 1), (109, 0, 0), (109, 1, 1), (109, 2, 2), (110, 0, 0), (110, 1, 1), (110, 2, 2), (114, 0, 0), (114, 1, 1), (114, 2, 2), (114, 3, 3), (115, 0, 0), (115, 1, 1), (115, 2, 2), (115, 3, 3), (126, 0, 0), (126, 1, 1), (126, 2, 2), (126, 3, 3), (126, 4, 4), (126, 5, 5), (126, 6, 6), (126, 7, 7), (126, 8, 8), (126, 9, 9), (126, 10, 10), (127, 0, 0), (127, 1, 1), (127, 2, 2), (127, 3, 3), (127, 4, 4), (127, 5, 5), (127, 6, 6), (127, 7, 7), (127, 8, 8), (127, 9, 9), (127, 10, 10)]
def tabE : List (Nat × Nat × Nat × Nat) := [(22, 26, 5, 64), (24, 31, 3, 72), (27, 55, 3, 72), (28, 58, 4, 96), (29, 60, 2, 40), (37, 63, 2, 32), (38, 5, 1, 1), (52, 70, 2, 24), (53, 87, 2, 16), (56, 3, 1, 8), (68, 52, 1, 24), (93, 9, 1, 16)]
def allB {α : Type} (p : α → Bool) : List α → Bool
  | [] => true
  | x :: r => p x && allB p r
theorem allB_mem {α : Type} {p : α → Bool} : ∀ {l : List α}, allB p l = true → ∀ x ∈ l, p x = true
  | [], _, x, h => by cases h
  | y :: r, h, x, hx => by
    simp only [allB, Bool.and_eq_true] at h
    rcases List.mem_cons.1 hx with rfl | hx
    · exact h.1
    · exact allB_mem h.2 x hx
def lk {β : Type} : List (Nat × β) → Nat → Option β
  | [], _ => none
  | (a, b) :: r, n => bif Nat.beq a n then some b else lk r n
theorem lk_mem {β : Type} : ∀ {l : List (Nat × β)} {n : Nat} {b : β}, lk l n = some b → (n, b) ∈ l
  | [], n, b, h => by cases h
  | (a, b') :: r, n, b, h => by
    unfold lk at h
    cases hb : Nat.beq a n with
    | true => rw [hb] at h; injection h with h; subst h; rw [Nat.eq_of_beq_eq_true hb]; exact List.mem_cons_self
    | false => rw [hb] at h; exact List.mem_cons_of_mem _ (lk_mem h)
def lk2 {β : Type} : List (Nat × Nat × β) → Nat → Nat → Option β
  | [], _, _ => none
  | (a, c, b) :: r, n, k => bif Nat.beq a n then (bif Nat.beq c k then some b else lk2 r n k) else lk2 r n k
theorem lk2_mem {β : Type} : ∀ {l : List (Nat × Nat × β)} {n k : Nat} {b : β}, lk2 l n k = some b → (n, k, b) ∈ l
  | [], n, k, b, h => by cases h
  | (a, c, b') :: r, n, k, b, h => by
    unfold lk2 at h
    cases hb : Nat.beq a n with
    | true =>
      rw [hb] at h
      cases hc : Nat.beq c k with
      | true => rw [hc] at h; injection h with h; subst h; rw [Nat.eq_of_beq_eq_true hb, Nat.eq_of_beq_eq_true hc]; exact List.mem_cons_self
      | false => rw [hc] at h; exact List.mem_cons_of_mem _ (lk2_mem h)
    | false => rw [hb] at h; exact List.mem_cons_of_mem _ (lk2_mem h)
theorem okT : allB (fun x => decide (tyI Try.prog x.1 = some x.2)) tabT = true := by kernel_rfl
theorem okS : allB (fun x => decide (sliceSz Try.prog x.1 = some x.2)) tabS = true := by kernel_rfl
theorem okR : allB (fun x => isStr Try.prog x) tabR = true := by kernel_rfl
theorem okF : allB (fun x => decide (fieldOff Try.prog x.1 x.2.1 = some x.2.2)) tabF = true := by kernel_rfl
theorem okE : allB (fun x => decide (sliceE Try.prog x.1 = some x.2)) tabE = true := by kernel_rfl
theorem tyE {t : Nat} {x : Nat × Nat × Nat} (h : lk tabE t = some x) : sliceE Try.prog t = some x := of_decide_eq_true (allB_mem okE _ (lk_mem h))
theorem str26 : strI Try.prog 26 = some ([(0, 1), (1, 1), (2, 1), (3, 1), (4, 1)], [.int .u64 0, .string ⟨#[]⟩, .int .u64 0, .int .i64 0, .slice none 0 0]) := by kernel_rfl
theorem str31 : strI Try.prog 31 = some ([(0, 1), (1, 1), (2, 1)], [.slice none 0 0, .slice none 0 0, .slice none 0 0]) := by kernel_rfl
theorem str55 : strI Try.prog 55 = some ([(0, 1), (1, 1), (2, 1)], [.slice none 0 0, .slice none 0 0, .slice none 0 0]) := by kernel_rfl
theorem str58 : strI Try.prog 58 = some ([(0, 1), (1, 1), (2, 1), (3, 1)], [.slice none 0 0, .slice none 0 0, .slice none 0 0, .slice none 0 0]) := by kernel_rfl
theorem str60 : strI Try.prog 60 = some ([(0, 1), (1, 1)], [.string ⟨#[]⟩, .slice none 0 0]) := by kernel_rfl
theorem tyT {t : Nat} {x : Bool × Nat} (h : lk tabT t = some x) : tyI Try.prog t = some x := of_decide_eq_true (allB_mem okT _ (lk_mem h))
theorem tyS {t n : Nat} (h : lk tabS t = some n) : sliceSz Try.prog t = some n := of_decide_eq_true (allB_mem okS _ (lk_mem h))
theorem tyF {t f k : Nat} (h : lk2 tabF t f = some k) : fieldOff Try.prog t f = some k := of_decide_eq_true (allB_mem okF _ (lk2_mem h))
theorem mixed : Try.prog.follows .mixedOrders = true := by kernel_rfl
end Go.Proofs.Ytnclifgiakmmoaa.Sim

/- The rows' last step: arguments opened, the row shut where only new memory was made. -/
namespace Go.Proofs.Ytnclifgiakmmoaa.Post
set_option linter.unusedVariables false
set_option linter.unusedSimpArgs false
open Go.RowKit Go.WideShapes Go.ChangeShapes Go.Joins Mem
section
variable {H : Type} {enc : TypeId × Value → H} {P : Program}
theorem post_of_below {f : Func} {s : ChangeSpec} {apart fresh handsOn again : Bool} {W W' : World} {args : Array Value} {v : Value} {ds gs : List (DataW H)} {before pa pv : List MemPlace}
    (hW : DataW.Whole enc P f.params.toList s.vars apart W args.toList ds gs before)
    (hres : ∀ (b : Nat) (sp : Nat → Bool) (hd : Bool), DataW.TrodAll enc P W' b sp hd f.resultTypes.toList (v.resultList f.resultTypes.size) (s.fn H (ds ++ gs)).results [])
    (hargs : ∀ sp : Nat → Bool, (∀ p ∈ before, sp p.block = true) → DataW.TrodAll enc P W' 0 sp true f.params.toList args.toList (s.fn H (ds ++ gs)).args pa)
    (hvars : ∀ sp : Nat → Bool, (∀ p ∈ before, sp p.block = true) → DataW.TrodVars enc P W' sp s.vars (s.fn H (ds ++ gs)).vars pv)
    (hps : before = pa ++ pv) (hb : Below W.heap.size W W')
    (hok : ∀ (j : Nat) (t : TypeId) (r : Value), f.resultTypes[j]? = some t → (v.resultList f.resultTypes.size)[j]? = some r → Value.okWide P W' .any 0 t r) :
    s.post enc P f apart fresh handsOn again W args v W' := by
  have hlt : ∀ p ∈ before, p.block < W.heap.size := fun p hp => hW.lt p hp
  have hold : ∀ p ∈ before, (fun b => decide (b < W.heap.size)) p.block = true := fun p hp => by simpa using hlt p hp
  refine ⟨ds, gs, before, [], pa, pv, hW, hres _ _ _, hargs _ hold, hvars _ hold, World.keptBut_mono (fun p hp => ⟨hp, ?_⟩) (hb.frame (· ∈ before)), fun _ => ?_⟩
  · rw [hps, List.mem_append] at hp
    exact Or.inr hp
  · obtain ⟨_, _, _, _, _, hz, hn⟩ := hW
    refine ⟨hok, _, _, ([] ++ pa) ++ pv, ⟨[] ++ pa, pv, trodAll_append (hargs _ (fun _ _ => rfl)) (hres _ _ _), hvars _ (fun _ _ => rfl), rfl, ?_, ?_⟩, ?_⟩
    · intro b off hp
      have hin : MemPlace.cell b off ∈ before := by rw [hps]; simpa using hp
      rw [hb.frozen (hlt _ hin)]
      exact hz b off hin
    · intro ha
      have := hn ha
      rw [hps] at this
      simpa using this
    · intro p hp _
      rw [hps]
      simpa using hp
theorem trodAll_stays {W W' : World} {sp' : Nat → Bool} (hl : laidOutB P = true) : ∀ {ts : List TypeId} {vs : List Value} {ds : List (DataW H)} {ps : List MemPlace}, (∀ t ∈ ts, P.readableRec t = true ∧ t < P.types.size) →
    DataW.TrodAll enc P W 0 (fun _ => true) true ts vs ds ps → (∀ p ∈ ps, W.sameAt W' p) → (∀ p ∈ ps, sp' p.block = true) → DataW.TrodAll enc P W' 0 sp' true ts vs ds ps
  | [], vs, ds, ps, _, h, _, _ => by obtain ⟨rfl, rfl, rfl⟩ := trodAll_nil h; exact trodAll_mk0
  | t :: ts, vs, ds, ps, hr, h, hs, hsp => by
    obtain ⟨v, vs', d, ds', p, q, rfl, rfl, rfl, h0, r0⟩ := trodAll_cons h
    obtain ⟨hr1, hr2⟩ := hr t (by simp)
    exact trodAll_cons_mk (WideElems.Trod_stays hl hr1 hr2 h0 (fun x hx => hs x (by simp [hx])) (fun x hx => hsp x (by simp [hx])))
      (trodAll_stays hl (fun t ht => hr t (by simp [ht])) r0 (fun x hx => hs x (by simp [hx])) (fun x hx => hsp x (by simp [hx])))

/-- A LAW's END: it returned true, and nothing that was there has turned. -/
theorem law_post {f : Func} {s : ChangeSpec} {apart fresh handsOn again : Bool} {W W' : World} {args : Array Value} {ds gs : List (DataW H)} {before : List MemPlace} {tb : TypeId}
    (hl : laidOutB P = true) (hr : ∀ t ∈ f.params.toList, P.readableRec t = true ∧ t < P.types.size) (hvars : s.vars = []) (hb1 : P.underlying tb = some .bool) (hres : f.resultTypes = #[tb])
    (hfn : gs = [] → s.fn H (ds ++ gs) = { results := [.lit (.bool true)], args := ds })
    (hW : DataW.Whole enc P f.params.toList s.vars apart W args.toList ds gs before) (hb : Lo W W') : s.post enc P f apart fresh handsOn again W args (.bool true) W' := by
  have hW' := hW
  obtain ⟨p, q, hA, hV, rfl, _, _⟩ := hW
  rw [hvars] at hV
  obtain ⟨rfl, rfl⟩ := trodVars_none hV
  have hf := hfn rfl
  have hlt : ∀ x ∈ p, x.block < W.heap.size := fun x hx => hW'.lt x (by simp [hx])
  refine post_of_below (pa := p) (pv := []) hW' ?_ ?_ ?_ rfl hb ?_
  · intro b sp hd
    rw [hf, hres]
    exact trodAll_mk1 (shut_bool hb1 _)
  · intro sp hsp
    rw [hf]
    exact trodAll_stays hl hr hA (fun x hx => Below.same hb (hlt x hx)) (fun x hx => hsp x (by simp [hx]))
  · intro sp _
    rw [hf, hvars]
    rfl
  · exact ok_one hres rfl (okWide_bool_mk hb1 _)
end
theorem Try.own : ownKnob Try.prog.godebug = none := by kernel_rfl
theorem Try.laidOut : laidOutB Try.prog = true := by kernel_rfl
theorem Try.cellsTerm : Try.prog.cellsOf 70 = 2 := by kernel_rfl
end Go.Proofs.Ytnclifgiakmmoaa.Post

/- Arguments opened: what a reading says of the cells, type by type. -/
namespace Go.Proofs.Ytnclifgiakmmoaa.Opn
set_option linter.unusedVariables false
set_option linter.unusedSimpArgs false
open Go.RowKit Go.WideShapes Go.ChangeShapes Go.Joins Mem

/-- a reading at type t gives R -/
def Opens {α : Type} (t : TypeId) (R : Rel α) : Prop :=
  ∀ (H : Type) (enc : TypeId × Value → H) (w : World) (base : Nat) (spare : Nat → Bool) (held : Bool) (fuel : Nat) (cs : List Value) (x : DataW H × List MemPlace), DataW.trod enc Try.prog w base spare held fuel t cs = some x → ∃ y, R w.heap.size w y cs

theorem slice_opens {α : Type} [Inhabited α] {t e sz : Nat} {R : Rel α} (ht : Try.prog.underlying t = some (.slice e)) (hC : Try.prog.cellsOf e = sz) (hsz : 0 < sz) (hR : Opens e R)
    {H : Type} {enc : TypeId × Value → H} {w : World} {base : Nat} {spare : Nat → Bool} {held : Bool} {fuel : Nat} {cs : List Value} {x : DataW H × List MemPlace} (h : DataW.trod enc Try.prog w base spare held fuel t cs = some x) :
    ∃ (A : Option Addr) (cap : Nat) (xs : List α), cs = [.slice A xs.length cap] ∧ SliceAt R sz w.heap.size w A xs ∧ xs.length ≤ cap ∧ cap ≤ maxLen := by
  rcases Go.Deep.open_slice ht h with ⟨hcs, _⟩ | ⟨a, len, cap, m, n, D, Pl, hcs, hb, hl, hm, hmm, hx, hi⟩
  · exact ⟨none, 0, [], hcs, SliceAt.nil, Nat.le_refl _, Nat.zero_le _⟩
  · have hlm : len ≤ m := by rw [hmm]; split <;> omega
    have hex : ∀ i, i < len → ∃ (y : α) (cs' : List Value), w.cells? base (a.add (i * sz)) sz = some cs' ∧ R w.heap.size w y cs' := by
      intro i hil
      obtain ⟨cs', hc, ht'⟩ := hi i (by omega)
      rw [hC] at hc
      obtain ⟨y, hy⟩ := hR H enc w base spare held n cs' _ ht'
      exact ⟨y, cs', hc, hy⟩
    have hf : ∃ f : Nat → α, ∀ i, i < len → ∃ cs', w.cells? base (a.add (i * sz)) sz = some cs' ∧ R w.heap.size w (f i) cs' := by
      refine ⟨fun i => if h : i < len then (hex i h).choose else default, fun i hil => ?_⟩
      simp only [dif_pos hil]
      exact (hex i hil).choose_spec
    obtain ⟨f, hf⟩ := hf
    refine ⟨some a, cap, (List.range len).map f, by simpa using hcs, ?_, by simpa using hl, hm⟩
    intro k y hk
    have hkl : k < len := by
      rcases Nat.lt_or_ge k len with h' | h'
      · exact h'
      · rw [List.getElem?_eq_none (by simpa using h')] at hk; cases hk
    rw [List.getElem?_map, List.getElem?_range hkl] at hk
    simp at hk; subst hk
    obtain ⟨cs', hc, hr⟩ := hf k hkl
    obtain ⟨_, hlen, hat⟩ := World.cells?_some hc
    have h0 : w.cell? ((a.add (k * sz)).add 0) = some (cs'[0]'(by omega)) := by rw [hat 0 hsz, List.getElem?_eq_getElem]
    obtain ⟨b, off, spot⟩ := a
    have hspot : k = 0 → spot = none := by
      intro hk0; subst hk0
      simp [Addr.add] at h0
      cases spot with
      | none => rfl
      | some q =>
        simp only [World.cell?] at h0
        split at h0
        · simp at h0
        · cases h0
    -- the row's address bears no spot: its first element shows it
    have hsp : spot = none := by
      rcases Nat.eq_zero_or_pos k with hk0 | hk0
      · exact hspot hk0
      · obtain ⟨cs0, hc0, _⟩ := hf 0 (by omega)
        obtain ⟨_, hlen0, hat0⟩ := World.cells?_some hc0
        have h00 : w.cell? (((⟨b, off, spot⟩ : Addr).add (0 * sz)).add 0) = some (cs0[0]'(by omega)) := by rw [hat0 0 hsz, List.getElem?_eq_getElem]
        simp [Addr.add] at h00
        cases spot with
        | none => rfl
        | some q =>
          simp only [World.cell?] at h00
          split at h00
          · simp at h00
          · cases h00
    subst hsp
    have hadd : ∀ j, ((⟨b, off, none⟩ : Addr).add (k * sz)).add j = ⟨b, off + (k * sz + j), none⟩ := by
      intro j
      rw [Go.Deep.add_add, addr_add]
    refine ⟨b, off, cs', rfl, ?_, hlen, ?_, hr⟩
    · have := World.block_lt_of_cell? w _ h0
      rw [hadd] at this
      exact this
    · intro j v hj
      have hjl : j < sz := by rw [← hlen]; exact (List.getElem?_eq_some_iff.1 hj).1
      rw [← hadd, hat j hjl, hj]
end Go.Proofs.Ytnclifgiakmmoaa.Opn

/- Plain functions and laws for chapter 7 (terms): no program in sight. -/
namespace Go.Proofs.Ytnclifgiakmmoaa.Pl
set_option linter.unusedVariables false
set_option linter.unusedSimpArgs false

abbrev Bs := List UInt8

def okc (c : UInt8) : Bool := decide (33 ≤ c.toNat) && decide (c.toNat ≤ 126) && !(c.toNat == 42) && !(c.toNat == 44)
def may (k : Int) (l : Bs) : Bool := l.all okc && (if k = 4 then l.isEmpty else decide (1 ≤ k) && decide (k ≤ 3) && decide (1 ≤ l.length) && decide (l.length ≤ 64))
def hasPre (s p : Bs) : Bool := decide (p.length ≤ s.length) && (s.take p.length == p)
def hasSuf (s p : Bs) : Bool := decide (p.length ≤ s.length) && (s.drop (s.length - p.length) == p)
def hits (k : Int) (l s : Bs) : Bool := if k = 1 then s == l else if k = 2 then hasPre s l else if k = 3 then hasSuf s l else !s.isEmpty
def matches_ (k : Int) (l s : Bs) : Bool := may k l && hits k l s
structure Term where
  k : Int
  s : ByteArray
/- may -/
theorem may_kinds {k : Int} {l : Bs} (h : may k l = true) : k = 1 ∨ k = 2 ∨ k = 3 ∨ k = 4 := by
  unfold may at h
  by_cases h4 : k = 4
  · omega
  · simp [h4] at h; omega
/- lists -/
theorem matches_of_may {k : Int} {l s : Bs} (h : may k l = true) : matches_ k l s = hits k l s := by simp [matches_, h]
end Go.Proofs.Ytnclifgiakmmoaa.Pl

/- The walks of chapter 7's functions. -/
namespace Go.Proofs.Ytnclifgiakmmoaa.WMatch
set_option linter.unusedVariables false
set_option linter.unusedSimpArgs false
open Go.RowKit Mem

theorem extract_list (s : ByteArray) (a b : Nat) : (s.extract a b).toList = (s.toList.drop a).take (b - a) := by
  have h : s = ByteArray.mk s.toList.toArray := by rw [ByteArray.toList_eq]
  conv => lhs; rw [h, ByteArray.extract_mk]
  rw [ByteArray.toList_mk]
theorem pre_val (s p : ByteArray) : Pl.hasPre s.toList p.toList = (decide (p.size ≤ s.size) && ((s.extract 0 p.size).toList == p.toList)) := by
  unfold Pl.hasPre
  rw [extract_list]
  simp [toList_len]
theorem suf_val (s p : ByteArray) : Pl.hasSuf s.toList p.toList = (decide (p.size ≤ s.size) && ((s.extract (s.size - p.size) s.size).toList == p.toList)) := by
  unfold Pl.hasSuf
  rw [extract_list]
  simp only [toList_len]
  by_cases h : p.size ≤ s.size
  · rw [List.take_of_length_le (by rw [List.length_drop, toList_len]; omega)]
  · simp [h]
theorem okc_false {c : UInt8} (h : (((c.toNat : Int) < 33 ∨ 126 < (c.toNat : Int)) ∨ ((c.toNat : Int) == 42) = true) ∨ ((c.toNat : Int) == 44) = true) : Pl.okc c = false := by
  simp only [beq_iff_eq] at h
  simp [Pl.okc]; omega
theorem okc_true {c : UInt8} (h : ((33 ≤ (c.toNat : Int) ∧ (c.toNat : Int) ≤ 126) ∧ ((c.toNat : Int) == 42) = false) ∧ ((c.toNat : Int) == 44) = false) : Pl.okc c = true := by
  simp only [beq_eq_false_iff_ne] at h
  simp [Pl.okc]; omega
theorem may_bad (k : Int) {s : ByteArray} {n : Nat} (hn : n < s.size) (h : Pl.okc s[n] = false) : Pl.may k s.toList = false := by
  unfold Pl.may; rw [all_bad hn h]; simp
theorem may_end (k : Int) {s : ByteArray} (h : s.toList.all Pl.okc = true) : Pl.may k s.toList = (if k = 4 then s.toList.isEmpty else decide (1 ≤ k) && decide (k ≤ 3) && decide (1 ≤ s.size) && decide (s.size ≤ 64)) := by
  unfold Pl.may; rw [h, toList_len]; simp

theorem hasPrefix' (s p : ByteArray) (w : World) (hs : s.size ≤ maxLen) (hp : p.size ≤ maxLen) :
    Calls Try.prog 65 #[.string s, .string p] w fun e w' => e = .returned (.bool (Pl.hasPre s.toList p.toList)) ∧ w = w' := by
  unfold maxLen at hs hp
  have hv := pre_val s p
  by_cases h : p.size ≤ s.size
  all_goals
    rw [hv]
    clear hv
    go_enter Try.func65, Try.ntmps65
    go_wp2
    go_ret
    exact ⟨ret_bool (by simp [h]), rfl⟩

set_option maxHeartbeats 400000 in
theorem may (k : Int) (s : ByteArray) (w : World) (hs : s.size ≤ maxLen) :
    Calls Try.prog 59 #[.agg #[.int .i64 k, .string s]] w fun e w' => e = .returned (.bool (Pl.may k s.toList)) ∧ Lo w w' := by
  unfold maxLen at hs
  go_enter Try.func59, Try.ntmps59
  go_wp2
  go_loop [3, 4] (fun i c => ∃ n : Nat, n ≤ s.size ∧ i = .int .i64 n ∧ (s.toList.take n).all Pl.okc = true) (fun i _ => s.size - (intOf i).toNat)
  case atStart => exact ⟨0, Nat.zero_le _, rfl, rfl⟩
  case round =>
    obtain ⟨n, hn, rfl, hall⟩ := hrel
    have HA := Lib.hid hall
    clear hall
    by_cases hlt : n < s.size
    · go_wp2
      all_goals first
        | (go_ret
           exact ⟨ret_bool (by rw [may_bad k hlt (okc_false (by first | assumption | (simp only [beq_iff_eq]; omega)))]), (by repeat (first | exact Lo.refl _ | assumption | refine Lo.drew ?_ | refine Lo.alloc ?_ _ | refine Lo.setCell ?_ (by first | (dsimp only; omega) | (simp; omega) | (simp; done)) _ | refine Lo.trans ?_ (by assumption)))⟩)
        | (go_round
           case rel => exact ⟨n + 1, by omega, by go_num, all_snoc HA.out hlt (okc_true (by assumption))⟩
           case measure => simp [intOf]; omega)
        | skip
      go_ways
    · have HF : s.toList.all Pl.okc = true := by have := HA.out; rwa [take_full s hlt] at this
      have HG := Lib.hid (may_end k HF)
      clear HF
      go_wp2
      all_goals first
        | (go_ret
           refine ⟨ret_bool ?_, (by repeat (first | exact Lo.refl _ | assumption | refine Lo.drew ?_ | refine Lo.alloc ?_ _ | refine Lo.setCell ?_ (by first | (dsimp only; omega) | (simp; omega) | (simp; done)) _ | refine Lo.trans ?_ (by assumption)))⟩
           rw [HG.out]
           first
             | (have h4 : k = 4 := by simpa using (show (k == 4) = true by assumption)
                rw [if_pos h4]; done)
             | (have h4 : k = 4 := by simpa using (show (k == 4) = true by assumption)
                rw [if_pos h4]; simp; done)
             | (have h4 : ¬ k = 4 := by simpa using (show (k == 4) = false by assumption)
                rw [if_neg h4, Bool.eq_iff_iff]; simp; omega))

theorem hasSuffix' (s p : ByteArray) (w : World) (hs : s.size ≤ maxLen) (hp : p.size ≤ maxLen) :
    Calls Try.prog 66 #[.string s, .string p] w fun e w' => e = .returned (.bool (Pl.hasSuf s.toList p.toList)) ∧ w = w' := by
  unfold maxLen at hs hp
  have hv := suf_val s p
  by_cases h : p.size ≤ s.size
  all_goals
    rw [hv]
    clear hv
    go_enter Try.func66, Try.ntmps66
    go_wp2
    go_ret
    exact ⟨ret_bool (by simp [h]), rfl⟩
theorem hasPrefix (s p : ByteArray) (w : World) (hs : s.size ≤ maxLen) (hp : p.size ≤ maxLen) :
    Calls Try.prog 62 #[.string s, .string p] w fun e w' => e = .returned (.bool (Pl.hasPre s.toList p.toList)) ∧ w = w' := by
  go_enter Try.func62, Try.ntmps62
  go_wp2_with (go_at_call 65; refine (hasPrefix' _ _ _ hs hp).mono ?_; rintro e w' ⟨rfl, rfl⟩)
  go_ret
  exact ⟨rfl, rfl⟩
theorem hasSuffix (s p : ByteArray) (w : World) (hs : s.size ≤ maxLen) (hp : p.size ≤ maxLen) :
    Calls Try.prog 63 #[.string s, .string p] w fun e w' => e = .returned (.bool (Pl.hasSuf s.toList p.toList)) ∧ w = w' := by
  go_enter Try.func63, Try.ntmps63
  go_wp2_with (go_at_call 66; refine (hasSuffix' _ _ _ hs hp).mono ?_; rintro e w' ⟨rfl, rfl⟩)
  go_ret
  exact ⟨rfl, rfl⟩
theorem kinds1 (s p : ByteArray) (w : World) :
    Calls Try.prog 61 #[.string s, .string p] w fun e w' => e = .returned (.bool (s.toList == p.toList)) ∧ w = w' := by
  go_enter Try.func61, Try.ntmps61
  go_wp2
  go_ret
  exact ⟨rfl, rfl⟩
theorem kinds2 (s p : ByteArray) (w : World) :
    Calls Try.prog 64 #[.string s, .string p] w fun e w' => e = .returned (.bool (!s.toList.isEmpty)) ∧ w = w' := by
  go_enter Try.func64, Try.ntmps64
  go_wp2
  go_ret
  exact ⟨ret_bool (by simp), rfl⟩
def kindsV : Value := .agg #[.nilFunc, .string ⟨#[]⟩, .string ⟨#[]⟩, .func (.func 61) #[] #[], .string ⟨#[]⟩, .string ⟨#[]⟩, .func (.func 62) #[] #[], .string ⟨#[]⟩, .string ⟨#[42]⟩, .func (.func 63) #[] #[], .string ⟨#[42]⟩, .string ⟨#[]⟩, .func (.func 64) #[] #[], .string ⟨#[42]⟩, .string ⟨#[]⟩]
set_option maxHeartbeats 400000 in
theorem kinds (w : World) :
    Calls Try.prog 60 #[] w fun e w' => e = .returned kindsV ∧ Lo w w' := by
  go_enter Try.func60, Try.ntmps60
  go_wp2
  go_outline
  exact bodyPost_ret (v := kindsV) (by simp [results, Try.results60, go_sem, kindsV]) rfl ⟨rfl, (by repeat (first | exact Lo.refl _ | assumption | refine Lo.drew ?_ | refine Lo.alloc ?_ _ | refine Lo.setCell ?_ (by first | (dsimp only; omega) | (simp; omega) | (simp; done)) _ | refine Lo.trans ?_ (by assumption)))⟩
end Go.Proofs.Ytnclifgiakmmoaa.WMatch

/- Rows of terms in memory. -/
namespace Go.Proofs.Ytnclifgiakmmoaa.WMatch
set_option linter.unusedVariables false
set_option linter.unusedSimpArgs false
open Go.RowKit Mem BigFrame

def TermR : Rel Pl.Term := fun _ _ t cs => cs = [.int .i64 t.k, .string t.s] ∧ t.s.size ≤ maxLen
theorem TermR.kept : Kept TermR := fun _ _ _ _ _ _ h _ _ => h
def Terms (B : Nat) (w : World) (A : Option Addr) (ts : List Pl.Term) : Prop := SliceAt TermR 2 B w A ts
theorem Terms.at_ {B : Nat} {w : World} {A : Option Addr} {ts : List Pl.Term} (h : Terms B w A ts) {k : Nat} (hk : k < ts.length) :
    ∃ b off, A = some ⟨b, off, none⟩ ∧ b < B ∧ w.cell? ⟨b, off + k * 2, none⟩ = some (.int .i64 ts[k].k) ∧ w.cell? ⟨b, off + k * 2 + 1, none⟩ = some (.string ts[k].s) ∧ ts[k].s.size ≤ maxLen := by
  obtain ⟨b, off, cs, hA, hb, hl, hc, hr, hz⟩ := h k ts[k] (List.getElem?_eq_getElem hk)
  subst hr
  exact ⟨b, off, hA, hb, hc 0 _ rfl, hc 1 _ rfl, hz⟩
theorem Terms.lo {B : Nat} {w w' : World} {A : Option Addr} {ts : List Pl.Term} (h : Terms B w A ts) (hb : Lo w w') (hB : B ≤ w.heap.size) : Terms B w' A ts := SliceAt.lo TermR.kept h hb hB

end Go.Proofs.Ytnclifgiakmmoaa.WMatch

/- Rows of terms opened. -/
namespace Go.Proofs.Ytnclifgiakmmoaa.Opn
set_option linter.unusedVariables false
set_option linter.unusedSimpArgs false
open Go.RowKit Go.WideShapes Go.ChangeShapes Go.Joins Mem WMatch

instance : Inhabited Pl.Term := ⟨⟨0, ⟨#[]⟩⟩⟩
theorem cells_int : Try.prog.cellsOf 3 = 1 := by kernel_rfl
theorem cells_string : Try.prog.cellsOf 9 = 1 := by kernel_rfl
set_option maxRecDepth 100000 in
theorem term_opens : Opens 70 TermR := by
  intro H enc w base spare held fuel cs x h
  obtain ⟨xs, n, _, hx, hlen, hxl, hf⟩ := DataW.trod_struct Try.underlying70 h
  have hl2 : cs.length = 2 := hlen.trans Post.Try.cellsTerm
  obtain ⟨c0, c1, rfl⟩ : ∃ c0 c1, cs = [c0, c1] := by
    match cs, hl2 with
    | [c0, c1], _ => exact ⟨c0, c1, rfl⟩
  obtain ⟨y0, y1, rfl⟩ : ∃ y0 y1, xs = [y0, y1] := by
    match xs, hxl with
    | [y0, y1], _ => exact ⟨y0, y1, rfl⟩
  have f0 := hf 0 _ rfl
  have f1 := hf 1 _ rfl
  simp [cells_int, cells_string] at f0 f1
  obtain ⟨k, e0, _, _⟩ := DataW.trod_int Try.underlying3 (x := y0) (by simpa using f0)
  obtain ⟨s, e1, _, ws⟩ := DataW.trod_string Try.underlying9 (x := y1) (by simpa using f1)
  simp at e0 e1
  subst e0 e1
  exact ⟨⟨k, s⟩, rfl, ws⟩
end Go.Proofs.Ytnclifgiakmmoaa.Opn
