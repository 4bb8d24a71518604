/- Merged by bundles.py: Post0, Open0, SimTab, SimGo, Rel09. -/
import Derived.Test.YtloippgblkoemaaGreatDoorB0
import Derived.ProofKit
import Derived.OpenShut
import Derived.Lib.SmallJoins
import Derived.ShutString
import Derived.ChangeSame
import Derived.Deep.Slices
import Derived.Test.YtloippgblkoemaaGreatDoorB5
import Derived.Test.YtloippgblkoemaaGreatDoorB11
import Derived.Test.YtloippgblkoemaaGreatDoorB6
/- The rows' last step: arguments opened, the row shut where only new memory was made. -/
namespace Go.Proofs.YtloippgblkoemaaGreatDoor.Post
set_option linter.unusedVariables false
set_option linter.unusedSimpArgs false
open Go.RowKit Go.WideShapes Go.ChangeShapes Go.Joins Mem
section
variable {H : Type} {enc : TypeId × Value → H} {P : Program}
theorem post_of_below {f : Func} {s : ChangeSpec} {apart fresh handsOn again : Bool} {W W' : World} {args : Array Value} {v : Value} {ds gs : List (DataW H)} {before pa pv : List MemPlace}
    (hW : DataW.Whole enc P f.params.toList s.vars apart W args.toList ds gs before)
    (hres : ∀ (b : Nat) (sp : Nat → Bool) (hd : Bool), DataW.TrodAll enc P W' b sp hd f.resultTypes.toList (v.resultList f.resultTypes.size) (s.fn H (ds ++ gs)).results [])
    (hargs : ∀ sp : Nat → Bool, (∀ p ∈ before, sp p.block = true) → DataW.TrodAll enc P W' 0 sp true f.params.toList args.toList (s.fn H (ds ++ gs)).args pa)
    (hvars : ∀ sp : Nat → Bool, (∀ p ∈ before, sp p.block = true) → DataW.TrodVars enc P W' sp s.vars (s.fn H (ds ++ gs)).vars pv)
    (hps : before = pa ++ pv) (hb : Below W.heap.size W W')
    (hok : ∀ (j : Nat) (t : TypeId) (r : Value), f.resultTypes[j]? = some t → (v.resultList f.resultTypes.size)[j]? = some r → Value.okWide P W' .any 0 t r) :
    s.post enc P f apart fresh handsOn again W args v W' := by
  have hlt : ∀ p ∈ before, p.block < W.heap.size := fun p hp => hW.lt p hp
  have hold : ∀ p ∈ before, (fun b => decide (b < W.heap.size)) p.block = true := fun p hp => by simpa using hlt p hp
  refine ⟨ds, gs, before, [], pa, pv, hW, hres _ _ _, hargs _ hold, hvars _ hold, World.keptBut_mono (fun p hp => ⟨hp, ?_⟩) (hb.frame (· ∈ before)), fun _ => ?_⟩
  · rw [hps, List.mem_append] at hp
    exact Or.inr hp
  · obtain ⟨_, _, _, _, _, hz, hn⟩ := hW
    refine ⟨hok, _, _, ([] ++ pa) ++ pv, ⟨[] ++ pa, pv, trodAll_append (hargs _ (fun _ _ => rfl)) (hres _ _ _), hvars _ (fun _ _ => rfl), rfl, ?_, ?_⟩, ?_⟩
    · intro b off hp
      have hin : MemPlace.cell b off ∈ before := by rw [hps]; simpa using hp
      rw [hb.frozen (hlt _ hin)]
      exact hz b off hin
    · intro ha
      have := hn ha
      rw [hps] at this
      simpa using this
    · intro p hp _
      rw [hps]
      simpa using hp
theorem trodAll_stays {W W' : World} {sp' : Nat → Bool} (hl : laidOutB P = true) : ∀ {ts : List TypeId} {vs : List Value} {ds : List (DataW H)} {ps : List MemPlace}, (∀ t ∈ ts, P.readableRec t = true ∧ t < P.types.size) →
    DataW.TrodAll enc P W 0 (fun _ => true) true ts vs ds ps → (∀ p ∈ ps, W.sameAt W' p) → (∀ p ∈ ps, sp' p.block = true) → DataW.TrodAll enc P W' 0 sp' true ts vs ds ps
  | [], vs, ds, ps, _, h, _, _ => by obtain ⟨rfl, rfl, rfl⟩ := trodAll_nil h; exact trodAll_mk0
  | t :: ts, vs, ds, ps, hr, h, hs, hsp => by
    obtain ⟨v, vs', d, ds', p, q, rfl, rfl, rfl, h0, r0⟩ := trodAll_cons h
    obtain ⟨hr1, hr2⟩ := hr t (by simp)
    exact trodAll_cons_mk (WideElems.Trod_stays hl hr1 hr2 h0 (fun x hx => hs x (by simp [hx])) (fun x hx => hsp x (by simp [hx])))
      (trodAll_stays hl (fun t ht => hr t (by simp [ht])) r0 (fun x hx => hs x (by simp [hx])) (fun x hx => hsp x (by simp [hx])))

theorem law_post {f : Func} {s : ChangeSpec} {apart fresh handsOn again : Bool} {W W' : World} {args : Array Value} {ds gs : List (DataW H)} {before : List MemPlace} {tb : TypeId}
    (hl : laidOutB P = true) (hr : ∀ t ∈ f.params.toList, P.readableRec t = true ∧ t < P.types.size) (hvars : s.vars = []) (hb1 : P.underlying tb = some .bool) (hres : f.resultTypes = #[tb])
    (hfn : gs = [] → s.fn H (ds ++ gs) = { results := [.lit (.bool true)], args := ds })
    (hW : DataW.Whole enc P f.params.toList s.vars apart W args.toList ds gs before) (hb : Lo W W') : s.post enc P f apart fresh handsOn again W args (.bool true) W' := by
  have hW' := hW
  obtain ⟨p, q, hA, hV, rfl, _, _⟩ := hW
  rw [hvars] at hV
  obtain ⟨rfl, rfl⟩ := trodVars_none hV
  have hf := hfn rfl
  have hlt : ∀ x ∈ p, x.block < W.heap.size := fun x hx => hW'.lt x (by simp [hx])
  refine post_of_below (pa := p) (pv := []) hW' ?_ ?_ ?_ rfl hb ?_
  · intro b sp hd
    rw [hf, hres]
    exact trodAll_mk1 (shut_bool hb1 _)
  · intro sp hsp
    rw [hf]
    exact trodAll_stays hl hr hA (fun x hx => Below.same hb (hlt x hx)) (fun x hx => hsp x (by simp [hx]))
  · intro sp _
    rw [hf, hvars]
    rfl
  · exact ok_one hres rfl (okWide_bool_mk hb1 _)
end
theorem Tryz.own : ownKnob Tryz.prog.godebug = none := by kernel_rfl
theorem Tryz.laidOut : laidOutB Tryz.prog = true := by kernel_rfl
end Go.Proofs.YtloippgblkoemaaGreatDoor.Post

/- Arguments opened: what a reading says of the cells, type by type. -/
namespace Go.Proofs.YtloippgblkoemaaGreatDoor.Mem
set_option linter.unusedVariables false
set_option linter.unusedSimpArgs false
open Go.RowKit
def SliceC {α : Type} (R : Rel α) (sz : Nat) : Rel (List α) := fun B w xs cs => ∃ A cap, cs = [.slice A xs.length cap] ∧ SliceAt R sz B w A xs ∧ xs.length ≤ cap ∧ cap ≤ maxLen
theorem SliceC.kept {α : Type} {R : Rel α} {sz : Nat} (hR : Kept R) : Kept (SliceC R sz) := by
  rintro B B' w w' x cs ⟨A, cap, rfl, h, h1, h2⟩ hk hB
  exact ⟨A, cap, rfl, h.keep hR hk hB, h1, h2⟩
def IntC (k : IntKind) : Rel Int := fun _ _ x cs => cs = [.int k x] ∧ (Lit.int k x).wf = true
theorem IntC.kept (k : IntKind) : Kept (IntC k) := fun _ _ _ _ _ _ h _ _ => h
def StrC : Rel ByteArray := fun _ _ s cs => cs = [.string s] ∧ s.size ≤ maxLen
theorem StrC.kept : Kept StrC := fun _ _ _ _ _ _ h _ _ => h
end Go.Proofs.YtloippgblkoemaaGreatDoor.Mem
namespace Go.Proofs.YtloippgblkoemaaGreatDoor.Opn
set_option linter.unusedVariables false
set_option linter.unusedSimpArgs false
set_option maxRecDepth 100000
open Go.RowKit Go.WideShapes Go.ChangeShapes Go.Joins Mem

def Opens {α : Type} (t : TypeId) (R : Rel α) : Prop :=
  ∀ (H : Type) (enc : TypeId × Value → H) (w : World) (base : Nat) (spare : Nat → Bool) (held : Bool) (fuel : Nat) (cs : List Value) (x : DataW H × List MemPlace), DataW.trod enc Tryz.prog w base spare held fuel t cs = some x → ∃ y, R w.heap.size w y cs

theorem slice_opens {α : Type} [Inhabited α] {t e sz : Nat} {R : Rel α} (ht : Tryz.prog.underlying t = some (.slice e)) (hC : Tryz.prog.cellsOf e = sz) (hsz : 0 < sz) (hR : Opens e R)
    {H : Type} {enc : TypeId × Value → H} {w : World} {base : Nat} {spare : Nat → Bool} {held : Bool} {fuel : Nat} {cs : List Value} {x : DataW H × List MemPlace} (h : DataW.trod enc Tryz.prog w base spare held fuel t cs = some x) :
    ∃ (A : Option Addr) (cap : Nat) (xs : List α), cs = [.slice A xs.length cap] ∧ SliceAt R sz w.heap.size w A xs ∧ xs.length ≤ cap ∧ cap ≤ maxLen := by
  rcases Go.Deep.open_slice ht h with ⟨hcs, _⟩ | ⟨a, len, cap, m, n, D, Pl, hcs, hb, hl, hm, hmm, hx, hi⟩
  · exact ⟨none, 0, [], hcs, SliceAt.nil, Nat.le_refl _, Nat.zero_le _⟩
  · have hlm : len ≤ m := by rw [hmm]; split <;> omega
    have hex : ∀ i, i < len → ∃ (y : α) (cs' : List Value), w.cells? base (a.add (i * sz)) sz = some cs' ∧ R w.heap.size w y cs' := by
      intro i hil
      obtain ⟨cs', hc, ht'⟩ := hi i (by omega)
      rw [hC] at hc
      obtain ⟨y, hy⟩ := hR H enc w base spare held n cs' _ ht'
      exact ⟨y, cs', hc, hy⟩
    have hf : ∃ f : Nat → α, ∀ i, i < len → ∃ cs', w.cells? base (a.add (i * sz)) sz = some cs' ∧ R w.heap.size w (f i) cs' := by
      refine ⟨fun i => if h : i < len then (hex i h).choose else default, fun i hil => ?_⟩
      simp only [dif_pos hil]
      exact (hex i hil).choose_spec
    obtain ⟨f, hf⟩ := hf
    refine ⟨some a, cap, (List.range len).map f, by simpa using hcs, ?_, by simpa using hl, hm⟩
    intro k y hk
    have hkl : k < len := by
      rcases Nat.lt_or_ge k len with h' | h'
      · exact h'
      · rw [List.getElem?_eq_none (by simpa using h')] at hk; cases hk
    rw [List.getElem?_map, List.getElem?_range hkl] at hk
    simp at hk; subst hk
    obtain ⟨cs', hc, hr⟩ := hf k hkl
    obtain ⟨_, hlen, hat⟩ := World.cells?_some hc
    have h0 : w.cell? ((a.add (k * sz)).add 0) = some (cs'[0]'(by omega)) := by rw [hat 0 hsz, List.getElem?_eq_getElem]
    obtain ⟨b, off, spot⟩ := a
    have hspot : k = 0 → spot = none := by
      intro hk0; subst hk0
      simp [Addr.add] at h0
      cases spot with
      | none => rfl
      | some q =>
        simp only [World.cell?] at h0
        split at h0
        · simp at h0
        · cases h0
    -- the row's address bears no spot: its first element shows it
    have hsp : spot = none := by
      rcases Nat.eq_zero_or_pos k with hk0 | hk0
      · exact hspot hk0
      · obtain ⟨cs0, hc0, _⟩ := hf 0 (by omega)
        obtain ⟨_, hlen0, hat0⟩ := World.cells?_some hc0
        have h00 : w.cell? (((⟨b, off, spot⟩ : Addr).add (0 * sz)).add 0) = some (cs0[0]'(by omega)) := by rw [hat0 0 hsz, List.getElem?_eq_getElem]
        simp [Addr.add] at h00
        cases spot with
        | none => rfl
        | some q =>
          simp only [World.cell?] at h00
          split at h00
          · simp at h00
          · cases h00
    subst hsp
    have hadd : ∀ j, ((⟨b, off, none⟩ : Addr).add (k * sz)).add j = ⟨b, off + (k * sz + j), none⟩ := by
      intro j
      rw [Go.Deep.add_add, addr_add]
    refine ⟨b, off, cs', rfl, ?_, hlen, ?_, hr⟩
    · have := World.block_lt_of_cell? w _ h0
      rw [hadd] at this
      exact this
    · intro j v hj
      have hjl : j < sz := by rw [← hlen]; exact (List.getElem?_eq_some_iff.1 hj).1
      rw [← hadd, hat j hjl, hj]
theorem opens_str {t : TypeId} (ht : Tryz.prog.underlying t = some .string) : Opens t StrC := by
  intro H enc w base spare held fuel cs x h
  obtain ⟨s, rfl, _, hw⟩ := DataW.trod_string ht h
  exact ⟨s, rfl, hw⟩
theorem opens_slice {α : Type} [Inhabited α] {t e sz : Nat} {R : Rel α} (ht : Tryz.prog.underlying t = some (.slice e)) (hC : Tryz.prog.cellsOf e = sz) (hsz : 0 < sz) (hR : Opens e R) : Opens t (SliceC R sz) := by
  intro H enc w base spare held fuel cs x h
  obtain ⟨A, cap, xs, rfl, hA, h1, h2⟩ := slice_opens ht hC hsz hR h
  exact ⟨xs, A, cap, rfl, hA, h1, h2⟩
theorem open_int_arg {t : TypeId} {k : IntKind} (ht : Tryz.prog.underlying t = some (.int k)) {H : Type} {enc : TypeId × Value → H} {w : World} {r : Reach} {b0 base : Nat} {spare : Nat → Bool} {held : Bool} {v : Value} {d : DataW H} {p : List MemPlace}
    (hv : Value.okWide Tryz.prog w r b0 t v) (h : DataW.Trod enc Tryz.prog w base spare held t v d p) : ∃ n, v = .int k n ∧ (Lit.int k n).wf = true := by
  obtain ⟨n, rfl⟩ := okWide_int ht hv
  obtain ⟨fuel, hf⟩ := h
  obtain ⟨m, hm, _, hw⟩ := DataW.trod_int ht hf
  simp [Value.cells] at hm
  subst hm
  exact ⟨_, rfl, hw⟩
end Go.Proofs.YtloippgblkoemaaGreatDoor.Opn

/- The program's types: cells, fields, elements. (Printed by mk_tab.py.) -/

namespace Go.Proofs.YtloippgblkoemaaGreatDoor.Sim
open Go.RowKit Mem
set_option linter.unusedVariables false
set_option maxRecDepth 100000
def tabT : List (Nat × Bool × Nat) := [(1, false, 1), (2, false, 1), (3, false, 1), (4, false, 1), (5, false, 1), (6, false, 1), (7, true, 4), (8, true, 4), (9, false, 1), (10, false, 1), (11, false, 1), (12, false, 1), (13, true, 2), (14, true, 2), (15, false, 1), (16, false, 1), (17, false, 1), (18, true, 1), (19, true, 1), (21, false, 1), (22, false, 1), (23, false, 1), (24, true, 3), (25, true, 3), (26, false, 1), (27, true, 3), (28, true, 3), (29, false, 1), (30, false, 1), (32, false, 1), (34, false, 1), (35, false, 1), (36, false, 1), (37, false, 1), (38, true, 7), (39, true, 7), (40, false, 1), (42, false, 1), (44, false, 1), (45, false, 1), (46, false, 1), (47, false, 1), (48, true, 7), (49, true, 7), (50, false, 1), (52, false, 1), (53, false, 1), (54, false, 1), (55, false, 1), (56, false, 1), (57, false, 1), (59, false, 1), (61, false, 1), (62, false, 1), (63, false, 1), (64, true, 2), (65, true, 2), (66, false, 1), (67, false, 1), (68, false, 1), (69, false, 1), (71, false, 1), (73, false, 1), (74, false, 1), (75, false, 1), (76, false, 1), (77, false, 1), (78, false, 1), (79, true, 8), (80, true, 8), (81, false, 1), (82, false, 1), (83, false, 1), (84, false, 1), (85, false, 1), (86, false, 1), (87, false, 1), (88, true, 3), (89, true, 3), (91, false, 1), (92, false, 1), (94, false, 1), (96, false, 1), (97, false, 1), (98, false, 1), (99, false, 1), (100, false, 1), (101, false, 1), (102, false, 1), (103, false, 1), (105, false, 1), (106, false, 1), (107, false, 1), (108, true, 7), (109, false, 1), (110, false, 1), (111, false, 1), (112, false, 1), (113, false, 1), (114, false, 1), (116, false, 1), (117, false, 1), (119, false, 1), (120, false, 1), (122, false, 1), (123, false, 1), (124, false, 1), (125, false, 1), (126, false, 1), (127, false, 1), (129, false, 1), (130, false, 1), (131, false, 1), (132, false, 1), (133, false, 1), (134, false, 1), (135, false, 1), (136, false, 1), (137, false, 1), (138, true, 2), (139, true, 2), (141, false, 1), (142, false, 1), (146, false, 1), (147, false, 1), (148, false, 1), (149, false, 1), (150, false, 1), (151, false, 1), (152, false, 1), (153, false, 1), (154, false, 1), (155, false, 1), (156, false, 1), (158, false, 1), (159, false, 1), (161, false, 1), (162, true, 256), (163, false, 1), (164, false, 1), (165, false, 1), (166, false, 1), (167, false, 1), (168, true, 256), (169, true, 2), (170, true, 2), (171, true, 32), (172, false, 1), (173, false, 1), (174, false, 1), (175, false, 1), (176, false, 1), (177, true, 256), (178, true, 256), (180, false, 1), (181, false, 1), (182, false, 1), (183, false, 1), (184, false, 1), (185, true, 4), (186, true, 4), (187, true, 0), (188, true, 0), (189, true, 0), (190, false, 1), (191, false, 1), (192, false, 1), (193, false, 1), (194, false, 1), (195, true, 11), (196, true, 11)]
def tabS : List (Nat × Nat) := [(22, 2), (23, 1), (50, 3), (98, 1)]
def tabR : List Nat := [9, 10, 11]
def tabK : List (Nat × IntKind) := [(2, .i64), (3, .i64), (5, .u8), (6, .u8), (12, .u64), (21, .i32), (30, .i64), (135, .u64), (159, .u32), (190, .u8), (191, .u8), (193, .i32), (194, .i32)]
def tabF : List (Nat × Nat × Nat) := [(7, 0, 0), (7, 1, 1), (7, 2, 2), (7, 3, 3), (8, 0, 0), (8, 1, 1), (8, 2, 2), (8, 3, 3), (13, 0, 0), (13, 1, 1), (14, 0, 0), (14, 1, 1), (18, 0, 0), (19, 0, 0), (24, 0, 0), (24, 1, 1), (24, 2, 2), (25, 0, 0), (25, 1, 1), (25, 2, 2), (27, 0, 0), (27, 1, 1), (27, 2, 2), (28, 0, 0), (28, 1, 1), (28, 2, 2), (38, 0, 0), (38, 1, 1), (38, 2, 2), (38, 3, 3), (38, 4, 4), (38, 5, 5), (38, 6, 6), (39, 0, 0), (39, 1, 1), (39, 2, 2), (39, 3, 3), (39, 4, 4), (39, 5, 5), (39, 6, 6), (48, 0, 0), (48, 1, 1), (48, 2, 2), (48, 3, 5), (48, 4, 6), (49, 0, 0), (49, 1, 1), (49, 2, 2), (49, 3, 5), (49, 4, 6), (64, 0, 0), (64, 1, 1), (65, 0, 0), (65, 1, 1), (79, 0, 0), (79, 1, 7), (80, 0, 0), (80, 1, 7), (88, 0, 0), (88, 1, 1), (88, 2, 2), (89, 0, 0), (89, 1, 1), (89, 2, 2), (138, 0, 0), (138, 1, 1), (139, 0, 0), (139, 1, 1), (169, 0, 0), (169, 1, 1), (170, 0, 0), (170, 1, 1), (185, 0, 0), (185, 1, 1), (185, 2, 2), (185, 3, 3), (186, 0, 0), (186, 1, 1), (186, 2, 2), (186, 3, 3), (195, 0, 0), (195, 1, 1), (195, 2, 2), (195, 3, 3), (195, 4, 4), (195, 5, 5), (195, 6, 6), (195, 7, 7), (195, 8, 8), (195, 9, 9), (195, 10, 10), (196, 0, 0), (196, 1, 1), (196, 2, 2), (196, 3, 3), (196, 4, 4), (196, 5, 5), (196, 6, 6), (196, 7, 7), (196, 8, 8), (196, 9, 9), (196, 10, 10)]
def tabE : List (Nat × Nat × Nat × Nat) := [(22, 65, 2, 32), (23, 5, 1, 1), (50, 25, 3, 64), (98, 9, 1, 16)]
def allB {α : Type} (p : α → Bool) : List α → Bool
  | [] => true
  | x :: r => p x && allB p r
theorem allB_mem {α : Type} {p : α → Bool} : ∀ {l : List α}, allB p l = true → ∀ x ∈ l, p x = true
  | [], _, x, h => by cases h
  | y :: r, h, x, hx => by
    simp only [allB, Bool.and_eq_true] at h
    rcases List.mem_cons.1 hx with rfl | hx
    · exact h.1
    · exact allB_mem h.2 x hx
def lk {β : Type} : List (Nat × β) → Nat → Option β
  | [], _ => none
  | (a, b) :: r, n => bif Nat.beq a n then some b else lk r n
theorem lk_mem {β : Type} : ∀ {l : List (Nat × β)} {n : Nat} {b : β}, lk l n = some b → (n, b) ∈ l
  | [], n, b, h => by cases h
  | (a, b') :: r, n, b, h => by
    unfold lk at h
    cases hb : Nat.beq a n with
    | true => rw [hb] at h; injection h with h; subst h; rw [Nat.eq_of_beq_eq_true hb]; exact List.mem_cons_self
    | false => rw [hb] at h; exact List.mem_cons_of_mem _ (lk_mem h)
def lk2 {β : Type} : List (Nat × Nat × β) → Nat → Nat → Option β
  | [], _, _ => none
  | (a, c, b) :: r, n, k => bif Nat.beq a n then (bif Nat.beq c k then some b else lk2 r n k) else lk2 r n k
theorem lk2_mem {β : Type} : ∀ {l : List (Nat × Nat × β)} {n k : Nat} {b : β}, lk2 l n k = some b → (n, k, b) ∈ l
  | [], n, k, b, h => by cases h
  | (a, c, b') :: r, n, k, b, h => by
    unfold lk2 at h
    cases hb : Nat.beq a n with
    | true =>
      rw [hb] at h
      cases hc : Nat.beq c k with
      | true => rw [hc] at h; injection h with h; subst h; rw [Nat.eq_of_beq_eq_true hb, Nat.eq_of_beq_eq_true hc]; exact List.mem_cons_self
      | false => rw [hc] at h; exact List.mem_cons_of_mem _ (lk2_mem h)
    | false => rw [hb] at h; exact List.mem_cons_of_mem _ (lk2_mem h)
def memB : List Nat → Nat → Bool
  | [], _ => false
  | a :: r, n => Nat.beq a n || memB r n
theorem memB_mem : ∀ {l : List Nat} {n : Nat}, memB l n = true → n ∈ l
  | [], n, h => by cases h
  | a :: r, n, h => by
    simp only [memB, Bool.or_eq_true] at h
    rcases h with h | h
    · rw [Nat.eq_of_beq_eq_true h]; exact List.mem_cons_self
    · exact List.mem_cons_of_mem _ (memB_mem h)
theorem okT : allB (fun x => decide (tyI Tryz.prog x.1 = some x.2)) tabT = true := by kernel_rfl
theorem okS : allB (fun x => decide (sliceSz Tryz.prog x.1 = some x.2)) tabS = true := by kernel_rfl
theorem okR : allB (fun x => isStr Tryz.prog x) tabR = true := by kernel_rfl
theorem okK : allB (fun x => decide (intK Tryz.prog x.1 = some x.2)) tabK = true := by kernel_rfl
theorem okF : allB (fun x => decide (fieldOff Tryz.prog x.1 x.2.1 = some x.2.2)) tabF = true := by kernel_rfl
theorem okE : allB (fun x => decide (sliceE Tryz.prog x.1 = some x.2)) tabE = true := by kernel_rfl
theorem tyE {t : Nat} {x : Nat × Nat × Nat} (h : lk tabE t = some x) : sliceE Tryz.prog t = some x := of_decide_eq_true (allB_mem okE _ (lk_mem h))
theorem str25 : strI Tryz.prog 25 = some ([(0, 1), (1, 1), (2, 1)], [.string ⟨#[]⟩, .slice none 0 0, .slice none 0 0]) := by kernel_rfl
theorem str39 : strI Tryz.prog 39 = some ([(0, 1), (1, 1), (2, 1), (3, 1), (4, 1), (5, 1), (6, 1)], [.string ⟨#[]⟩, .string ⟨#[]⟩, .string ⟨#[]⟩, .string ⟨#[]⟩, .string ⟨#[]⟩, .slice none 0 0, .slice none 0 0]) := by kernel_rfl
theorem str49 : strI Tryz.prog 49 = some ([(0, 1), (1, 1), (2, 3), (5, 1), (6, 1)], [.int .i64 0, .slice none 0 0, .string ⟨#[]⟩, .slice none 0 0, .slice none 0 0, .int .i64 0, .int .i64 0]) := by kernel_rfl
theorem str65 : strI Tryz.prog 65 = some ([(0, 1), (1, 1)], [.string ⟨#[]⟩, .string ⟨#[]⟩]) := by kernel_rfl
theorem str80 : strI Tryz.prog 80 = some ([(0, 7), (7, 1)], [.int .i64 0, .slice none 0 0, .string ⟨#[]⟩, .slice none 0 0, .slice none 0 0, .int .i64 0, .int .i64 0, .slice none 0 0]) := by kernel_rfl
theorem str89 : strI Tryz.prog 89 = some ([(0, 1), (1, 1), (2, 1)], [.int .i64 0, .int .i64 0, .int .i64 0]) := by kernel_rfl
theorem tyT {t : Nat} {x : Bool × Nat} (h : lk tabT t = some x) : tyI Tryz.prog t = some x := of_decide_eq_true (allB_mem okT _ (lk_mem h))
theorem tyS {t n : Nat} (h : lk tabS t = some n) : sliceSz Tryz.prog t = some n := of_decide_eq_true (allB_mem okS _ (lk_mem h))
theorem tyR {t : Nat} (h : memB tabR t = true) : isStr Tryz.prog t = true := allB_mem okR _ (memB_mem h)
theorem tyK {t : Nat} {k : IntKind} (h : lk tabK t = some k) : intK Tryz.prog t = some k := of_decide_eq_true (allB_mem okK _ (lk_mem h))
theorem tyF {t f k : Nat} (h : lk2 tabF t f = some k) : fieldOff Tryz.prog t f = some k := of_decide_eq_true (allB_mem okF _ (lk2_mem h))
theorem mixed : Tryz.prog.follows .mixedOrders = true := by kernel_rfl
end Go.Proofs.YtloippgblkoemaaGreatDoor.Sim

/- A logic of states: short names for the steps. (Printed by mk_go.py.) -/
namespace Go.Proofs.YtloippgblkoemaaGreatDoor.Sim
set_option linter.unusedVariables false
set_option linter.unusedSimpArgs false
open Go.RowKit Mem
structure W1 (b : Prop) : Prop where
  p : b
section
variable {P : Program} {N : Nat} {Q : Exit → St → Prop} {ops : Array Oper} {rest tail : List Oper} {o : Oper} {tm : List (Nat × A)} {bx : List (Nat × List A)} {ow : List (Nat × Own)} {ρ : Operand → Option A}
theorem sp {d : Nat} {r : A} (hp : PureOp P bx ow o (evA tm) r) (h : SOps P N ops Q rest ⟨(d, r) :: tm, bx, ow⟩) (hg : GuardIs ops tm o true := by first | exact .free rfl rfl | exact gy) (hd : o.dst = some d := by exact rfl) (hN : Nat.blt d N = true := by exact rfl) : SOps P N ops Q (o :: rest) ⟨tm, bx, ow⟩ := sops_pure hg hd hN hp h
theorem spn {r : A} (hp : PureOp P bx ow o (evA tm) r) (h : SOps P N ops Q rest ⟨tm, bx, ow⟩) (hg : GuardIs ops tm o true := by first | exact .free rfl rfl | exact gy) (hd : o.dst = none := by exact rfl) : SOps P N ops Q (o :: rest) ⟨tm, bx, ow⟩ := sops_pure_none hg hd hp h
theorem oK {d : Nat} (h : SOps P N ops Q rest ⟨(d, .t (.v undef)) :: tm, bx, ow⟩) (hg : GuardIs ops tm o false := by first | exact gn0 | exact gn1 | exact .nou rfl rfl rfl) (hd : o.dst = some d := by exact rfl) (hN : Nat.blt d N = true := by exact rfl) : SOps P N ops Q (o :: rest) ⟨tm, bx, ow⟩ := sops_skip hg hd hN h
theorem dp {d : Nat} {r : A} (hp : PureOp P bx ow o (evA tm) r) (h : SDraw P N bx ow ops Q tail rest ((d, r) :: tm)) (hg : GuardIs ops tm o true := by first | exact .free rfl rfl | exact gy) (hd : o.dst = some d := by exact rfl) : SDraw P N bx ow ops Q tail (o :: rest) tm := sdraw_pure hg hd hp h
theorem oN {st : St} (h : Q .normal st) : SOps P N ops Q [] st := sops_nil h
theorem dN (h : SOps P N ops Q tail ⟨tm, bx, ow⟩) : SDraw P N bx ow ops Q tail [] tm := sdraw_nil h
theorem ssp {j e : Nat} {want b : Bool} (h1 : b = true → SOps P N ops Q (o :: rest) ⟨tm, bx, ow⟩) (h0 : b = false → SOps P N ops Q (o :: rest) ⟨tm, bx, ow⟩) (hg : o.guard = some (j, want) := by exact rfl) (hj : dstOf ops j = some e := by exact rfl) (hs : get tm e = some (.t (.v (.bool b))) := by exact rfl) : SOps P N ops Q (o :: rest) ⟨tm, bx, ow⟩ := sops_split hg hj hs h1 h0
theorem oC {f : FuncId} {xs : List Operand} {at_ : Array TypeId} {ts : List T} {t : T} {d : Nat} (hc : PCalls P f ts t) (ho : o.op = .call { callee := .value (.func f), args := xs.toArray, argTypes := at_ }) (ha : Args ow (evA tm) xs ts) (h : SOps P N ops Q rest ⟨(d, .t t) :: tm, bx, ow⟩) (hg : GuardIs ops tm o true := by first | exact .free rfl rfl | exact gy) (hd : o.dst = some d := by exact rfl) (hN : Nat.blt d N = true := by exact rfl) : SOps P N ops Q (o :: rest) ⟨tm, bx, ow⟩ := sops_pure hg hd hN (po_call hc ho ha) h
theorem dC {f : FuncId} {xs : List Operand} {at_ : Array TypeId} {ts : List T} {t : T} {d : Nat} (hc : PCalls P f ts t) (ho : o.op = .call { callee := .value (.func f), args := xs.toArray, argTypes := at_ }) (ha : Args ow (evA tm) xs ts) (h : SDraw P N bx ow ops Q tail rest ((d, .t t) :: tm)) (hg : GuardIs ops tm o true := by first | exact .free rfl rfl | exact gy) (hd : o.dst = some d := by exact rfl) : SDraw P N bx ow ops Q tail (o :: rest) tm := sdraw_pure hg hd (po_call hc ho ha) h
theorem oMv {x : Operand} {r : A} {d : Nat} (h : SOps P N ops Q rest ⟨(d, r) :: tm, bx, ow⟩) (ho : o.op = .move x := by exact rfl) (hx : evA tm x = some r := by exact rfl) (hg : GuardIs ops tm o true := by first | exact .free rfl rfl | exact gy) (hd : o.dst = some d := by exact rfl) (hN : Nat.blt d N = true := by exact rfl) : SOps P N ops Q (o :: rest) ⟨tm, bx, ow⟩ := sops_pure hg hd hN (po_move ho hx) h
theorem dMv {x : Operand} {r : A} {d : Nat} (h : SDraw P N bx ow ops Q tail rest ((d, r) :: tm)) (ho : o.op = .move x := by exact rfl) (hx : evA tm x = some r := by exact rfl) (hg : GuardIs ops tm o true := by first | exact .free rfl rfl | exact gy) (hd : o.dst = some d := by exact rfl) : SDraw P N bx ow ops Q tail (o :: rest) tm := sdraw_pure hg hd (po_move ho hx) h
theorem oAs {x : Operand} {r : A} {d : Nat} (h : SOps P N ops Q rest ⟨(d, r) :: tm, bx, ow⟩) (ho : o.op = .assign x := by exact rfl) (hx : evA tm x = some r := by exact rfl) (hg : GuardIs ops tm o true := by first | exact .free rfl rfl | exact gy) (hd : o.dst = some d := by exact rfl) (hN : Nat.blt d N = true := by exact rfl) : SOps P N ops Q (o :: rest) ⟨tm, bx, ow⟩ := sops_pure hg hd hN (po_assign ho hx) h
theorem dAs {x : Operand} {r : A} {d : Nat} (h : SDraw P N bx ow ops Q tail rest ((d, r) :: tm)) (ho : o.op = .assign x := by exact rfl) (hx : evA tm x = some r := by exact rfl) (hg : GuardIs ops tm o true := by first | exact .free rfl rfl | exact gy) (hd : o.dst = some d := by exact rfl) : SDraw P N bx ow ops Q tail (o :: rest) tm := sdraw_pure hg hd (po_assign ho hx) h
theorem oCm {op : BinOp} {t t2 : TypeId} {x y : Operand} {k : IntKind} {i j : Int} {c : Bool} {d : Nat} (h : SOps P N ops Q rest ⟨(d, .t (.v (.bool c))) :: tm, bx, ow⟩) (ho : o.op = .binOp op t x y t2 := by exact rfl) (hx : evA tm x = some (.t (.v (.int k i))) := by exact rfl) (hy : evA tm y = some (.t (.v (.int k j))) := by exact rfl) (hc : cmpB op i j = some c := by exact rfl) (hg : GuardIs ops tm o true := by first | exact .free rfl rfl | exact gy) (hd : o.dst = some d := by exact rfl) (hN : Nat.blt d N = true := by exact rfl) : SOps P N ops Q (o :: rest) ⟨tm, bx, ow⟩ := sops_pure hg hd hN (po_cmp ho hx hy hc) h
theorem oFb {s : TypeId} {x : Operand} {f k i off : Nat} {d : Nat} (h : SOps P N ops Q rest ⟨(d, .bp i (off + k)) :: tm, bx, ow⟩) (ho : o.op = .fieldAddr s x f := by exact rfl) (hx : evA tm x = some (.bp i off) := by exact rfl) (hk : fieldOff P s f = some k := by exact tyF rfl) (hg : GuardIs ops tm o true := by first | exact .free rfl rfl | exact gy) (hd : o.dst = some d := by exact rfl) (hN : Nat.blt d N = true := by exact rfl) : SOps P N ops Q (o :: rest) ⟨tm, bx, ow⟩ := sops_pure hg hd hN (po_field_bx ho hx hk) h
theorem dFb {s : TypeId} {x : Operand} {f k i off : Nat} {d : Nat} (h : SDraw P N bx ow ops Q tail rest ((d, .bp i (off + k)) :: tm)) (ho : o.op = .fieldAddr s x f := by exact rfl) (hx : evA tm x = some (.bp i off) := by exact rfl) (hk : fieldOff P s f = some k := by exact tyF rfl) (hg : GuardIs ops tm o true := by first | exact .free rfl rfl | exact gy) (hd : o.dst = some d := by exact rfl) : SDraw P N bx ow ops Q tail (o :: rest) tm := sdraw_pure hg hd (po_field_bx ho hx hk) h
theorem oFd {s : TypeId} {x : Operand} {f k : Nat} {cs : List T} {d : Nat} (h : SOps P N ops Q rest ⟨(d, .t (.tp (cs.drop k))) :: tm, bx, ow⟩) (ho : o.op = .fieldAddr s x f := by exact rfl) (hx : evA tm x = some (.t (.tp cs)) := by exact rfl) (hk : fieldOff P s f = some k := by exact tyF rfl) (hg : GuardIs ops tm o true := by first | exact .free rfl rfl | exact gy) (hd : o.dst = some d := by exact rfl) (hN : Nat.blt d N = true := by exact rfl) : SOps P N ops Q (o :: rest) ⟨tm, bx, ow⟩ := sops_pure hg hd hN (po_field ho hx hk) h
theorem oLb {ty : TypeId} {x : Operand} {i off n : Nat} {cs : List A} {r : A} {d : Nat} (h : SOps P N ops Q rest ⟨(d, r) :: tm, bx, ow⟩) (ho : o.op = .load ty x := by exact rfl) (hx : evA tm x = some (.bp i off) := by exact rfl) (hT : tyI P ty = some (false, n) := by exact tyT rfl) (hb : get bx i = some cs := by exact rfl) (ht : cs[off]? = some r := by exact rfl) (hq : cellB i = true := by exact rfl) (hg : GuardIs ops tm o true := by first | exact .free rfl rfl | exact gy) (hd : o.dst = some d := by exact rfl) (hN : Nat.blt d N = true := by exact rfl) : SOps P N ops Q (o :: rest) ⟨tm, bx, ow⟩ := sops_pure hg hd hN (po_load_bx ho hx hT hb ht hq) h
theorem dLb {ty : TypeId} {x : Operand} {i off n : Nat} {cs : List A} {r : A} {d : Nat} (h : SDraw P N bx ow ops Q tail rest ((d, r) :: tm)) (ho : o.op = .load ty x := by exact rfl) (hx : evA tm x = some (.bp i off) := by exact rfl) (hT : tyI P ty = some (false, n) := by exact tyT rfl) (hb : get bx i = some cs := by exact rfl) (ht : cs[off]? = some r := by exact rfl) (hq : cellB i = true := by exact rfl) (hg : GuardIs ops tm o true := by first | exact .free rfl rfl | exact gy) (hd : o.dst = some d := by exact rfl) : SDraw P N bx ow ops Q tail (o :: rest) tm := sdraw_pure hg hd (po_load_bx ho hx hT hb ht hq) h
theorem oLd {ty : TypeId} {x : Operand} {cs : List T} {t : T} {n : Nat} {d : Nat} (h : SOps P N ops Q rest ⟨(d, .t t) :: tm, bx, ow⟩) (ho : o.op = .load ty x := by exact rfl) (hx : evA tm x = some (.t (.tp cs)) := by exact rfl) (hT : tyI P ty = some (false, n) := by exact tyT rfl) (ht : cs[0]? = some t := by exact rfl) (hg : GuardIs ops tm o true := by first | exact .free rfl rfl | exact gy) (hd : o.dst = some d := by exact rfl) (hN : Nat.blt d N = true := by exact rfl) : SOps P N ops Q (o :: rest) ⟨tm, bx, ow⟩ := sops_pure hg hd hN (po_load ho hx hT ht) h
theorem oEx {x : Operand} {i : Nat} {cs : List T} {t : T} {d : Nat} (h : SOps P N ops Q rest ⟨(d, .t t) :: tm, bx, ow⟩) (ho : o.op = .extract x i := by exact rfl) (hx : evA tm x = some (.t (.tup cs)) := by exact rfl) (ht : cs[i]? = some t := by exact rfl) (hg : GuardIs ops tm o true := by first | exact .free rfl rfl | exact gy) (hd : o.dst = some d := by exact rfl) (hN : Nat.blt d N = true := by exact rfl) : SOps P N ops Q (o :: rest) ⟨tm, bx, ow⟩ := sops_pure hg hd hN (po_extract ho hx ht) h
theorem dEx {x : Operand} {i : Nat} {cs : List T} {t : T} {d : Nat} (h : SDraw P N bx ow ops Q tail rest ((d, .t t) :: tm)) (ho : o.op = .extract x i := by exact rfl) (hx : evA tm x = some (.t (.tup cs)) := by exact rfl) (ht : cs[i]? = some t := by exact rfl) (hg : GuardIs ops tm o true := by first | exact .free rfl rfl | exact gy) (hd : o.dst = some d := by exact rfl) : SDraw P N bx ow ops Q tail (o :: rest) tm := sdraw_pure hg hd (po_extract ho hx ht) h
theorem oPt {c x y : Operand} {b : Bool} {r : A} {d : Nat} (h : SOps P N ops Q rest ⟨(d, r) :: tm, bx, ow⟩) (ho : o.op = .pick c x y := by exact rfl) (hc : evA tm c = some (.t (.v (.bool b))) := by exact rfl) (hb : b = true := by first | assumption | with_reducible rfl | decide | (simp only [decide_eq_true_eq, decide_eq_false_iff_not]; omega)) (hx : evA tm x = some r := by exact rfl) (hg : GuardIs ops tm o true := by first | exact .free rfl rfl | exact gy) (hd : o.dst = some d := by exact rfl) (hN : Nat.blt d N = true := by exact rfl) : SOps P N ops Q (o :: rest) ⟨tm, bx, ow⟩ := sops_pure hg hd hN (pkt ho hc hb hx) h
theorem oPf {c x y : Operand} {b : Bool} {r : A} {d : Nat} (h : SOps P N ops Q rest ⟨(d, r) :: tm, bx, ow⟩) (ho : o.op = .pick c x y := by exact rfl) (hc : evA tm c = some (.t (.v (.bool b))) := by exact rfl) (hb : b = false := by first | assumption | with_reducible rfl | decide | (simp only [decide_eq_true_eq, decide_eq_false_iff_not]; omega)) (hx : evA tm y = some r := by exact rfl) (hg : GuardIs ops tm o true := by first | exact .free rfl rfl | exact gy) (hd : o.dst = some d := by exact rfl) (hN : Nat.blt d N = true := by exact rfl) : SOps P N ops Q (o :: rest) ⟨tm, bx, ow⟩ := sops_pure hg hd hN (pkf ho hc hb hx) h
theorem xinc {t t2 : TypeId} {x y : Operand} {k : Nat} (ho : o.op = .binOp .add t x y t2) (hx : ρ x = some (.t (.v (.int .i64 (k : Int)))) := by exact rfl) (hy : ρ y = some (.t (.v (.int .i64 1))) := by exact rfl) (h : (k : Int) + 1 ≤ 9223372036854775807 := by omega) : PureOp P bx ow o ρ (.t (.v (.int .i64 ((k + 1 : Nat) : Int)))) := po_inc ho hx hy h
theorem sal {ty : TypeId} {d : Nat} {pl : List (Nat × Nat)} {zs : List Value} (hS : strI P ty = some (pl, zs)) (h : SOps P N ops Q rest ⟨(d, .bp d 0) :: tm, (d, zs.map fun v => A.t (T.v v)) :: bx, ow⟩) (ho : o.op = .alloc ty := by exact rfl) (hg : GuardIs ops tm o true := by first | exact .free rfl rfl | exact gy) (hd : o.dst = some d := by exact rfl) (hN : Nat.blt d N = true := by exact rfl) (hi : get bx d = none := by exact rfl) (hp : Nat.ble 2000 d = false := by exact rfl) (hq : cellB d = true := by exact rfl) : SOps P N ops Q (o :: rest) ⟨tm, bx, ow⟩ := sops_allocS hS hg ho hd hN hi h hp hq
theorem sbx {ty : TypeId} {x : Operand} {y : A} {d : Nat} (h : SOps P N ops Q rest ⟨(d, .bp d 0) :: tm, (d, y.cells) :: bx, ow⟩) (ho : o.op = .box ty x := by exact rfl) (hg : GuardIs ops tm o true := by first | exact .free rfl rfl | exact gy) (hd : o.dst = some d := by exact rfl) (hN : Nat.blt d N = true := by exact rfl) (hx : evA tm x = some y := by exact rfl) (hk : y.okB = true := by exact rfl) (hi : get bx d = none := by exact rfl) (hp : Nat.ble 2000 d = false := by exact rfl) (hq : cellB d = true := by exact rfl) : SOps P N ops Q (o :: rest) ⟨tm, bx, ow⟩ := sops_box hg ho hd hN hx hk hi h hp hq
theorem oS {ty : TypeId} {x z : Operand} {y : A} {i off n : Nat} {ag : Bool} {cs : List A} (h : SOps P N ops Q rest ⟨tm, (i, spl cs off y.cells) :: bx, ow⟩) (ho : o.op = .store ty x z := by exact rfl) (hg : GuardIs ops tm o true := by first | exact .free rfl rfl | exact gy) (hd : o.dst = none := by exact rfl) (hx : evA tm x = some (.bp i off) := by exact rfl) (hz : evA tm z = some y := by exact rfl) (hk : y.okB = true := by exact rfl) (hb : get bx i = some cs := by exact rfl) (hT : tyI P ty = some (ag, n) := by exact tyT rfl) (hn : y.cells.length = n := by exact rfl) (hf : Nat.ble (off + n) cs.length = true := by exact rfl) (hq : cellB i = true := by exact rfl) : SOps P N ops Q (o :: rest) ⟨tm, bx, ow⟩ := sops_store hg ho hd hx hz hk hb hT hn hf h hq
theorem rg (id : Nat) {l : List Oper} {st : St} (h : SOps P N l.toArray Q l st) : SWp P N (.region id l.toArray false) Q st := swp_region h
theorem rd (id : Nat) {l : List Oper} (h : SDraw P N bx ow l.toArray Q [] l tm) (hm : P.follows .mixedOrders = true := by exact mixed) (hB : regionB3 l.toArray l.length N = true := by kernel_rfl) (hD : depsB l.toArray l.length = true := by kernel_rfl) : SWp P N (.region id l.toArray true) Q ⟨tm, bx, ow⟩ := swp_draw_all hm hB hD h
theorem rt {s : Nat} {y : A} {t : T} {st : St} {l : List ResultVar} {ts : List T} (hl : Res P st l ts) (h : get st.tm s = some y := by exact rfl) (hv : Vw st.ow y t := by first | exact .t _ | exact .own rfl (by first | rfl | assumption | (simp; done) | (simp; omega)) | exact .nil _ | exact .emp _ | exact .fn _) : Res P st (.tmp s :: l) (t :: ts) := .tmp h hv hl
theorem rq1 {fn : Func} {r : T} {e : Exit} {st : St} {l : List ResultVar} (hl : fn.results.toList = l) (h : Res P st l [r]) (he : e = .normal ∨ e = .ret := by first | exact .inr rfl | exact .inl rfl) : RetQ P fn r e st := retq he hl h rfl
theorem rq {fn : Func} {r : T} {e : Exit} {st : St} {l : List ResultVar} {ts : List T} (hl : fn.results.toList = l) (h : Res P st l ts) (hr : r = resT ts) (he : e = .normal ∨ e = .ret := by first | exact .inr rfl | exact .inl rfl) : RetQ P fn r e st := retq he hl h hr
theorem yp {W X : List (List Nat)} {k d : Nat} {r : A} (hp : ∀ bxr owr, PureOp P (rst (X.getD k []) bx ++ bxr) (rst (X.getD k []) ow ++ owr) o (evA tm) r) (h : SAny P N ops W X Q (k + 1) rest ⟨(d, r) :: tm, bx, ow⟩) (hg : GuardIs ops tm o true := by first | exact .free rfl rfl | exact gy) (hd : o.dst = some d := by exact rfl) (hW : W.getD k [] = [] := by exact rfl) : SAny P N ops W X Q k (o :: rest) ⟨tm, bx, ow⟩ := sany_pure hg hd hW hp h
theorem fdo {s : TypeId} {x : Operand} {f q i nn sz k off : Nat} {o' : Own} (ho : o.op = .fieldAddr s x f) (hx : ρ x = some (.oe i nn sz k off) := by exact rfl) (hi : get ow i = some o' := by exact rfl) (hnn : nn = o'.rows.length := by first | rfl | assumption | omega | (simp; done) | (simp; omega) | (simp at *; omega)) (hq : fieldOff P s f = some q := by exact tyF rfl) : PureOp P bx ow o ρ (.oe i nn sz k (off + q)) := po_field_own ho hx hi hnn hq
theorem ldo {ty e : TypeId} {x : Operand} {i nn sz k off n : Nat} {rows : List (List T)} {row : List T} {t : T} (ho : o.op = .load ty x) (hx : ρ x = some (.oe i nn sz k off) := by exact rfl) (hi : get ow i = some ⟨e, sz, rows⟩ := by exact rfl) (hnn : nn = rows.length := by first | rfl | assumption | omega | (simp; done) | (simp; omega) | (simp at *; omega)) (hT : tyI P ty = some (false, n) := by exact tyT rfl) (hk : rows[k]? = some row := by first | rfl | assumption | exact map_at (by first | assumption | omega)) (ht : row[off]? = some t := by exact rfl) : PureOp P bx ow o ρ (.t t) := po_load_own ho hx hi hnn hT hk ht
theorem lda {ty e : TypeId} {x : Operand} {i nn sz k off n : Nat} {rows : List (List T)} {row ts : List T} (ho : o.op = .load ty x) (hx : ρ x = some (.oe i nn sz k off) := by exact rfl) (hi : get ow i = some ⟨e, sz, rows⟩ := by exact rfl) (hnn : nn = rows.length := by first | rfl | assumption | omega | (simp; done) | (simp; omega) | (simp at *; omega)) (hT : tyI P ty = some (true, n) := by exact tyT rfl) (hk : rows[k]? = some row := by first | rfl | assumption | exact map_at (by first | assumption | omega)) (hn : ts.length = n := by exact rfl) (ht : (row.drop off).take n = ts := by exact rfl) : PureOp P bx ow o ρ (.t (.agg ts)) := po_load_own_agg ho hx hi hnn hT hk hn ht
theorem ixo {t e : TypeId} {x ix : Operand} {i nn sz k : Nat} {rows : List (List T)} {n : Int} {ik : IntKind} (ho : o.op = .indexAddr t x ix) (hx : ρ x = some (.own i nn) := by exact rfl) (hi : get ow i = some ⟨e, sz, rows⟩ := by exact rfl) (hnn : nn = rows.length := by first | rfl | assumption | omega | (simp; done) | (simp; omega) | (simp at *; omega)) (hix : ρ ix = some (.t (.v (.int ik n))) := by exact rfl) (hT : sliceSz P t = some sz := by exact tyS rfl) (hn : n = (k : Int) := by first | rfl | omega) (hk : k < nn := by first | assumption | omega) : PureOp P bx ow o ρ (.oe i nn sz k 0) := po_index_own ho hx hi hnn hix hT hn hk
theorem sso {ty e : TypeId} {x z : Operand} {y : A} {i nn sz k off n : Nat} {ag : Bool} {rows : List (List T)} {row ts : List T} {t : T} (h : SOps P N ops Q rest ⟨tm, bx, (i, ⟨e, sz, rows.set k (row.take off ++ (ts ++ row.drop (off + n)))⟩) :: ow⟩) (ho : o.op = .store ty x z := by exact rfl) (hg : GuardIs ops tm o true := by first | exact .free rfl rfl | exact gy) (hd : o.dst = none := by exact rfl) (hx : evA tm x = some (.oe i nn sz k off) := by exact rfl) (hh : hid i = true := by rfl) (hi : get ow i = some ⟨e, sz, rows⟩ := by exact rfl) (hnn : nn = rows.length := by first | rfl | assumption | omega | (simp; done) | (simp; omega) | (simp at *; omega))
    (hz : evA tm z = some y := by exact rfl) (hv : Vw ow y t := by first | exact .t _ | exact .own rfl (by first | rfl | assumption | (simp; done) | (simp; omega)) | exact .nil _ | exact .emp _ | exact .fn _) (hk : t.okB = true := by exact rfl) (hts : t.cells = ts := by exact rfl) (hT : tyI P ty = some (ag, n) := by exact tyT rfl) (hn : ts.length = n := by exact rfl) (hrow : rows[k]? = some row := by first | rfl | assumption | exact map_at (by first | assumption | omega)) (hf : Nat.ble (off + n) row.length = true := by exact rfl) : SOps P N ops Q (o :: rest) ⟨tm, bx, ow⟩ := sops_store_own hh hg ho hd hx hi hnn hz hv hk hts hT hn hrow hf h
theorem xadd {t t2 : TypeId} {x y : Operand} {k : IntKind} {i j c : Int} (ho : o.op = .binOp .add t x y t2) (hx : ρ x = some (.t (.v (.int k i))) := by exact rfl) (hy : ρ y = some (.t (.v (.int k j))) := by exact rfl) (h : i + j = c := by exact rfl) (hz : k.wrap c = c := by first | rfl | (refine wrap_i64 ?_; omega)) : PureOp P bx ow o ρ (.t (.v (.int k c))) := po_arith ho hx hy (ar_add hz h)
theorem xist {t : TypeId} {x ix : Operand} {s : ByteArray} {k : Nat} {n : Int} {ik : IntKind} (ho : o.op = .index t x ix) (hx : ρ x = some (.t (.v (.string s))) := by exact rfl) (hi : ρ ix = some (.t (.v (.int ik n))) := by exact rfl) (hu : isStr P t = true := by exact tyR rfl) (hn : n = (k : Int) := by first | rfl | omega) (hk : k < s.size := by first | assumption | omega) : PureOp P bx ow o ρ (.t (.v (.int .u8 s[k].toNat))) := po_index_str ho hx hi hu hn hk
theorem gc {X B : Prop} (k : B) (h : W1 B → X := by (intro k_; (first | (show SWp _ _ _ _ _; first | refine swp_seq ?_ | refine swp_ret ?_ | refine swp_skip ?_ | refine swp_block ?_ | refine swp_exit ?_) | (show Then _ _ _ _ _ _; first | refine then_go ?_ | refine then_ret ?_ | refine then_exit ?_) | (show InBlock _ _ _ _; first | refine block_go ?_ | refine block_exit ?_ | refine block_far rfl ?_ | refine block_ret ?_) | (show ForQ _ _ _ _ _ _ _ _; first | refine for_ret ?_ | refine for_exit ?_)); (repeat (first | (show SWp _ _ _ _ _; first | refine swp_seq ?_ | refine swp_ret ?_ | refine swp_skip ?_ | refine swp_block ?_ | refine swp_exit ?_) | (show Then _ _ _ _ _ _; first | refine then_go ?_ | refine then_ret ?_ | refine then_exit ?_) | (show InBlock _ _ _ _; first | refine block_go ?_ | refine block_exit ?_ | refine block_far rfl ?_ | refine block_ret ?_) | (show ForQ _ _ _ _ _ _ _ _; first | refine for_ret ?_ | refine for_exit ?_))); exact k_.p)) : X := h ⟨k⟩
end
end Go.Proofs.YtloippgblkoemaaGreatDoor.Sim

/- Headers: in memory, opened, as trees of data. -/
namespace Go.Proofs.YtloippgblkoemaaGreatDoor.Pl
set_option linter.unusedVariables false
set_option linter.unusedSimpArgs false
structure Head where
  name : ByteArray
  value : ByteArray
deriving Inhabited
end Go.Proofs.YtloippgblkoemaaGreatDoor.Pl
namespace Go.Proofs.YtloippgblkoemaaGreatDoor.Hd
set_option linter.unusedVariables false
set_option linter.unusedSimpArgs false
open Go.RowKit Go.WideShapes Go.ChangeShapes Go.Joins Mem Sim Opn
def HeadR : Rel Pl.Head := fun _ _ h cs => cs = [.string h.name, .string h.value] ∧ h.name.size ≤ maxLen ∧ h.value.size ≤ maxLen
theorem HeadR.kept : Kept HeadR := fun _ _ _ _ _ _ h _ _ => h
theorem one_string : Tryz.prog.cellsOf 9 = 1 := by kernel_rfl
theorem cells_Head : Tryz.prog.cellsOf 65 = 2 := by kernel_rfl
set_option maxRecDepth 100000 in
theorem head_opens : Opens 65 HeadR := by
  intro H enc w base spare held fuel cs x h
  obtain ⟨xs, n, _, hx, hlen, hxl, hf⟩ := DataW.trod_struct Tryz.underlying65 h
  have hl := hlen.trans cells_Head
  obtain ⟨c0, c1, rfl⟩ : ∃ c0 c1, cs = [c0, c1] := by
    match cs, hl with
    | [c0, c1], _ => exact ⟨c0, c1, rfl⟩
  obtain ⟨y0, y1, rfl⟩ : ∃ y0 y1, xs = [y0, y1] := by
    match xs, hxl with
    | [y0, y1], _ => exact ⟨y0, y1, rfl⟩
  have f0 : DataW.trod enc Tryz.prog w base spare held n 9 [c0] = some y0 := by
    have := hf 0 _ rfl
    simpa [one_string] using this
  obtain ⟨v0, r0, z0⟩ := (opens_str Tryz.underlying9) H enc w base spare held n [c0] y0 f0
  have f1 : DataW.trod enc Tryz.prog w base spare held n 9 [c1] = some y1 := by
    have := hf 1 _ rfl
    simpa [one_string] using this
  obtain ⟨v1, r1, z1⟩ := (opens_str Tryz.underlying9) H enc w base spare held n [c1] y1 f1
  injection r0 with r0; injection r1 with r1; subst r0 r1
  exact ⟨⟨v0, v1⟩, rfl, z0, z1⟩
theorem heads_opens : Opens 22 (SliceC HeadR 2) := opens_slice (R := HeadR) Tryz.underlying22 cells_Head (by omega) head_opens
def headT (x : Pl.Head) : List T := [.v (.string x.name), .v (.string x.value)]
abbrev headsT (l : List Pl.Head) : T := .sl 2 (l.map headT)
def okHead (x : Pl.Head) : Prop := x.name.size ≤ maxLen ∧ x.value.size ≤ maxLen
theorem heads_ok {B : Nat} {w : World} {A : Option Addr} {l : List Pl.Head} (hA : SliceAt HeadR 2 B w A l) : ∀ h ∈ l, okHead h := fun h hh => by
  obtain ⟨k, hk⟩ := List.getElem?_of_mem hh
  obtain ⟨b, off, cs, _, _, _, _, hr⟩ := hA k h hk
  exact hr.2
end Go.Proofs.YtloippgblkoemaaGreatDoor.Hd
