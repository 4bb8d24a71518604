/- Merged by bundles.py: SimArr, Post0, Open0, SimTab. -/
import Derived.Test.YtpncekdhigappaaDoorR13
import Derived.Test.YtpncekdhigappaaDoorR0
import Derived.ProofKit
import Derived.OpenShut
import Derived.Lib.SmallJoins
import Derived.ShutString
import Derived.ChangeSame
import Derived.Deep.Slices
import Derived.Test.YtpncekdhigappaaDoorR6
/- A logic of states: arrays of 256 cells; a pointer looked at. -/
namespace Go.Proofs.YtpncekdhigappaaDoor.Sim
set_option linter.unusedVariables false
set_option linter.unusedSimpArgs false
open Go.RowKit Mem
def arrA (f : Nat → Value) : List A := (List.range 256).map fun i => .t (.v (f i))
def arrT (f : Nat → Value) : List T := (List.range 256).map fun i => .v (f i)
theorem arrA_len (f : Nat → Value) : (arrA f).length = 256 := by unfold arrA; rw [List.length_map, List.length_range]
theorem arrT_len (f : Nat → Value) : (arrT f).length = 256 := by unfold arrT; rw [List.length_map, List.length_range]
theorem arrT_map (f : Nat → Value) : (arrT f).map A.t = arrA f := by unfold arrA arrT; rw [List.map_map]; rfl
theorem arrA_get (f : Nat → Value) {c : Nat} (h : c < 256) : (arrA f)[c]? = some (.t (.v (f c))) := by
  unfold arrA; rw [List.getElem?_map, List.getElem?_range h]; rfl
theorem arrA_at (f : Nat → Value) {c : Nat} (h : c < 256) : (arrA f)[0 + c * 1]? = some (.t (.v (f c))) := by
  rw [Nat.zero_add, Nat.mul_one]; exact arrA_get f h
theorem arrA_fit (f : Nat → Value) {c : Nat} (h : c < 256) : Nat.ble (0 + c * 1 + 1) (arrA f).length = true := by
  rw [arrA_len, Nat.ble_eq]; omega
theorem arrA_set (f : Nat → Value) {c : Nat} (h : c < 256) (v : Value) : spl (arrA f) (0 + c * 1) [.t (.v v)] = arrA (fun i => if i = c then v else f i) := by
  unfold spl
  rw [Nat.zero_add, Nat.mul_one]
  refine List.ext_getElem? fun j => ?_
  have hl : ((arrA f).take c).length = c := by rw [List.length_take, arrA_len]; omega
  by_cases hj : j < 256
  · rw [arrA_get _ hj]
    rcases Nat.lt_trichotomy j c with h1 | h1 | h1
    · rw [List.getElem?_append_left (by omega), List.getElem?_take_of_lt h1, arrA_get f hj, if_neg (by omega)]
    · subst h1
      rw [List.getElem?_append_right (by omega), hl, Nat.sub_self, if_pos rfl]; rfl
    · rw [List.getElem?_append_right (by omega), hl, List.getElem?_append_right (by simp; omega), List.getElem?_drop]
      rw [show c + [A.t (.v v)].length + (j - c - [A.t (.v v)].length) = j by simp; omega, arrA_get f hj, if_neg (by omega)]
  · rw [List.getElem?_eq_none (by simp [hl, arrA_len]; omega), List.getElem?_eq_none (by rw [arrA_len]; omega)]
theorem arrA_zero (z : Value) : List.replicate 256 (A.t (.v z)) = arrA fun _ => z := by
  refine List.ext_getElem? fun j => ?_
  by_cases hj : j < 256
  · rw [arrA_get _ hj, List.getElem?_replicate, if_pos hj]
  · rw [List.getElem?_eq_none (by rw [List.length_replicate]; omega), List.getElem?_eq_none (by rw [arrA_len]; omega)]
theorem spl_arr (g f : Nat → Value) : spl (arrA g) 0 (A.t (.agg (arrT f))).cells = arrA f := by
  rw [cells_agg, arrT_map, spl_all _ _ (by rw [arrA_len, arrA_len])]
theorem arrT_congr {f g : Nat → Value} (h : ∀ i, i < 256 → f i = g i) : arrT f = arrT g := by
  unfold arrT
  exact List.map_congr_left fun i hi => by rw [h i (List.mem_range.1 hi)]
theorem arrA_congr {f g : Nat → Value} (h : ∀ i, i < 256 → f i = g i) : arrA f = arrA g := by
  rw [← arrT_map, ← arrT_map, arrT_congr h]
section
variable {P : Program} {N : Nat} {Q : Exit → St → Prop} {ops : Array Oper} {rest : List Oper} {tm : List (Nat × A)} {bx : List (Nat × List A)} {ow : List (Nat × Own)} {o : Oper} {ρ : Operand → Option A} {r : A}
theorem vwl_arr0 (f : Nat → Value) : VwL ow (arrA f) (arrT f) := by rw [← arrT_map]; exact vwl_t _
theorem vwl_arr (f : Nat → Value) : VwL ow (((arrA f).drop 0).take 256) (arrT f) := by
  rw [List.drop_zero, List.take_of_length_le (by rw [arrA_len]; omega)]; exact vwl_arr0 f
theorem vwl_spl (g f : Nat → Value) : VwL ow (spl (arrA g) 0 (A.t (.agg (arrT f))).cells) (arrT f) := by rw [spl_arr]; exact vwl_arr0 f
/-- a whole array written into a variable -/
theorem sops_store_arr {ty : TypeId} {x z : Operand} {i : Nat} {g f : Nat → Value} (hT : tyI P ty = some (true, 256)) (hg : GuardIs ops tm o true) (ho : o.op = .store ty x z) (hd : o.dst = none) (hx : evA tm x = some (.bp i 0)) (hz : evA tm z = some (.t (.agg (arrT f)))) (hb : get bx i = some (arrA g))
    (h : SOps P N ops Q rest ⟨tm, (i, arrA f) :: bx, ow⟩) (hq : cellB i = true := by rfl) : SOps P N ops Q (o :: rest) ⟨tm, bx, ow⟩ :=
  sops_store (y := .t (.agg (arrT f))) (n := 256) hg ho hd hx hz rfl hb hT (by rw [cells_agg, List.length_map, arrT_len]) (by rw [arrA_len]; rfl) (by rw [spl_arr]; exact h) hq
theorem po_load_arr {ty : TypeId} {x : Operand} {i : Nat} {f : Nat → Value} (hT : tyI P ty = some (true, 256)) (ho : o.op = .load ty x) (hx : ρ x = some (.bp i 0)) (hb : get bx i = some (arrA f)) (hq : cellB i = true := by rfl) : PureOp P bx ow o ρ (.t (.agg (arrT f))) :=
  po_load_bx_agg ho hx hT hb (vwl_arr f) (arrT_len f) hq
/-- an array's variable, its zero in it -/
theorem sops_alloc_256 {ty : TypeId} {z v : Value} {d : Nat} (hz : (P.info? ty).bind (·.zero) = some z) (hc : z.cells.toList = List.replicate 256 v) (h1 : v.oneCell' = true) (hg : GuardIs ops tm o true) (ho : o.op = .alloc ty) (hd : o.dst = some d) (hN : Nat.blt d N = true) (hi : get bx d = none)
    (h : SOps P N ops Q rest ⟨(d, .bp d 0) :: tm, (d, arrA fun _ => v) :: bx, ow⟩) (hp : Nat.ble 2000 d = false := by rfl) (hqc : cellB d = true := by rfl) : SOps P N ops Q (o :: rest) ⟨tm, bx, ow⟩ :=
  sops_alloc_arr hg ho hd hN hz hc h1 hi (by rw [arrA_zero]; exact h) hp hqc
/-- an element written -/
theorem sops_store_at {ty : TypeId} {x z : Operand} {i c : Nat} {f : Nat → Value} {v : Value} {off : Nat} (hT : tyI P ty = some (false, 1)) (h1 : v.oneCell' = true) (hc : c < 256) (hg : GuardIs ops tm o true) (ho : o.op = .store ty x z) (hd : o.dst = none) (hx : evA tm x = some (.bp i off)) (hoff : off = 0 + c * 1) (hz : evA tm z = some (.t (.v v))) (hb : get bx i = some (arrA f))
    (h : SOps P N ops Q rest ⟨tm, (i, arrA fun j => if j = c then v else f j) :: bx, ow⟩) (hq : cellB i = true := by rfl) : SOps P N ops Q (o :: rest) ⟨tm, bx, ow⟩ := by
  subst hoff
  have hcs : (A.t (.v v)).cells = [A.t (.v v)] := by cases v <;> first | rfl | cases h1
  have hk : (A.t (.v v)).okB = true := by cases v <;> first | rfl | cases h1
  refine sops_store (y := .t (.v v)) (n := 1) hg ho hd hx hz hk hb hT (by rw [hcs]; rfl) (arrA_fit f hc) ?_ hq
  rw [hcs, arrA_set f hc]; exact h
theorem po_load_at {ty : TypeId} {x : Operand} {i c off : Nat} {f : Nat → Value} (hT : tyI P ty = some (false, 1)) (hc : c < 256) (ho : o.op = .load ty x) (hx : ρ x = some (.bp i off)) (hoff : off = 0 + c * 1) (hb : get bx i = some (arrA f)) (hq : cellB i = true := by rfl) : PureOp P bx ow o ρ (.t (.v (f c))) := by
  subst hoff
  exact po_load_bx ho hx hT hb (arrA_at f hc) hq
theorem po_nilcheck {x : Operand} {i off : Nat} (ho : o.op = .nilCheck x) (hx : ρ x = some (.bp i off)) : PureOp P bx ow o ρ (.bp i off) := pure_run fun C m g w a he h => by
  obtain ⟨h0, h1⟩ := h x (by simp [ho, Op.operands]) _ hx
  exact ⟨_, by simp [execOp, ho, h1], h0, rfl⟩
end
end Go.Proofs.YtpncekdhigappaaDoor.Sim

/- The rows' last step: arguments opened, the row shut where only new memory was made. -/
namespace Go.Proofs.YtpncekdhigappaaDoor.Post
set_option linter.unusedVariables false
set_option linter.unusedSimpArgs false
open Go.RowKit Go.WideShapes Go.ChangeShapes Go.Joins Mem
section
variable {H : Type} {enc : TypeId × Value → H} {P : Program}
theorem post_of_below {f : Func} {s : ChangeSpec} {apart fresh handsOn again : Bool} {W W' : World} {args : Array Value} {v : Value} {ds gs : List (DataW H)} {before pa pv : List MemPlace}
    (hW : DataW.Whole enc P f.params.toList s.vars apart W args.toList ds gs before)
    (hres : ∀ (b : Nat) (sp : Nat → Bool) (hd : Bool), DataW.TrodAll enc P W' b sp hd f.resultTypes.toList (v.resultList f.resultTypes.size) (s.fn H (ds ++ gs)).results [])
    (hargs : ∀ sp : Nat → Bool, (∀ p ∈ before, sp p.block = true) → DataW.TrodAll enc P W' 0 sp true f.params.toList args.toList (s.fn H (ds ++ gs)).args pa)
    (hvars : ∀ sp : Nat → Bool, (∀ p ∈ before, sp p.block = true) → DataW.TrodVars enc P W' sp s.vars (s.fn H (ds ++ gs)).vars pv)
    (hps : before = pa ++ pv) (hb : Below W.heap.size W W')
    (hok : ∀ (j : Nat) (t : TypeId) (r : Value), f.resultTypes[j]? = some t → (v.resultList f.resultTypes.size)[j]? = some r → Value.okWide P W' .any 0 t r) :
    s.post enc P f apart fresh handsOn again W args v W' := by
  have hlt : ∀ p ∈ before, p.block < W.heap.size := fun p hp => hW.lt p hp
  have hold : ∀ p ∈ before, (fun b => decide (b < W.heap.size)) p.block = true := fun p hp => by simpa using hlt p hp
  refine ⟨ds, gs, before, [], pa, pv, hW, hres _ _ _, hargs _ hold, hvars _ hold, World.keptBut_mono (fun p hp => ⟨hp, ?_⟩) (hb.frame (· ∈ before)), fun _ => ?_⟩
  · rw [hps, List.mem_append] at hp
    exact Or.inr hp
  · obtain ⟨_, _, _, _, _, hz, hn⟩ := hW
    refine ⟨hok, _, _, ([] ++ pa) ++ pv, ⟨[] ++ pa, pv, trodAll_append (hargs _ (fun _ _ => rfl)) (hres _ _ _), hvars _ (fun _ _ => rfl), rfl, ?_, ?_⟩, ?_⟩
    · intro b off hp
      have hin : MemPlace.cell b off ∈ before := by rw [hps]; simpa using hp
      rw [hb.frozen (hlt _ hin)]
      exact hz b off hin
    · intro ha
      have := hn ha
      rw [hps] at this
      simpa using this
    · intro p hp _
      rw [hps]
      simpa using hp
theorem trodAll_stays {W W' : World} {sp' : Nat → Bool} (hl : laidOutB P = true) : ∀ {ts : List TypeId} {vs : List Value} {ds : List (DataW H)} {ps : List MemPlace}, (∀ t ∈ ts, P.readableRec t = true ∧ t < P.types.size) →
    DataW.TrodAll enc P W 0 (fun _ => true) true ts vs ds ps → (∀ p ∈ ps, W.sameAt W' p) → (∀ p ∈ ps, sp' p.block = true) → DataW.TrodAll enc P W' 0 sp' true ts vs ds ps
  | [], vs, ds, ps, _, h, _, _ => by obtain ⟨rfl, rfl, rfl⟩ := trodAll_nil h; exact trodAll_mk0
  | t :: ts, vs, ds, ps, hr, h, hs, hsp => by
    obtain ⟨v, vs', d, ds', p, q, rfl, rfl, rfl, h0, r0⟩ := trodAll_cons h
    obtain ⟨hr1, hr2⟩ := hr t (by simp)
    exact trodAll_cons_mk (WideElems.Trod_stays hl hr1 hr2 h0 (fun x hx => hs x (by simp [hx])) (fun x hx => hsp x (by simp [hx])))
      (trodAll_stays hl (fun t ht => hr t (by simp [ht])) r0 (fun x hx => hs x (by simp [hx])) (fun x hx => hsp x (by simp [hx])))

/-- A LAW's END: it returned true, and nothing that was there has turned. -/
theorem law_post {f : Func} {s : ChangeSpec} {apart fresh handsOn again : Bool} {W W' : World} {args : Array Value} {ds gs : List (DataW H)} {before : List MemPlace} {tb : TypeId}
    (hl : laidOutB P = true) (hr : ∀ t ∈ f.params.toList, P.readableRec t = true ∧ t < P.types.size) (hvars : s.vars = []) (hb1 : P.underlying tb = some .bool) (hres : f.resultTypes = #[tb])
    (hfn : gs = [] → s.fn H (ds ++ gs) = { results := [.lit (.bool true)], args := ds })
    (hW : DataW.Whole enc P f.params.toList s.vars apart W args.toList ds gs before) (hb : Lo W W') : s.post enc P f apart fresh handsOn again W args (.bool true) W' := by
  have hW' := hW
  obtain ⟨p, q, hA, hV, rfl, _, _⟩ := hW
  rw [hvars] at hV
  obtain ⟨rfl, rfl⟩ := trodVars_none hV
  have hf := hfn rfl
  have hlt : ∀ x ∈ p, x.block < W.heap.size := fun x hx => hW'.lt x (by simp [hx])
  refine post_of_below (pa := p) (pv := []) hW' ?_ ?_ ?_ rfl hb ?_
  · intro b sp hd
    rw [hf, hres]
    exact trodAll_mk1 (shut_bool hb1 _)
  · intro sp hsp
    rw [hf]
    exact trodAll_stays hl hr hA (fun x hx => Below.same hb (hlt x hx)) (fun x hx => hsp x (by simp [hx]))
  · intro sp _
    rw [hf, hvars]
    rfl
  · exact ok_one hres rfl (okWide_bool_mk hb1 _)
end
theorem Tryd.own : ownKnob Tryd.prog.godebug = none := by kernel_rfl
theorem Tryd.laidOut : laidOutB Tryd.prog = true := by kernel_rfl
end Go.Proofs.YtpncekdhigappaaDoor.Post

/- Arguments opened: what a reading says of the cells, type by type. -/
namespace Go.Proofs.YtpncekdhigappaaDoor.Mem
set_option linter.unusedVariables false
set_option linter.unusedSimpArgs false
open Go.RowKit
/-- one cell, a slice -/
def SliceC {α : Type} (R : Rel α) (sz : Nat) : Rel (List α) := fun B w xs cs => ∃ A cap, cs = [.slice A xs.length cap] ∧ SliceAt R sz B w A xs ∧ xs.length ≤ cap ∧ cap ≤ maxLen
theorem SliceC.kept {α : Type} {R : Rel α} {sz : Nat} (hR : Kept R) : Kept (SliceC R sz) := by
  rintro B B' w w' x cs ⟨A, cap, rfl, h, h1, h2⟩ hk hB
  exact ⟨A, cap, rfl, h.keep hR hk hB, h1, h2⟩
/-- one cell, a number -/
def IntC (k : IntKind) : Rel Int := fun _ _ x cs => cs = [.int k x] ∧ (Lit.int k x).wf = true
theorem IntC.kept (k : IntKind) : Kept (IntC k) := fun _ _ _ _ _ _ h _ _ => h
/-- one cell, a text -/
def StrC : Rel ByteArray := fun _ _ s cs => cs = [.string s] ∧ s.size ≤ maxLen
theorem StrC.kept : Kept StrC := fun _ _ _ _ _ _ h _ _ => h
end Go.Proofs.YtpncekdhigappaaDoor.Mem
namespace Go.Proofs.YtpncekdhigappaaDoor.Opn
set_option linter.unusedVariables false
set_option linter.unusedSimpArgs false
set_option maxRecDepth 100000
open Go.RowKit Go.WideShapes Go.ChangeShapes Go.Joins Mem

/-- a reading at type t gives R -/
def Opens {α : Type} (t : TypeId) (R : Rel α) : Prop :=
  ∀ (H : Type) (enc : TypeId × Value → H) (w : World) (base : Nat) (spare : Nat → Bool) (held : Bool) (fuel : Nat) (cs : List Value) (x : DataW H × List MemPlace), DataW.trod enc Tryd.prog w base spare held fuel t cs = some x → ∃ y, R w.heap.size w y cs

theorem slice_opens {α : Type} [Inhabited α] {t e sz : Nat} {R : Rel α} (ht : Tryd.prog.underlying t = some (.slice e)) (hC : Tryd.prog.cellsOf e = sz) (hsz : 0 < sz) (hR : Opens e R)
    {H : Type} {enc : TypeId × Value → H} {w : World} {base : Nat} {spare : Nat → Bool} {held : Bool} {fuel : Nat} {cs : List Value} {x : DataW H × List MemPlace} (h : DataW.trod enc Tryd.prog w base spare held fuel t cs = some x) :
    ∃ (A : Option Addr) (cap : Nat) (xs : List α), cs = [.slice A xs.length cap] ∧ SliceAt R sz w.heap.size w A xs ∧ xs.length ≤ cap ∧ cap ≤ maxLen := by
  rcases Go.Deep.open_slice ht h with ⟨hcs, _⟩ | ⟨a, len, cap, m, n, D, Pl, hcs, hb, hl, hm, hmm, hx, hi⟩
  · exact ⟨none, 0, [], hcs, SliceAt.nil, Nat.le_refl _, Nat.zero_le _⟩
  · have hlm : len ≤ m := by rw [hmm]; split <;> omega
    have hex : ∀ i, i < len → ∃ (y : α) (cs' : List Value), w.cells? base (a.add (i * sz)) sz = some cs' ∧ R w.heap.size w y cs' := by
      intro i hil
      obtain ⟨cs', hc, ht'⟩ := hi i (by omega)
      rw [hC] at hc
      obtain ⟨y, hy⟩ := hR H enc w base spare held n cs' _ ht'
      exact ⟨y, cs', hc, hy⟩
    have hf : ∃ f : Nat → α, ∀ i, i < len → ∃ cs', w.cells? base (a.add (i * sz)) sz = some cs' ∧ R w.heap.size w (f i) cs' := by
      refine ⟨fun i => if h : i < len then (hex i h).choose else default, fun i hil => ?_⟩
      simp only [dif_pos hil]
      exact (hex i hil).choose_spec
    obtain ⟨f, hf⟩ := hf
    refine ⟨some a, cap, (List.range len).map f, by simpa using hcs, ?_, by simpa using hl, hm⟩
    intro k y hk
    have hkl : k < len := by
      rcases Nat.lt_or_ge k len with h' | h'
      · exact h'
      · rw [List.getElem?_eq_none (by simpa using h')] at hk; cases hk
    rw [List.getElem?_map, List.getElem?_range hkl] at hk
    simp at hk; subst hk
    obtain ⟨cs', hc, hr⟩ := hf k hkl
    obtain ⟨_, hlen, hat⟩ := World.cells?_some hc
    have h0 : w.cell? ((a.add (k * sz)).add 0) = some (cs'[0]'(by omega)) := by rw [hat 0 hsz, List.getElem?_eq_getElem]
    obtain ⟨b, off, spot⟩ := a
    have hspot : k = 0 → spot = none := by
      intro hk0; subst hk0
      simp [Addr.add] at h0
      cases spot with
      | none => rfl
      | some q =>
        simp only [World.cell?] at h0
        split at h0
        · simp at h0
        · cases h0
    -- the row's address bears no spot: its first element shows it
    have hsp : spot = none := by
      rcases Nat.eq_zero_or_pos k with hk0 | hk0
      · exact hspot hk0
      · obtain ⟨cs0, hc0, _⟩ := hf 0 (by omega)
        obtain ⟨_, hlen0, hat0⟩ := World.cells?_some hc0
        have h00 : w.cell? (((⟨b, off, spot⟩ : Addr).add (0 * sz)).add 0) = some (cs0[0]'(by omega)) := by rw [hat0 0 hsz, List.getElem?_eq_getElem]
        simp [Addr.add] at h00
        cases spot with
        | none => rfl
        | some q =>
          simp only [World.cell?] at h00
          split at h00
          · simp at h00
          · cases h00
    subst hsp
    have hadd : ∀ j, ((⟨b, off, none⟩ : Addr).add (k * sz)).add j = ⟨b, off + (k * sz + j), none⟩ := by
      intro j
      rw [Go.Deep.add_add, addr_add]
    refine ⟨b, off, cs', rfl, ?_, hlen, ?_, hr⟩
    · have := World.block_lt_of_cell? w _ h0
      rw [hadd] at this
      exact this
    · intro j v hj
      have hjl : j < sz := by rw [← hlen]; exact (List.getElem?_eq_some_iff.1 hj).1
      rw [← hadd, hat j hjl, hj]
theorem opens_int {t : TypeId} {k : IntKind} (ht : Tryd.prog.underlying t = some (.int k)) : Opens t (IntC k) := by
  intro H enc w base spare held fuel cs x h
  obtain ⟨n, rfl, _, hw⟩ := DataW.trod_int ht h
  exact ⟨n, rfl, hw⟩
theorem opens_str {t : TypeId} (ht : Tryd.prog.underlying t = some .string) : Opens t StrC := by
  intro H enc w base spare held fuel cs x h
  obtain ⟨s, rfl, _, hw⟩ := DataW.trod_string ht h
  exact ⟨s, rfl, hw⟩
theorem opens_slice {α : Type} [Inhabited α] {t e sz : Nat} {R : Rel α} (ht : Tryd.prog.underlying t = some (.slice e)) (hC : Tryd.prog.cellsOf e = sz) (hsz : 0 < sz) (hR : Opens e R) : Opens t (SliceC R sz) := by
  intro H enc w base spare held fuel cs x h
  obtain ⟨A, cap, xs, rfl, hA, h1, h2⟩ := slice_opens ht hC hsz hR h
  exact ⟨xs, A, cap, rfl, hA, h1, h2⟩
/-- a slice handed in -/
theorem open_slice_arg {α : Type} {t e : TypeId} {R : Rel α} {sz : Nat} (ht : Tryd.prog.underlying t = some (.slice e)) (hO : Opens t (SliceC R sz)) {H : Type} {enc : TypeId × Value → H} {w : World} {r : Reach} {b0 base : Nat} {spare : Nat → Bool} {held : Bool} {v : Value} {d : DataW H} {p : List MemPlace}
    (hv : Value.okWide Tryd.prog w r b0 t v) (h : DataW.Trod enc Tryd.prog w base spare held t v d p) :
    ∃ (A : Option Addr) (cap : Nat) (xs : List α), v = .slice A xs.length cap ∧ SliceAt R sz w.heap.size w A xs ∧ xs.length ≤ cap ∧ cap ≤ maxLen := by
  obtain ⟨a, len, c, rfl⟩ := okWide_slice ht hv
  obtain ⟨fuel, hf⟩ := h
  obtain ⟨xs, A, cap, hcs, hA, h1, h2⟩ := hO H enc w base spare held fuel _ _ hf
  simp [Value.cells] at hcs
  obtain ⟨rfl, rfl, rfl⟩ := hcs
  exact ⟨_, _, xs, rfl, hA, h1, h2⟩
/-- a number handed in -/
theorem open_int_arg {t : TypeId} {k : IntKind} (ht : Tryd.prog.underlying t = some (.int k)) {H : Type} {enc : TypeId × Value → H} {w : World} {r : Reach} {b0 base : Nat} {spare : Nat → Bool} {held : Bool} {v : Value} {d : DataW H} {p : List MemPlace}
    (hv : Value.okWide Tryd.prog w r b0 t v) (h : DataW.Trod enc Tryd.prog w base spare held t v d p) : ∃ n, v = .int k n ∧ (Lit.int k n).wf = true := by
  obtain ⟨n, rfl⟩ := okWide_int ht hv
  obtain ⟨fuel, hf⟩ := h
  obtain ⟨m, hm, _, hw⟩ := DataW.trod_int ht hf
  simp [Value.cells] at hm
  subst hm
  exact ⟨_, rfl, hw⟩
end Go.Proofs.YtpncekdhigappaaDoor.Opn

/- The program's types: cells, fields, elements. (Printed by mk_tab.py.) -/

namespace Go.Proofs.YtpncekdhigappaaDoor.Sim
open Go.RowKit Mem
set_option linter.unusedVariables false
set_option maxRecDepth 100000
def tabT : List (Nat × Bool × Nat) := [(1, false, 1), (2, false, 1), (3, false, 1), (4, false, 1), (5, false, 1), (6, false, 1), (7, true, 4), (8, true, 4), (9, false, 1), (10, false, 1), (11, false, 1), (12, false, 1), (13, true, 2), (14, true, 2), (15, false, 1), (16, false, 1), (17, false, 1), (18, true, 1), (19, true, 1), (21, false, 1), (22, false, 1), (23, false, 1), (24, false, 1), (25, true, 3), (26, true, 3), (27, false, 1), (29, false, 1), (30, false, 1), (31, true, 2), (32, true, 2), (33, false, 1), (34, false, 1), (35, false, 1), (37, false, 1), (38, false, 1), (40, false, 1), (41, false, 1), (42, true, 3), (43, true, 3), (44, false, 1), (45, false, 1), (46, false, 1), (47, false, 1), (48, false, 1), (49, true, 3), (50, true, 3), (52, false, 1), (53, false, 1), (54, false, 1), (55, false, 1), (56, true, 7), (57, true, 7), (59, false, 1), (60, false, 1), (61, false, 1), (63, false, 1), (65, false, 1), (66, false, 1), (67, false, 1), (68, false, 1), (69, false, 1), (70, false, 1), (71, false, 1), (72, false, 1), (73, false, 1), (74, false, 1), (75, false, 1), (76, false, 1), (77, false, 1), (79, false, 1), (80, false, 1), (81, false, 1), (82, false, 1), (83, true, 8), (84, true, 8), (85, false, 1), (86, false, 1), (87, false, 1), (88, false, 1), (89, false, 1), (91, false, 1), (92, false, 1), (93, false, 1), (94, true, 7), (95, false, 1), (96, false, 1), (97, false, 1), (98, false, 1), (99, false, 1), (100, false, 1), (101, false, 1), (102, false, 1), (103, false, 1), (104, false, 1), (105, true, 256), (106, false, 1), (107, false, 1), (109, false, 1), (111, false, 1), (112, false, 1), (114, false, 1), (115, false, 1), (116, false, 1), (117, true, 256), (118, true, 256), (120, false, 1), (121, false, 1), (122, false, 1), (124, false, 1), (125, false, 1), (126, false, 1), (127, true, 256), (128, true, 2), (129, true, 2), (130, true, 32), (131, false, 1), (132, true, 4), (133, true, 4), (134, true, 0), (135, true, 0), (136, true, 0), (137, false, 1), (138, false, 1), (139, false, 1), (140, false, 1), (141, false, 1), (142, false, 1), (143, false, 1), (144, true, 11), (145, true, 11), (146, false, 1)]
def tabS : List (Nat × Nat) := [(23, 2), (24, 1), (35, 3), (38, 3), (74, 1)]
def tabR : List Nat := [9, 10, 11]
def tabK : List (Nat × IntKind) := [(2, .i64), (3, .i64), (5, .u8), (6, .u8), (12, .u64), (21, .i32), (27, .i64), (103, .u64), (112, .u32), (138, .u8), (139, .u8), (142, .i32), (143, .i32)]
def tabF : List (Nat × Nat × Nat) := [(7, 0, 0), (7, 1, 1), (7, 2, 2), (7, 3, 3), (8, 0, 0), (8, 1, 1), (8, 2, 2), (8, 3, 3), (13, 0, 0), (13, 1, 1), (14, 0, 0), (14, 1, 1), (18, 0, 0), (19, 0, 0), (25, 0, 0), (25, 1, 1), (25, 2, 2), (26, 0, 0), (26, 1, 1), (26, 2, 2), (31, 0, 0), (31, 1, 1), (32, 0, 0), (32, 1, 1), (42, 0, 0), (42, 1, 1), (42, 2, 2), (43, 0, 0), (43, 1, 1), (43, 2, 2), (49, 0, 0), (49, 1, 1), (49, 2, 2), (50, 0, 0), (50, 1, 1), (50, 2, 2), (56, 0, 0), (56, 1, 1), (56, 2, 2), (56, 3, 5), (56, 4, 6), (57, 0, 0), (57, 1, 1), (57, 2, 2), (57, 3, 5), (57, 4, 6), (83, 0, 0), (83, 1, 7), (84, 0, 0), (84, 1, 7), (128, 0, 0), (128, 1, 1), (129, 0, 0), (129, 1, 1), (132, 0, 0), (132, 1, 1), (132, 2, 2), (132, 3, 3), (133, 0, 0), (133, 1, 1), (133, 2, 2), (133, 3, 3), (144, 0, 0), (144, 1, 1), (144, 2, 2), (144, 3, 3), (144, 4, 4), (144, 5, 5), (144, 6, 6), (144, 7, 7), (144, 8, 8), (144, 9, 9), (144, 10, 10), (145, 0, 0), (145, 1, 1), (145, 2, 2), (145, 3, 3), (145, 4, 4), (145, 5, 5), (145, 6, 6), (145, 7, 7), (145, 8, 8), (145, 9, 9), (145, 10, 10)]
def tabE : List (Nat × Nat × Nat × Nat) := [(23, 32, 2, 32), (24, 5, 1, 1), (35, 26, 3, 56), (38, 43, 3, 64), (74, 9, 1, 16)]
def allB {α : Type} (p : α → Bool) : List α → Bool
  | [] => true
  | x :: r => p x && allB p r
theorem allB_mem {α : Type} {p : α → Bool} : ∀ {l : List α}, allB p l = true → ∀ x ∈ l, p x = true
  | [], _, x, h => by cases h
  | y :: r, h, x, hx => by
    simp only [allB, Bool.and_eq_true] at h
    rcases List.mem_cons.1 hx with rfl | hx
    · exact h.1
    · exact allB_mem h.2 x hx
def lk {β : Type} : List (Nat × β) → Nat → Option β
  | [], _ => none
  | (a, b) :: r, n => bif Nat.beq a n then some b else lk r n
theorem lk_mem {β : Type} : ∀ {l : List (Nat × β)} {n : Nat} {b : β}, lk l n = some b → (n, b) ∈ l
  | [], n, b, h => by cases h
  | (a, b') :: r, n, b, h => by
    unfold lk at h
    cases hb : Nat.beq a n with
    | true => rw [hb] at h; injection h with h; subst h; rw [Nat.eq_of_beq_eq_true hb]; exact List.mem_cons_self
    | false => rw [hb] at h; exact List.mem_cons_of_mem _ (lk_mem h)
def lk2 {β : Type} : List (Nat × Nat × β) → Nat → Nat → Option β
  | [], _, _ => none
  | (a, c, b) :: r, n, k => bif Nat.beq a n then (bif Nat.beq c k then some b else lk2 r n k) else lk2 r n k
theorem lk2_mem {β : Type} : ∀ {l : List (Nat × Nat × β)} {n k : Nat} {b : β}, lk2 l n k = some b → (n, k, b) ∈ l
  | [], n, k, b, h => by cases h
  | (a, c, b') :: r, n, k, b, h => by
    unfold lk2 at h
    cases hb : Nat.beq a n with
    | true =>
      rw [hb] at h
      cases hc : Nat.beq c k with
      | true => rw [hc] at h; injection h with h; subst h; rw [Nat.eq_of_beq_eq_true hb, Nat.eq_of_beq_eq_true hc]; exact List.mem_cons_self
      | false => rw [hc] at h; exact List.mem_cons_of_mem _ (lk2_mem h)
    | false => rw [hb] at h; exact List.mem_cons_of_mem _ (lk2_mem h)
def memB : List Nat → Nat → Bool
  | [], _ => false
  | a :: r, n => Nat.beq a n || memB r n
theorem memB_mem : ∀ {l : List Nat} {n : Nat}, memB l n = true → n ∈ l
  | [], n, h => by cases h
  | a :: r, n, h => by
    simp only [memB, Bool.or_eq_true] at h
    rcases h with h | h
    · rw [Nat.eq_of_beq_eq_true h]; exact List.mem_cons_self
    · exact List.mem_cons_of_mem _ (memB_mem h)
theorem okT : allB (fun x => decide (tyI Tryd.prog x.1 = some x.2)) tabT = true := by kernel_rfl
theorem okS : allB (fun x => decide (sliceSz Tryd.prog x.1 = some x.2)) tabS = true := by kernel_rfl
theorem okR : allB (fun x => isStr Tryd.prog x) tabR = true := by kernel_rfl
theorem okK : allB (fun x => decide (intK Tryd.prog x.1 = some x.2)) tabK = true := by kernel_rfl
theorem okF : allB (fun x => decide (fieldOff Tryd.prog x.1 x.2.1 = some x.2.2)) tabF = true := by kernel_rfl
theorem okE : allB (fun x => decide (sliceE Tryd.prog x.1 = some x.2)) tabE = true := by kernel_rfl
theorem tyE {t : Nat} {x : Nat × Nat × Nat} (h : lk tabE t = some x) : sliceE Tryd.prog t = some x := of_decide_eq_true (allB_mem okE _ (lk_mem h))
theorem str26 : strI Tryd.prog 26 = some ([(0, 1), (1, 1), (2, 1)], [.int .i64 0, .slice none 0 0, .slice none 0 0]) := by kernel_rfl
theorem str32 : strI Tryd.prog 32 = some ([(0, 1), (1, 1)], [.string ⟨#[]⟩, .string ⟨#[]⟩]) := by kernel_rfl
theorem str43 : strI Tryd.prog 43 = some ([(0, 1), (1, 1), (2, 1)], [.string ⟨#[]⟩, .slice none 0 0, .slice none 0 0]) := by kernel_rfl
theorem str50 : strI Tryd.prog 50 = some ([(0, 1), (1, 1), (2, 1)], [.int .i64 0, .int .i64 0, .int .i64 0]) := by kernel_rfl
theorem str57 : strI Tryd.prog 57 = some ([(0, 1), (1, 1), (2, 3), (5, 1), (6, 1)], [.int .i64 0, .slice none 0 0, .string ⟨#[]⟩, .slice none 0 0, .slice none 0 0, .int .i64 0, .int .i64 0]) := by kernel_rfl
theorem str84 : strI Tryd.prog 84 = some ([(0, 7), (7, 1)], [.int .i64 0, .slice none 0 0, .string ⟨#[]⟩, .slice none 0 0, .slice none 0 0, .int .i64 0, .int .i64 0, .slice none 0 0]) := by kernel_rfl
theorem tyT {t : Nat} {x : Bool × Nat} (h : lk tabT t = some x) : tyI Tryd.prog t = some x := of_decide_eq_true (allB_mem okT _ (lk_mem h))
theorem tyS {t n : Nat} (h : lk tabS t = some n) : sliceSz Tryd.prog t = some n := of_decide_eq_true (allB_mem okS _ (lk_mem h))
theorem tyR {t : Nat} (h : memB tabR t = true) : isStr Tryd.prog t = true := allB_mem okR _ (memB_mem h)
theorem tyK {t : Nat} {k : IntKind} (h : lk tabK t = some k) : intK Tryd.prog t = some k := of_decide_eq_true (allB_mem okK _ (lk_mem h))
theorem tyF {t f k : Nat} (h : lk2 tabF t f = some k) : fieldOff Tryd.prog t f = some k := of_decide_eq_true (allB_mem okF _ (lk2_mem h))
theorem mixed : Tryd.prog.follows .mixedOrders = true := by kernel_rfl
end Go.Proofs.YtpncekdhigappaaDoor.Sim
