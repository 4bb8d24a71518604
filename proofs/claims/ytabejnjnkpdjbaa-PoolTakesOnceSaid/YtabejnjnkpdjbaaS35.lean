/- Merged by bundles.py: Rel21. -/
import Derived.Test.YtabejnjnkpdjbaaS34
import Derived.Test.YtabejnjnkpdjbaaS21
import Derived.SizedLaws
import Derived.OpenShut
/- Pools and inlets in memory: relations, opened, as trees of data. (Printed by mk_rel21.py.) -/
namespace Go.Proofs.Ytabejnjnkpdjbaa.R21
set_option linter.unusedVariables false
set_option linter.unusedSimpArgs false
set_option maxRecDepth 100000
open Go.RowKit Go.WideShapes Go.ChangeShapes Go.Joins Mem Sim Opn
theorem cellsAre_nil (m : Mm) : CellsAre m [] [] := ⟨rfl, fun j t v h => by simp at h⟩
theorem cellsAre_cons {m : Mm} {t : T} {v : Value} {ts : List T} {vs : List Value} (h : TR m t v) (h1 : v.oneCell' = true) (hs : CellsAre m ts vs) : CellsAre m (t :: ts) (v :: vs) := by
  refine ⟨by simp [hs.1], fun j t' v' h2 h3 => ?_⟩
  cases j with
  | zero => simp at h2 h3; subst h2 h3; exact ⟨h, h1⟩
  | succ j => exact hs.2 j t' v' (by simpa using h2) (by simpa using h3)
theorem sl_bwdA {α : Type} {R : Mem.Rel α} {enc : α → List T} {sz B : Nat} {w : World} {A : Option Addr} {xs : List α} {cap : Nat} (hsz : ∀ x, (enc x).length = sz) (hR : ∀ x cs, R B w x cs → CellsAre (allm w) (enc x) cs) (hA : SliceAt R sz B w A xs) (h1 : xs.length ≤ cap) (h2 : cap ≤ maxLen) : TR (allm w) (.sl sz (xs.map enc)) (.slice A xs.length cap) :=
  tr_rows_bwd (allm w) hA h1 h2 hsz (fun x _ cs hr => hR x cs hr) (fun b o v _ h => h)
def lightD {H : Type} (t : TypeId) (d : DataW H) : Prop := ((d.weights Try.prog t).all (· ≤ reachBytes)) = true
/-- a reading at type t that is light gives R -/
def OpensW {α : Type} (t : TypeId) (R : Mem.Rel α) : Prop :=
  ∀ (H : Type) (enc : TypeId × Value → H) (w : World) (base : Nat) (spare : Nat → Bool) (held : Bool) (fuel : Nat) (cs : List Value) (x : DataW H × List MemPlace), DataW.trod enc Try.prog w base spare held fuel t cs = some x → lightD t x.1 → ∃ y, R w.heap.size w y cs
theorem light_each {H : Type} : ∀ (ts : List TypeId) (ds : List (DataW H)), ((DataW.weightsEach Try.prog ts ds).all (· ≤ reachBytes)) = true → ∀ (i : Nat) t d, ts[i]? = some t → ds[i]? = some d → lightD t d
  | [], _, _, i, t, d, h1, _ => by simp at h1
  | _ :: _, [], _, i, t, d, _, h2 => by simp at h2
  | t0 :: ts, d0 :: ds, h, i, t, d, h1, h2 => by
    unfold DataW.weightsEach at h
    rw [List.all_append, Bool.and_eq_true] at h
    cases i with
    | zero => simp at h1 h2; subst h1 h2; exact h.1
    | succ i => exact light_each ts ds h.2 i t d (by simpa using h1) (by simpa using h2)
theorem light_all {H : Type} (e : TypeId) : ∀ (ds : List (DataW H)), ((DataW.weightsAll Try.prog e ds).all (· ≤ reachBytes)) = true → ∀ d ∈ ds, lightD e d
  | [], _, d, h => by cases h
  | d0 :: ds, h, d, hd => by
    unfold DataW.weightsAll at h
    rw [List.all_append, Bool.and_eq_true] at h
    rcases List.mem_cons.1 hd with rfl | hd
    · exact h.1
    · exact light_all e ds h.2 d hd
theorem slice_opensW {α : Type} [Inhabited α] {t e sz : Nat} {R : Mem.Rel α} (ht : Try.prog.underlying t = some (.slice e)) (hC : Try.prog.cellsOf e = sz) (hsz : 0 < sz) (hR : OpensW e R)
    {H : Type} {enc : TypeId × Value → H} {w : World} {base : Nat} {spare : Nat → Bool} {held : Bool} {fuel : Nat} {cs : List Value} {x : DataW H × List MemPlace} (h : DataW.trod enc Try.prog w base spare held fuel t cs = some x) (hw : lightD t x.1) :
    ∃ (A : Option Addr) (cap : Nat) (xs : List α), cs = [.slice A xs.length cap] ∧ SliceAt R sz w.heap.size w A xs ∧ xs.length ≤ cap ∧ cap ≤ maxLen := by
  rcases Go.Deep.open_slice ht h with ⟨hcs, _⟩ | ⟨a, len, cap, m, n, D, Pl, hcs, hb, hl, hm, hmm, hx, hi⟩
  · exact ⟨none, 0, [], hcs, SliceAt.nil, Nat.le_refl _, Nat.zero_le _⟩
  · have hlm : len ≤ m := by rw [hmm]; split <;> omega
    have hD : ∀ i, i < len → lightD e (D i) := fun i hil => by
      subst hx
      unfold lightD DataW.weights at hw
      rw [ht] at hw
      dsimp only at hw
      rw [List.all_cons, List.all_append, Bool.and_eq_true, Bool.and_eq_true] at hw
      exact light_all e _ hw.2.1 _ (List.mem_map.2 ⟨i, List.mem_range.2 hil, rfl⟩)
    have hex : ∀ i, i < len → ∃ (y : α) (cs' : List Value), w.cells? base (a.add (i * sz)) sz = some cs' ∧ R w.heap.size w y cs' := by
      intro i hil
      obtain ⟨cs', hc, ht'⟩ := hi i (by omega)
      rw [hC] at hc
      obtain ⟨y, hy⟩ := hR H enc w base spare held n cs' _ ht' (hD i hil)
      exact ⟨y, cs', hc, hy⟩
    have hf : ∃ f : Nat → α, ∀ i, i < len → ∃ cs', w.cells? base (a.add (i * sz)) sz = some cs' ∧ R w.heap.size w (f i) cs' := by
      refine ⟨fun i => if h : i < len then (hex i h).choose else default, fun i hil => ?_⟩
      simp only [dif_pos hil]
      exact (hex i hil).choose_spec
    obtain ⟨f, hf⟩ := hf
    refine ⟨some a, cap, (List.range len).map f, by simpa using hcs, ?_, by simpa using hl, hm⟩
    intro k y hk
    have hkl : k < len := by
      rcases Nat.lt_or_ge k len with h' | h'
      · exact h'
      · rw [List.getElem?_eq_none (by simpa using h')] at hk; cases hk
    rw [List.getElem?_map, List.getElem?_range hkl] at hk
    simp at hk; subst hk
    obtain ⟨cs', hc, hr⟩ := hf k hkl
    obtain ⟨_, hlen, hat⟩ := World.cells?_some hc
    have h0 : w.cell? ((a.add (k * sz)).add 0) = some (cs'[0]'(by omega)) := by rw [hat 0 hsz, List.getElem?_eq_getElem]
    obtain ⟨b, off, spot⟩ := a
    have hspot : k = 0 → spot = none := by
      intro hk0; subst hk0
      simp [Addr.add] at h0
      cases spot with
      | none => rfl
      | some q =>
        simp only [World.cell?] at h0
        split at h0
        · simp at h0
        · cases h0
    -- the row's address bears no spot: its first element shows it
    have hsp : spot = none := by
      rcases Nat.eq_zero_or_pos k with hk0 | hk0
      · exact hspot hk0
      · obtain ⟨cs0, hc0, _⟩ := hf 0 (by omega)
        obtain ⟨_, hlen0, hat0⟩ := World.cells?_some hc0
        have h00 : w.cell? (((⟨b, off, spot⟩ : Addr).add (0 * sz)).add 0) = some (cs0[0]'(by omega)) := by rw [hat0 0 hsz, List.getElem?_eq_getElem]
        simp [Addr.add] at h00
        cases spot with
        | none => rfl
        | some q =>
          simp only [World.cell?] at h00
          split at h00
          · simp at h00
          · cases h00
    subst hsp
    have hadd : ∀ j, ((⟨b, off, none⟩ : Addr).add (k * sz)).add j = ⟨b, off + (k * sz + j), none⟩ := by
      intro j
      rw [Go.Deep.add_add, addr_add]
    refine ⟨b, off, cs', rfl, ?_, hlen, ?_, hr⟩
    · have := World.block_lt_of_cell? w _ h0
      rw [hadd] at this
      exact this
    · intro j v hj
      have hjl : j < sz := by rw [← hlen]; exact (List.getElem?_eq_some_iff.1 hj).1
      rw [← hadd, hat j hjl, hj]
/-- a slice handed in -/
theorem open_slice_argW {α : Type} [Inhabited α] {t e sz : Nat} {R : Mem.Rel α} (ht : Try.prog.underlying t = some (.slice e)) (hC : Try.prog.cellsOf e = sz) (hsz : 0 < sz) (hO : OpensW e R) {H : Type} {enc : TypeId × Value → H} {w : World} {r : Reach} {b0 base : Nat} {spare : Nat → Bool} {held : Bool} {v : Value} {d : DataW H} {p : List MemPlace}
    (hw : lightD t d) (hv : Value.okWide Try.prog w r b0 t v) (h : DataW.Trod enc Try.prog w base spare held t v d p) :
    ∃ (A : Option Addr) (cap : Nat) (xs : List α), v = .slice A xs.length cap ∧ SliceAt R sz w.heap.size w A xs ∧ xs.length ≤ cap ∧ cap ≤ maxLen := by
  obtain ⟨a, len, c, rfl⟩ := okWide_slice ht hv
  obtain ⟨fuel, hf⟩ := h
  obtain ⟨A, cap, xs, hcs, hA, h1, h2⟩ := slice_opensW ht hC hsz hO hf hw
  simp [Value.cells] at hcs
  obtain ⟨rfl, rfl, rfl⟩ := hcs
  exact ⟨_, _, xs, rfl, hA, h1, h2⟩
theorem opensW_of {α : Type} {t : TypeId} {R : Mem.Rel α} (h : Opens t R) : OpensW t R := fun H enc w base spare held fuel cs x hx _ => h H enc w base spare held fuel cs x hx
structure PAct where
  do_ : Int
  i : Int
  k : Int
  peer : Int
  by_ : Int
  src : Int
  duid : Int
  daddr : Int
  dport : Int
instance : Inhabited PQ := ⟨⟨0, 0, 0, 0, .empty, .empty, 0, 0, []⟩⟩
instance : Inhabited PTun := ⟨⟨0, 0, 0, 0, 0, 0, 0, 0, 0, 0, 0, 0, 0, []⟩⟩
instance : Inhabited PTk := ⟨⟨0, 0, 0, []⟩⟩
instance : Inhabited PIn := ⟨⟨0, 0, 0, 0, 0, .empty, .empty, 0, 0, 0, 0, 0, 0, []⟩⟩
instance : Inhabited PAct := ⟨⟨0, 0, 0, 0, 0, 0, 0, 0, 0⟩⟩
theorem cells_uint64 : Try.prog.cellsOf 24 = 1 := by kernel_rfl
theorem cells_bool : Try.prog.cellsOf 4 = 1 := by kernel_rfl
theorem len_ok {n cap : Nat} (h : n ≤ cap) (h2 : cap ≤ maxLen) : n ≤ 9223372036854775807 := by unfold maxLen at h2; omega
def U64R : Mem.Rel Int := fun B w x cs => IntC .u64 B w x cs
theorem U_opens : OpensW 24 U64R := opensW_of (opens_int Try.underlying24)
theorem U_bwd {B : Nat} {w : World} (x : Int) (cs : List Value) (h : U64R B w x cs) : CellsAre (allm w) [u64T x] cs := by
  obtain ⟨rfl, _⟩ := h
  exact cellsAre_cons (.v _) rfl (cellsAre_nil _)
def BoC : Mem.Rel Bool := fun _ _ x cs => cs = [.bool x]
theorem Bo_opens : OpensW 4 BoC := opensW_of fun H enc w base spare held fuel cs x h => by
  obtain ⟨b, rfl, _⟩ := DataW.trod_bool Try.underlying4 h
  exact ⟨b, rfl⟩
theorem Bo_bwd {B : Nat} {w : World} (x : Bool) (cs : List Value) (h : BoC B w x cs) : CellsAre (allm w) [.v (.bool x)] cs := by
  obtain rfl := h
  exact cellsAre_cons (.v _) rfl (cellsAre_nil _)
end Go.Proofs.Ytabejnjnkpdjbaa.R21
