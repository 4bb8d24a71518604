/- Merged by bundles.py: Open0, SimTab, SimGo, Rel09, SimHd1, SimHd4, SimStr. -/
import Derived.Test.YtkmhaijefpgfiaaDoorQ8
import Derived.Test.YtkmhaijefpgfiaaDoorQ0
import Derived.Deep.Slices
import Derived.Test.YtkmhaijefpgfiaaDoorQ5
import Derived.Test.YtkmhaijefpgfiaaDoorQ6
/- Arguments opened: what a reading says of the cells, type by type. -/
namespace Go.Proofs.YtkmhaijefpgfiaaDoor.Mem
set_option linter.unusedVariables false
set_option linter.unusedSimpArgs false
open Go.RowKit
/-- one cell, a slice -/
def SliceC {α : Type} (R : Rel α) (sz : Nat) : Rel (List α) := fun B w xs cs => ∃ A cap, cs = [.slice A xs.length cap] ∧ SliceAt R sz B w A xs ∧ xs.length ≤ cap ∧ cap ≤ maxLen
theorem SliceC.kept {α : Type} {R : Rel α} {sz : Nat} (hR : Kept R) : Kept (SliceC R sz) := by
  rintro B B' w w' x cs ⟨A, cap, rfl, h, h1, h2⟩ hk hB
  exact ⟨A, cap, rfl, h.keep hR hk hB, h1, h2⟩
/-- one cell, a number -/
def IntC (k : IntKind) : Rel Int := fun _ _ x cs => cs = [.int k x] ∧ (Lit.int k x).wf = true
theorem IntC.kept (k : IntKind) : Kept (IntC k) := fun _ _ _ _ _ _ h _ _ => h
/-- one cell, a text -/
def StrC : Rel ByteArray := fun _ _ s cs => cs = [.string s] ∧ s.size ≤ maxLen
theorem StrC.kept : Kept StrC := fun _ _ _ _ _ _ h _ _ => h
end Go.Proofs.YtkmhaijefpgfiaaDoor.Mem
namespace Go.Proofs.YtkmhaijefpgfiaaDoor.Opn
set_option linter.unusedVariables false
set_option linter.unusedSimpArgs false
set_option maxRecDepth 100000
open Go.RowKit Go.WideShapes Go.ChangeShapes Go.Joins Mem

/-- a reading at type t gives R -/
def Opens {α : Type} (t : TypeId) (R : Rel α) : Prop :=
  ∀ (H : Type) (enc : TypeId × Value → H) (w : World) (base : Nat) (spare : Nat → Bool) (held : Bool) (fuel : Nat) (cs : List Value) (x : DataW H × List MemPlace), DataW.trod enc Tryd.prog w base spare held fuel t cs = some x → ∃ y, R w.heap.size w y cs

theorem slice_opens {α : Type} [Inhabited α] {t e sz : Nat} {R : Rel α} (ht : Tryd.prog.underlying t = some (.slice e)) (hC : Tryd.prog.cellsOf e = sz) (hsz : 0 < sz) (hR : Opens e R)
    {H : Type} {enc : TypeId × Value → H} {w : World} {base : Nat} {spare : Nat → Bool} {held : Bool} {fuel : Nat} {cs : List Value} {x : DataW H × List MemPlace} (h : DataW.trod enc Tryd.prog w base spare held fuel t cs = some x) :
    ∃ (A : Option Addr) (cap : Nat) (xs : List α), cs = [.slice A xs.length cap] ∧ SliceAt R sz w.heap.size w A xs ∧ xs.length ≤ cap ∧ cap ≤ maxLen := by
  rcases Go.Deep.open_slice ht h with ⟨hcs, _⟩ | ⟨a, len, cap, m, n, D, Pl, hcs, hb, hl, hm, hmm, hx, hi⟩
  · exact ⟨none, 0, [], hcs, SliceAt.nil, Nat.le_refl _, Nat.zero_le _⟩
  · have hlm : len ≤ m := by rw [hmm]; split <;> omega
    have hex : ∀ i, i < len → ∃ (y : α) (cs' : List Value), w.cells? base (a.add (i * sz)) sz = some cs' ∧ R w.heap.size w y cs' := by
      intro i hil
      obtain ⟨cs', hc, ht'⟩ := hi i (by omega)
      rw [hC] at hc
      obtain ⟨y, hy⟩ := hR H enc w base spare held n cs' _ ht'
      exact ⟨y, cs', hc, hy⟩
    have hf : ∃ f : Nat → α, ∀ i, i < len → ∃ cs', w.cells? base (a.add (i * sz)) sz = some cs' ∧ R w.heap.size w (f i) cs' := by
      refine ⟨fun i => if h : i < len then (hex i h).choose else default, fun i hil => ?_⟩
      simp only [dif_pos hil]
      exact (hex i hil).choose_spec
    obtain ⟨f, hf⟩ := hf
    refine ⟨some a, cap, (List.range len).map f, by simpa using hcs, ?_, by simpa using hl, hm⟩
    intro k y hk
    have hkl : k < len := by
      rcases Nat.lt_or_ge k len with h' | h'
      · exact h'
      · rw [List.getElem?_eq_none (by simpa using h')] at hk; cases hk
    rw [List.getElem?_map, List.getElem?_range hkl] at hk
    simp at hk; subst hk
    obtain ⟨cs', hc, hr⟩ := hf k hkl
    obtain ⟨_, hlen, hat⟩ := World.cells?_some hc
    have h0 : w.cell? ((a.add (k * sz)).add 0) = some (cs'[0]'(by omega)) := by rw [hat 0 hsz, List.getElem?_eq_getElem]
    obtain ⟨b, off, spot⟩ := a
    have hspot : k = 0 → spot = none := by
      intro hk0; subst hk0
      simp [Addr.add] at h0
      cases spot with
      | none => rfl
      | some q =>
        simp only [World.cell?] at h0
        split at h0
        · simp at h0
        · cases h0
    -- the row's address bears no spot: its first element shows it
    have hsp : spot = none := by
      rcases Nat.eq_zero_or_pos k with hk0 | hk0
      · exact hspot hk0
      · obtain ⟨cs0, hc0, _⟩ := hf 0 (by omega)
        obtain ⟨_, hlen0, hat0⟩ := World.cells?_some hc0
        have h00 : w.cell? (((⟨b, off, spot⟩ : Addr).add (0 * sz)).add 0) = some (cs0[0]'(by omega)) := by rw [hat0 0 hsz, List.getElem?_eq_getElem]
        simp [Addr.add] at h00
        cases spot with
        | none => rfl
        | some q =>
          simp only [World.cell?] at h00
          split at h00
          · simp at h00
          · cases h00
    subst hsp
    have hadd : ∀ j, ((⟨b, off, none⟩ : Addr).add (k * sz)).add j = ⟨b, off + (k * sz + j), none⟩ := by
      intro j
      rw [Go.Deep.add_add, addr_add]
    refine ⟨b, off, cs', rfl, ?_, hlen, ?_, hr⟩
    · have := World.block_lt_of_cell? w _ h0
      rw [hadd] at this
      exact this
    · intro j v hj
      have hjl : j < sz := by rw [← hlen]; exact (List.getElem?_eq_some_iff.1 hj).1
      rw [← hadd, hat j hjl, hj]
theorem opens_str {t : TypeId} (ht : Tryd.prog.underlying t = some .string) : Opens t StrC := by
  intro H enc w base spare held fuel cs x h
  obtain ⟨s, rfl, _, hw⟩ := DataW.trod_string ht h
  exact ⟨s, rfl, hw⟩
theorem opens_slice {α : Type} [Inhabited α] {t e sz : Nat} {R : Rel α} (ht : Tryd.prog.underlying t = some (.slice e)) (hC : Tryd.prog.cellsOf e = sz) (hsz : 0 < sz) (hR : Opens e R) : Opens t (SliceC R sz) := by
  intro H enc w base spare held fuel cs x h
  obtain ⟨A, cap, xs, rfl, hA, h1, h2⟩ := slice_opens ht hC hsz hR h
  exact ⟨xs, A, cap, rfl, hA, h1, h2⟩
/-- a slice handed in -/
theorem open_slice_arg {α : Type} {t e : TypeId} {R : Rel α} {sz : Nat} (ht : Tryd.prog.underlying t = some (.slice e)) (hO : Opens t (SliceC R sz)) {H : Type} {enc : TypeId × Value → H} {w : World} {r : Reach} {b0 base : Nat} {spare : Nat → Bool} {held : Bool} {v : Value} {d : DataW H} {p : List MemPlace}
    (hv : Value.okWide Tryd.prog w r b0 t v) (h : DataW.Trod enc Tryd.prog w base spare held t v d p) :
    ∃ (A : Option Addr) (cap : Nat) (xs : List α), v = .slice A xs.length cap ∧ SliceAt R sz w.heap.size w A xs ∧ xs.length ≤ cap ∧ cap ≤ maxLen := by
  obtain ⟨a, len, c, rfl⟩ := okWide_slice ht hv
  obtain ⟨fuel, hf⟩ := h
  obtain ⟨xs, A, cap, hcs, hA, h1, h2⟩ := hO H enc w base spare held fuel _ _ hf
  simp [Value.cells] at hcs
  obtain ⟨rfl, rfl, rfl⟩ := hcs
  exact ⟨_, _, xs, rfl, hA, h1, h2⟩
/-- a number handed in -/
theorem open_int_arg {t : TypeId} {k : IntKind} (ht : Tryd.prog.underlying t = some (.int k)) {H : Type} {enc : TypeId × Value → H} {w : World} {r : Reach} {b0 base : Nat} {spare : Nat → Bool} {held : Bool} {v : Value} {d : DataW H} {p : List MemPlace}
    (hv : Value.okWide Tryd.prog w r b0 t v) (h : DataW.Trod enc Tryd.prog w base spare held t v d p) : ∃ n, v = .int k n ∧ (Lit.int k n).wf = true := by
  obtain ⟨n, rfl⟩ := okWide_int ht hv
  obtain ⟨fuel, hf⟩ := h
  obtain ⟨m, hm, _, hw⟩ := DataW.trod_int ht hf
  simp [Value.cells] at hm
  subst hm
  exact ⟨_, rfl, hw⟩
end Go.Proofs.YtkmhaijefpgfiaaDoor.Opn

/- The program's types: cells, fields, elements. (Printed by mk_tab.py.) -/

namespace Go.Proofs.YtkmhaijefpgfiaaDoor.Sim
open Go.RowKit Mem
set_option linter.unusedVariables false
set_option maxRecDepth 100000
def tabT : List (Nat × Bool × Nat) := [(1, false, 1), (2, false, 1), (3, false, 1), (4, false, 1), (5, false, 1), (6, false, 1), (7, true, 4), (8, true, 4), (9, false, 1), (10, false, 1), (11, false, 1), (12, false, 1), (13, true, 2), (14, true, 2), (15, false, 1), (16, false, 1), (17, false, 1), (18, true, 1), (19, true, 1), (21, false, 1), (22, false, 1), (23, false, 1), (25, false, 1), (26, false, 1), (27, false, 1), (28, false, 1), (30, false, 1), (31, false, 1), (32, false, 1), (34, false, 1), (36, false, 1), (37, false, 1), (38, false, 1), (39, false, 1), (41, false, 1), (42, false, 1), (43, false, 1), (44, false, 1), (46, false, 1), (47, false, 1), (49, false, 1), (50, false, 1), (51, false, 1), (52, false, 1), (53, false, 1), (54, false, 1), (55, false, 1), (56, false, 1), (57, false, 1), (58, false, 1), (59, false, 1), (60, false, 1), (61, true, 2), (62, true, 2), (63, false, 1), (67, false, 1), (68, false, 1), (69, false, 1), (70, false, 1), (71, false, 1), (72, false, 1), (74, false, 1), (76, false, 1), (77, false, 1), (78, false, 1), (79, false, 1), (80, true, 256), (81, true, 2), (82, true, 2), (83, true, 32), (84, true, 4), (85, true, 4), (86, true, 0), (87, true, 0), (88, true, 0), (89, false, 1), (90, false, 1), (91, false, 1), (92, false, 1), (93, false, 1), (94, false, 1), (95, true, 11), (96, true, 11)]
def tabS : List (Nat × Nat) := [(32, 1), (53, 1)]
def tabR : List Nat := [9, 10, 11]
def tabK : List (Nat × IntKind) := [(2, .i64), (3, .i64), (5, .u8), (6, .u8), (12, .u64), (21, .i32), (23, .i64), (26, .u64), (72, .u32), (90, .u8), (91, .u8), (93, .i32), (94, .i32)]
def tabE : List (Nat × Nat × Nat × Nat) := [(32, 9, 1, 16), (53, 5, 1, 1)]
def allB {α : Type} (p : α → Bool) : List α → Bool
  | [] => true
  | x :: r => p x && allB p r
theorem allB_mem {α : Type} {p : α → Bool} : ∀ {l : List α}, allB p l = true → ∀ x ∈ l, p x = true
  | [], _, x, h => by cases h
  | y :: r, h, x, hx => by
    simp only [allB, Bool.and_eq_true] at h
    rcases List.mem_cons.1 hx with rfl | hx
    · exact h.1
    · exact allB_mem h.2 x hx
def lk {β : Type} : List (Nat × β) → Nat → Option β
  | [], _ => none
  | (a, b) :: r, n => bif Nat.beq a n then some b else lk r n
theorem lk_mem {β : Type} : ∀ {l : List (Nat × β)} {n : Nat} {b : β}, lk l n = some b → (n, b) ∈ l
  | [], n, b, h => by cases h
  | (a, b') :: r, n, b, h => by
    unfold lk at h
    cases hb : Nat.beq a n with
    | true => rw [hb] at h; injection h with h; subst h; rw [Nat.eq_of_beq_eq_true hb]; exact List.mem_cons_self
    | false => rw [hb] at h; exact List.mem_cons_of_mem _ (lk_mem h)
def memB : List Nat → Nat → Bool
  | [], _ => false
  | a :: r, n => Nat.beq a n || memB r n
theorem memB_mem : ∀ {l : List Nat} {n : Nat}, memB l n = true → n ∈ l
  | [], n, h => by cases h
  | a :: r, n, h => by
    simp only [memB, Bool.or_eq_true] at h
    rcases h with h | h
    · rw [Nat.eq_of_beq_eq_true h]; exact List.mem_cons_self
    · exact List.mem_cons_of_mem _ (memB_mem h)
theorem okT : allB (fun x => decide (tyI Tryd.prog x.1 = some x.2)) tabT = true := by kernel_rfl
theorem okS : allB (fun x => decide (sliceSz Tryd.prog x.1 = some x.2)) tabS = true := by kernel_rfl
theorem okR : allB (fun x => isStr Tryd.prog x) tabR = true := by kernel_rfl
theorem okK : allB (fun x => decide (intK Tryd.prog x.1 = some x.2)) tabK = true := by kernel_rfl
theorem okE : allB (fun x => decide (sliceE Tryd.prog x.1 = some x.2)) tabE = true := by kernel_rfl
theorem tyE {t : Nat} {x : Nat × Nat × Nat} (h : lk tabE t = some x) : sliceE Tryd.prog t = some x := of_decide_eq_true (allB_mem okE _ (lk_mem h))
theorem tyT {t : Nat} {x : Bool × Nat} (h : lk tabT t = some x) : tyI Tryd.prog t = some x := of_decide_eq_true (allB_mem okT _ (lk_mem h))
theorem tyS {t n : Nat} (h : lk tabS t = some n) : sliceSz Tryd.prog t = some n := of_decide_eq_true (allB_mem okS _ (lk_mem h))
theorem tyR {t : Nat} (h : memB tabR t = true) : isStr Tryd.prog t = true := allB_mem okR _ (memB_mem h)
theorem tyK {t : Nat} {k : IntKind} (h : lk tabK t = some k) : intK Tryd.prog t = some k := of_decide_eq_true (allB_mem okK _ (lk_mem h))
theorem mixed : Tryd.prog.follows .mixedOrders = true := by kernel_rfl
end Go.Proofs.YtkmhaijefpgfiaaDoor.Sim

/- A logic of states: short names for the steps. (Printed by mk_go.py.) -/
namespace Go.Proofs.YtkmhaijefpgfiaaDoor.Sim
set_option linter.unusedVariables false
set_option linter.unusedSimpArgs false
open Go.RowKit Mem
structure W1 (b : Prop) : Prop where
  p : b
section
variable {P : Program} {N : Nat} {Q : Exit → St → Prop} {ops : Array Oper} {rest tail : List Oper} {o : Oper} {tm : List (Nat × A)} {bx : List (Nat × List A)} {ow : List (Nat × Own)} {ρ : Operand → Option A}
theorem sp {d : Nat} {r : A} (hp : PureOp P bx ow o (evA tm) r) (h : SOps P N ops Q rest ⟨(d, r) :: tm, bx, ow⟩) (hg : GuardIs ops tm o true := by first | exact .free rfl rfl | exact gy) (hd : o.dst = some d := by exact rfl) (hN : Nat.blt d N = true := by exact rfl) : SOps P N ops Q (o :: rest) ⟨tm, bx, ow⟩ := sops_pure hg hd hN hp h
theorem oK {d : Nat} (h : SOps P N ops Q rest ⟨(d, .t (.v undef)) :: tm, bx, ow⟩) (hg : GuardIs ops tm o false := by first | exact gn0 | exact gn1 | exact .nou rfl rfl rfl) (hd : o.dst = some d := by exact rfl) (hN : Nat.blt d N = true := by exact rfl) : SOps P N ops Q (o :: rest) ⟨tm, bx, ow⟩ := sops_skip hg hd hN h
theorem dp {d : Nat} {r : A} (hp : PureOp P bx ow o (evA tm) r) (h : SDraw P N bx ow ops Q tail rest ((d, r) :: tm)) (hg : GuardIs ops tm o true := by first | exact .free rfl rfl | exact gy) (hd : o.dst = some d := by exact rfl) : SDraw P N bx ow ops Q tail (o :: rest) tm := sdraw_pure hg hd hp h
theorem oN {st : St} (h : Q .normal st) : SOps P N ops Q [] st := sops_nil h
theorem dN (h : SOps P N ops Q tail ⟨tm, bx, ow⟩) : SDraw P N bx ow ops Q tail [] tm := sdraw_nil h
theorem ssp {j e : Nat} {want b : Bool} (h1 : b = true → SOps P N ops Q (o :: rest) ⟨tm, bx, ow⟩) (h0 : b = false → SOps P N ops Q (o :: rest) ⟨tm, bx, ow⟩) (hg : o.guard = some (j, want) := by exact rfl) (hj : dstOf ops j = some e := by exact rfl) (hs : get tm e = some (.t (.v (.bool b))) := by exact rfl) : SOps P N ops Q (o :: rest) ⟨tm, bx, ow⟩ := sops_split hg hj hs h1 h0
/-- a call by its contract -/
theorem oC {f : FuncId} {xs : List Operand} {at_ : Array TypeId} {ts : List T} {t : T} {d : Nat} (hc : PCalls P f ts t) (ho : o.op = .call { callee := .value (.func f), args := xs.toArray, argTypes := at_ }) (ha : Args ow (evA tm) xs ts) (h : SOps P N ops Q rest ⟨(d, .t t) :: tm, bx, ow⟩) (hg : GuardIs ops tm o true := by first | exact .free rfl rfl | exact gy) (hd : o.dst = some d := by exact rfl) (hN : Nat.blt d N = true := by exact rfl) : SOps P N ops Q (o :: rest) ⟨tm, bx, ow⟩ := sops_pure hg hd hN (po_call hc ho ha) h
theorem dC {f : FuncId} {xs : List Operand} {at_ : Array TypeId} {ts : List T} {t : T} {d : Nat} (hc : PCalls P f ts t) (ho : o.op = .call { callee := .value (.func f), args := xs.toArray, argTypes := at_ }) (ha : Args ow (evA tm) xs ts) (h : SDraw P N bx ow ops Q tail rest ((d, .t t) :: tm)) (hg : GuardIs ops tm o true := by first | exact .free rfl rfl | exact gy) (hd : o.dst = some d := by exact rfl) : SDraw P N bx ow ops Q tail (o :: rest) tm := sdraw_pure hg hd (po_call hc ho ha) h
theorem oMv {x : Operand} {r : A} {d : Nat} (h : SOps P N ops Q rest ⟨(d, r) :: tm, bx, ow⟩) (ho : o.op = .move x := by exact rfl) (hx : evA tm x = some r := by exact rfl) (hg : GuardIs ops tm o true := by first | exact .free rfl rfl | exact gy) (hd : o.dst = some d := by exact rfl) (hN : Nat.blt d N = true := by exact rfl) : SOps P N ops Q (o :: rest) ⟨tm, bx, ow⟩ := sops_pure hg hd hN (po_move ho hx) h
theorem dMv {x : Operand} {r : A} {d : Nat} (h : SDraw P N bx ow ops Q tail rest ((d, r) :: tm)) (ho : o.op = .move x := by exact rfl) (hx : evA tm x = some r := by exact rfl) (hg : GuardIs ops tm o true := by first | exact .free rfl rfl | exact gy) (hd : o.dst = some d := by exact rfl) : SDraw P N bx ow ops Q tail (o :: rest) tm := sdraw_pure hg hd (po_move ho hx) h
theorem oAs {x : Operand} {r : A} {d : Nat} (h : SOps P N ops Q rest ⟨(d, r) :: tm, bx, ow⟩) (ho : o.op = .assign x := by exact rfl) (hx : evA tm x = some r := by exact rfl) (hg : GuardIs ops tm o true := by first | exact .free rfl rfl | exact gy) (hd : o.dst = some d := by exact rfl) (hN : Nat.blt d N = true := by exact rfl) : SOps P N ops Q (o :: rest) ⟨tm, bx, ow⟩ := sops_pure hg hd hN (po_assign ho hx) h
theorem dAs {x : Operand} {r : A} {d : Nat} (h : SDraw P N bx ow ops Q tail rest ((d, r) :: tm)) (ho : o.op = .assign x := by exact rfl) (hx : evA tm x = some r := by exact rfl) (hg : GuardIs ops tm o true := by first | exact .free rfl rfl | exact gy) (hd : o.dst = some d := by exact rfl) : SDraw P N bx ow ops Q tail (o :: rest) tm := sdraw_pure hg hd (po_assign ho hx) h
theorem oCm {op : BinOp} {t t2 : TypeId} {x y : Operand} {k : IntKind} {i j : Int} {c : Bool} {d : Nat} (h : SOps P N ops Q rest ⟨(d, .t (.v (.bool c))) :: tm, bx, ow⟩) (ho : o.op = .binOp op t x y t2 := by exact rfl) (hx : evA tm x = some (.t (.v (.int k i))) := by exact rfl) (hy : evA tm y = some (.t (.v (.int k j))) := by exact rfl) (hc : cmpB op i j = some c := by exact rfl) (hg : GuardIs ops tm o true := by first | exact .free rfl rfl | exact gy) (hd : o.dst = some d := by exact rfl) (hN : Nat.blt d N = true := by exact rfl) : SOps P N ops Q (o :: rest) ⟨tm, bx, ow⟩ := sops_pure hg hd hN (po_cmp ho hx hy hc) h
theorem dCm {op : BinOp} {t t2 : TypeId} {x y : Operand} {k : IntKind} {i j : Int} {c : Bool} {d : Nat} (h : SDraw P N bx ow ops Q tail rest ((d, .t (.v (.bool c))) :: tm)) (ho : o.op = .binOp op t x y t2 := by exact rfl) (hx : evA tm x = some (.t (.v (.int k i))) := by exact rfl) (hy : evA tm y = some (.t (.v (.int k j))) := by exact rfl) (hc : cmpB op i j = some c := by exact rfl) (hg : GuardIs ops tm o true := by first | exact .free rfl rfl | exact gy) (hd : o.dst = some d := by exact rfl) : SDraw P N bx ow ops Q tail (o :: rest) tm := sdraw_pure hg hd (po_cmp ho hx hy hc) h
theorem oLb {ty : TypeId} {x : Operand} {i off n : Nat} {cs : List A} {r : A} {d : Nat} (h : SOps P N ops Q rest ⟨(d, r) :: tm, bx, ow⟩) (ho : o.op = .load ty x := by exact rfl) (hx : evA tm x = some (.bp i off) := by exact rfl) (hT : tyI P ty = some (false, n) := by exact tyT rfl) (hb : get bx i = some cs := by exact rfl) (ht : cs[off]? = some r := by exact rfl) (hq : cellB i = true := by exact rfl) (hg : GuardIs ops tm o true := by first | exact .free rfl rfl | exact gy) (hd : o.dst = some d := by exact rfl) (hN : Nat.blt d N = true := by exact rfl) : SOps P N ops Q (o :: rest) ⟨tm, bx, ow⟩ := sops_pure hg hd hN (po_load_bx ho hx hT hb ht hq) h
theorem dLb {ty : TypeId} {x : Operand} {i off n : Nat} {cs : List A} {r : A} {d : Nat} (h : SDraw P N bx ow ops Q tail rest ((d, r) :: tm)) (ho : o.op = .load ty x := by exact rfl) (hx : evA tm x = some (.bp i off) := by exact rfl) (hT : tyI P ty = some (false, n) := by exact tyT rfl) (hb : get bx i = some cs := by exact rfl) (ht : cs[off]? = some r := by exact rfl) (hq : cellB i = true := by exact rfl) (hg : GuardIs ops tm o true := by first | exact .free rfl rfl | exact gy) (hd : o.dst = some d := by exact rfl) : SDraw P N bx ow ops Q tail (o :: rest) tm := sdraw_pure hg hd (po_load_bx ho hx hT hb ht hq) h
theorem oLd {ty : TypeId} {x : Operand} {cs : List T} {t : T} {n : Nat} {d : Nat} (h : SOps P N ops Q rest ⟨(d, .t t) :: tm, bx, ow⟩) (ho : o.op = .load ty x := by exact rfl) (hx : evA tm x = some (.t (.tp cs)) := by exact rfl) (hT : tyI P ty = some (false, n) := by exact tyT rfl) (ht : cs[0]? = some t := by exact rfl) (hg : GuardIs ops tm o true := by first | exact .free rfl rfl | exact gy) (hd : o.dst = some d := by exact rfl) (hN : Nat.blt d N = true := by exact rfl) : SOps P N ops Q (o :: rest) ⟨tm, bx, ow⟩ := sops_pure hg hd hN (po_load ho hx hT ht) h
theorem dLd {ty : TypeId} {x : Operand} {cs : List T} {t : T} {n : Nat} {d : Nat} (h : SDraw P N bx ow ops Q tail rest ((d, .t t) :: tm)) (ho : o.op = .load ty x := by exact rfl) (hx : evA tm x = some (.t (.tp cs)) := by exact rfl) (hT : tyI P ty = some (false, n) := by exact tyT rfl) (ht : cs[0]? = some t := by exact rfl) (hg : GuardIs ops tm o true := by first | exact .free rfl rfl | exact gy) (hd : o.dst = some d := by exact rfl) : SDraw P N bx ow ops Q tail (o :: rest) tm := sdraw_pure hg hd (po_load ho hx hT ht) h
theorem oEx {x : Operand} {i : Nat} {cs : List T} {t : T} {d : Nat} (h : SOps P N ops Q rest ⟨(d, .t t) :: tm, bx, ow⟩) (ho : o.op = .extract x i := by exact rfl) (hx : evA tm x = some (.t (.tup cs)) := by exact rfl) (ht : cs[i]? = some t := by exact rfl) (hg : GuardIs ops tm o true := by first | exact .free rfl rfl | exact gy) (hd : o.dst = some d := by exact rfl) (hN : Nat.blt d N = true := by exact rfl) : SOps P N ops Q (o :: rest) ⟨tm, bx, ow⟩ := sops_pure hg hd hN (po_extract ho hx ht) h
theorem oPt {c x y : Operand} {b : Bool} {r : A} {d : Nat} (h : SOps P N ops Q rest ⟨(d, r) :: tm, bx, ow⟩) (ho : o.op = .pick c x y := by exact rfl) (hc : evA tm c = some (.t (.v (.bool b))) := by exact rfl) (hb : b = true := by first | assumption | with_reducible rfl | decide | (simp only [decide_eq_true_eq, decide_eq_false_iff_not]; omega)) (hx : evA tm x = some r := by exact rfl) (hg : GuardIs ops tm o true := by first | exact .free rfl rfl | exact gy) (hd : o.dst = some d := by exact rfl) (hN : Nat.blt d N = true := by exact rfl) : SOps P N ops Q (o :: rest) ⟨tm, bx, ow⟩ := sops_pure hg hd hN (pkt ho hc hb hx) h
theorem oPf {c x y : Operand} {b : Bool} {r : A} {d : Nat} (h : SOps P N ops Q rest ⟨(d, r) :: tm, bx, ow⟩) (ho : o.op = .pick c x y := by exact rfl) (hc : evA tm c = some (.t (.v (.bool b))) := by exact rfl) (hb : b = false := by first | assumption | with_reducible rfl | decide | (simp only [decide_eq_true_eq, decide_eq_false_iff_not]; omega)) (hx : evA tm y = some r := by exact rfl) (hg : GuardIs ops tm o true := by first | exact .free rfl rfl | exact gy) (hd : o.dst = some d := by exact rfl) (hN : Nat.blt d N = true := by exact rfl) : SOps P N ops Q (o :: rest) ⟨tm, bx, ow⟩ := sops_pure hg hd hN (pkf ho hc hb hx) h
theorem xinc {t t2 : TypeId} {x y : Operand} {k : Nat} (ho : o.op = .binOp .add t x y t2) (hx : ρ x = some (.t (.v (.int .i64 (k : Int)))) := by exact rfl) (hy : ρ y = some (.t (.v (.int .i64 1))) := by exact rfl) (h : (k : Int) + 1 ≤ 9223372036854775807 := by omega) : PureOp P bx ow o ρ (.t (.v (.int .i64 ((k + 1 : Nat) : Int)))) := po_inc ho hx hy h
theorem sal {ty : TypeId} {d : Nat} {pl : List (Nat × Nat)} {zs : List Value} (hS : strI P ty = some (pl, zs)) (h : SOps P N ops Q rest ⟨(d, .bp d 0) :: tm, (d, zs.map fun v => A.t (T.v v)) :: bx, ow⟩) (ho : o.op = .alloc ty := by exact rfl) (hg : GuardIs ops tm o true := by first | exact .free rfl rfl | exact gy) (hd : o.dst = some d := by exact rfl) (hN : Nat.blt d N = true := by exact rfl) (hi : get bx d = none := by exact rfl) (hp : Nat.ble 2000 d = false := by exact rfl) (hq : cellB d = true := by exact rfl) : SOps P N ops Q (o :: rest) ⟨tm, bx, ow⟩ := sops_allocS hS hg ho hd hN hi h hp hq
theorem sbx {ty : TypeId} {x : Operand} {y : A} {d : Nat} (h : SOps P N ops Q rest ⟨(d, .bp d 0) :: tm, (d, y.cells) :: bx, ow⟩) (ho : o.op = .box ty x := by exact rfl) (hg : GuardIs ops tm o true := by first | exact .free rfl rfl | exact gy) (hd : o.dst = some d := by exact rfl) (hN : Nat.blt d N = true := by exact rfl) (hx : evA tm x = some y := by exact rfl) (hk : y.okB = true := by exact rfl) (hi : get bx d = none := by exact rfl) (hp : Nat.ble 2000 d = false := by exact rfl) (hq : cellB d = true := by exact rfl) : SOps P N ops Q (o :: rest) ⟨tm, bx, ow⟩ := sops_box hg ho hd hN hx hk hi h hp hq
theorem oS {ty : TypeId} {x z : Operand} {y : A} {i off n : Nat} {ag : Bool} {cs : List A} (h : SOps P N ops Q rest ⟨tm, (i, spl cs off y.cells) :: bx, ow⟩) (ho : o.op = .store ty x z := by exact rfl) (hg : GuardIs ops tm o true := by first | exact .free rfl rfl | exact gy) (hd : o.dst = none := by exact rfl) (hx : evA tm x = some (.bp i off) := by exact rfl) (hz : evA tm z = some y := by exact rfl) (hk : y.okB = true := by exact rfl) (hb : get bx i = some cs := by exact rfl) (hT : tyI P ty = some (ag, n) := by exact tyT rfl) (hn : y.cells.length = n := by exact rfl) (hf : Nat.ble (off + n) cs.length = true := by exact rfl) (hq : cellB i = true := by exact rfl) : SOps P N ops Q (o :: rest) ⟨tm, bx, ow⟩ := sops_store hg ho hd hx hz hk hb hT hn hf h hq
theorem rg (id : Nat) {l : List Oper} {st : St} (h : SOps P N l.toArray Q l st) : SWp P N (.region id l.toArray false) Q st := swp_region h
theorem rd (id : Nat) {l : List Oper} (h : SDraw P N bx ow l.toArray Q [] l tm) (hm : P.follows .mixedOrders = true := by exact mixed) (hB : regionB3 l.toArray l.length N = true := by kernel_rfl) (hD : depsB l.toArray l.length = true := by kernel_rfl) : SWp P N (.region id l.toArray true) Q ⟨tm, bx, ow⟩ := swp_draw_all hm hB hD h
theorem rt {s : Nat} {y : A} {t : T} {st : St} {l : List ResultVar} {ts : List T} (hl : Res P st l ts) (h : get st.tm s = some y := by exact rfl) (hv : Vw st.ow y t := by first | exact .t _ | exact .own rfl (by first | rfl | assumption | (simp; done) | (simp; omega)) | exact .nil _ | exact .emp _ | exact .fn _) : Res P st (.tmp s :: l) (t :: ts) := .tmp h hv hl
theorem rq {fn : Func} {r : T} {e : Exit} {st : St} {l : List ResultVar} {ts : List T} (hl : fn.results.toList = l) (h : Res P st l ts) (hr : r = resT ts) (he : e = .normal ∨ e = .ret := by first | exact .inr rfl | exact .inl rfl) : RetQ P fn r e st := retq he hl h hr
theorem ldo {ty e : TypeId} {x : Operand} {i nn sz k off n : Nat} {rows : List (List T)} {row : List T} {t : T} (ho : o.op = .load ty x) (hx : ρ x = some (.oe i nn sz k off) := by exact rfl) (hi : get ow i = some ⟨e, sz, rows⟩ := by exact rfl) (hnn : nn = rows.length := by first | rfl | assumption | omega | (simp; done) | (simp; omega) | (simp at *; omega)) (hT : tyI P ty = some (false, n) := by exact tyT rfl) (hk : rows[k]? = some row := by first | rfl | assumption | exact map_at (by first | assumption | omega)) (ht : row[off]? = some t := by exact rfl) : PureOp P bx ow o ρ (.t t) := po_load_own ho hx hi hnn hT hk ht
theorem sso {ty e : TypeId} {x z : Operand} {y : A} {i nn sz k off n : Nat} {ag : Bool} {rows : List (List T)} {row ts : List T} {t : T} (h : SOps P N ops Q rest ⟨tm, bx, (i, ⟨e, sz, rows.set k (row.take off ++ (ts ++ row.drop (off + n)))⟩) :: ow⟩) (ho : o.op = .store ty x z := by exact rfl) (hg : GuardIs ops tm o true := by first | exact .free rfl rfl | exact gy) (hd : o.dst = none := by exact rfl) (hx : evA tm x = some (.oe i nn sz k off) := by exact rfl) (hh : hid i = true := by rfl) (hi : get ow i = some ⟨e, sz, rows⟩ := by exact rfl) (hnn : nn = rows.length := by first | rfl | assumption | omega | (simp; done) | (simp; omega) | (simp at *; omega))
    (hz : evA tm z = some y := by exact rfl) (hv : Vw ow y t := by first | exact .t _ | exact .own rfl (by first | rfl | assumption | (simp; done) | (simp; omega)) | exact .nil _ | exact .emp _ | exact .fn _) (hk : t.okB = true := by exact rfl) (hts : t.cells = ts := by exact rfl) (hT : tyI P ty = some (ag, n) := by exact tyT rfl) (hn : ts.length = n := by exact rfl) (hrow : rows[k]? = some row := by first | rfl | assumption | exact map_at (by first | assumption | omega)) (hf : Nat.ble (off + n) row.length = true := by exact rfl) : SOps P N ops Q (o :: rest) ⟨tm, bx, ow⟩ := sops_store_own hh hg ho hd hx hi hnn hz hv hk hts hT hn hrow hf h
theorem xadd {t t2 : TypeId} {x y : Operand} {k : IntKind} {i j c : Int} (ho : o.op = .binOp .add t x y t2) (hx : ρ x = some (.t (.v (.int k i))) := by exact rfl) (hy : ρ y = some (.t (.v (.int k j))) := by exact rfl) (h : i + j = c := by exact rfl) (hz : k.wrap c = c := by first | rfl | (refine wrap_i64 ?_; omega)) : PureOp P bx ow o ρ (.t (.v (.int k c))) := po_arith ho hx hy (ar_add hz h)
theorem xist {t : TypeId} {x ix : Operand} {s : ByteArray} {k : Nat} {n : Int} {ik : IntKind} (ho : o.op = .index t x ix) (hx : ρ x = some (.t (.v (.string s))) := by exact rfl) (hi : ρ ix = some (.t (.v (.int ik n))) := by exact rfl) (hu : isStr P t = true := by exact tyR rfl) (hn : n = (k : Int) := by first | rfl | omega) (hk : k < s.size := by first | assumption | omega) : PureOp P bx ow o ρ (.t (.v (.int .u8 s[k].toNat))) := po_index_str ho hx hi hu hn hk
/-- the steps of control that need no hint; what is left is the new goal -/
theorem gc {X B : Prop} (k : B) (h : W1 B → X := by (intro k_; (first | (show SWp _ _ _ _ _; first | refine swp_seq ?_ | refine swp_ret ?_ | refine swp_skip ?_ | refine swp_block ?_ | refine swp_exit ?_) | (show Then _ _ _ _ _ _; first | refine then_go ?_ | refine then_ret ?_ | refine then_exit ?_) | (show InBlock _ _ _ _; first | refine block_go ?_ | refine block_exit ?_ | refine block_far rfl ?_ | refine block_ret ?_) | (show ForQ _ _ _ _ _ _ _ _; first | refine for_ret ?_ | refine for_exit ?_)); (repeat (first | (show SWp _ _ _ _ _; first | refine swp_seq ?_ | refine swp_ret ?_ | refine swp_skip ?_ | refine swp_block ?_ | refine swp_exit ?_) | (show Then _ _ _ _ _ _; first | refine then_go ?_ | refine then_ret ?_ | refine then_exit ?_) | (show InBlock _ _ _ _; first | refine block_go ?_ | refine block_exit ?_ | refine block_far rfl ?_ | refine block_ret ?_) | (show ForQ _ _ _ _ _ _ _ _; first | refine for_ret ?_ | refine for_exit ?_))); exact k_.p)) : X := h ⟨k⟩
end
end Go.Proofs.YtkmhaijefpgfiaaDoor.Sim

/- Headers: in memory, opened, as trees of data. -/
namespace Go.Proofs.YtkmhaijefpgfiaaDoor.Pl
set_option linter.unusedVariables false
set_option linter.unusedSimpArgs false
structure Head where
  name : ByteArray
  value : ByteArray
deriving Inhabited
end Go.Proofs.YtkmhaijefpgfiaaDoor.Pl
namespace Go.Proofs.YtkmhaijefpgfiaaDoor.Hd
set_option linter.unusedVariables false
set_option linter.unusedSimpArgs false
open Go.RowKit Go.WideShapes Go.ChangeShapes Go.Joins Mem Sim Opn
def HeadR : Rel Pl.Head := fun _ _ h cs => cs = [.string h.name, .string h.value] ∧ h.name.size ≤ maxLen ∧ h.value.size ≤ maxLen
theorem HeadR.kept : Kept HeadR := fun _ _ _ _ _ _ h _ _ => h
def headT (x : Pl.Head) : List T := [.v (.string x.name), .v (.string x.value)]
abbrev headsT (l : List Pl.Head) : T := .sl 2 (l.map headT)
end Go.Proofs.YtkmhaijefpgfiaaDoor.Hd

/- Headers: All, MayValue, Long: walks. -/
namespace Go.Proofs.YtkmhaijefpgfiaaDoor.Hd
set_option linter.unusedVariables false
set_option linter.unusedSimpArgs false
open Go.RowKit Mem Sim Opn
def strT (s : ByteArray) : List T := [.v (.string s)]
def valsOf (n : ByteArray) (l : List Pl.Head) : List ByteArray := (l.filter fun h => decide (h.name = n)).map (·.value)
def L1 (n : ByteArray) (l : List Pl.Head) (k : Nat) : St := ⟨[(0, .t (.v (.string n))), (1, .t (headsT l)), (5, .own 150 ((valsOf n (l.take k)).map strT).length), (6, .t (.v (.int .i64 (k : Int))))], [], [(150, ⟨9, 1, (valsOf n (l.take k)).map strT⟩)]⟩
def L2 (n : ByteArray) (l : List Pl.Head) (k : Nat) : St := ⟨[(0, .t (.v (.string n))), (8, .t (headsT l)), (9, .t (.v (.int .i64 (l.length : Int)))), (5, .own 150 ((valsOf n (l.take k)).map strT).length), (10, .t (.v (.int .i64 (k : Int))))], [], [(150, ⟨9, 1, (valsOf n (l.take k)).map strT⟩)]⟩
end Go.Proofs.YtkmhaijefpgfiaaDoor.Hd

/- Headers: letters made small: walks. -/
namespace Go.Proofs.YtkmhaijefpgfiaaDoor.Hd
set_option linter.unusedVariables false
set_option linter.unusedSimpArgs false
open Go.RowKit Mem Sim Opn
theorem byt53 : byE Tryd.prog 53 = some 5 := by kernel_rfl
end Go.Proofs.YtkmhaijefpgfiaaDoor.Hd

/- Functions of the library over texts: walks. -/
namespace Go.Proofs.YtkmhaijefpgfiaaDoor.Str
set_option linter.unusedVariables false
set_option linter.unusedSimpArgs false
open Go.RowKit Mem Sim
/-- where a byte stands first; else the length -/
def fidx (s : ByteArray) (c : UInt8) : Nat := s.toList.findIdx (· == c)
theorem idx_list (c : UInt8) : ∀ l : List UInt8, Lib.indexByte l c = if l.findIdx (· == c) < l.length then ((l.findIdx (· == c) : Nat) : Int) else -1
  | [] => by simp [Lib.indexByte]
  | b :: l => by
    have ih := idx_list c l
    unfold Lib.indexByte
    rw [List.findIdx_cons]
    cases hb : b == c with
    | true => simp
    | false =>
      simp only [Bool.false_eq_true, if_false, cond_false, List.length_cons]
      rw [ih]
      by_cases h : l.findIdx (· == c) < l.length
      · rw [if_pos h, if_neg (by simp), if_pos (by omega)]; omega
      · rw [if_neg h, if_pos (by rfl), if_neg (by omega)]
theorem idx_eq (s : ByteArray) (c : UInt8) : Lib.indexByte s.data.toList c = if fidx s c < s.size then ((fidx s c : Nat) : Int) else -1 := by
  rw [idx_list]; unfold fidx
  rw [ByteArray.toList_eq]; rfl
theorem u8_back (c : UInt8) : ((c.toNat : Int)).toNat.toUInt8 = c := by simp
theorem ext_idx (s : ByteArray) (c : UInt8) (w : World) : (callFunc 42 [Value.string s, .int .u8 (c.toNat : Int)].toArray).run Tryd.prog w = .ok (.value (.int .i64 (Lib.indexByte s.data.toList c))) w := by
  rw [run_callFunc_extern (e := Extern.BytealgIndexByte.indexByte) Tryd.func42 (by kernel_rfl) (by kernel_rfl) (by kernel_rfl) (by kernel_rfl)]
  have := Lib.run_indexByteString (P := Tryd.prog) s (c.toNat : Int) w
  rw [u8_back] at this
  rw [show [Value.string s, .int .u8 (c.toNat : Int)].toArray = #[Value.string s, .int .u8 (c.toNat : Int)] from rfl, this]; rfl
set_option maxRecDepth 100000 in
theorem idxb_ (s : ByteArray) (c : UInt8) : PCalls Tryd.prog 36 [.v (.string s), .v (.int .u8 (c.toNat : Int))] (.v (.int .i64 (Lib.indexByte s.data.toList c))) := by
  refine pcalls_of Tryd.func36 rfl rfl Tryd.ntmps36 rfl ?_
  repeat' (first | (refine rg 0 ?_; refine oAs ?_; refine oN ?_) | (refine rg 1 ?_; refine oMv ?_; refine oMv ?_; refine sp (po_ext (ext_idx s c) rfl (ac (ac .nil))) ?_; refine oAs ?_; refine oN ?_) | refine gc ?_ | refine ct ?_ | refine cf ?_ | refine swp_cond rfl (fun hc => ?_) (fun hc => ?_) | refine rq rfl (rt .nil) ?_)
  rfl
set_option maxRecDepth 100000 in
theorem indexByte_ (s : ByteArray) (c : UInt8) : PCalls Tryd.prog 29 [.v (.string s), .v (.int .u8 (c.toNat : Int))] (.v (.int .i64 (Lib.indexByte s.data.toList c))) := by
  refine pcalls_of Tryd.func29 rfl rfl Tryd.ntmps29 rfl ?_
  repeat' (first | (refine rg 0 ?_; refine oAs ?_; refine oN ?_) | (refine rg 1 ?_; refine oMv ?_; refine oMv ?_; refine oC (idxb_ s c) rfl (ac (ac .nil)) ?_; refine oAs ?_; refine oN ?_) | refine gc ?_ | refine ct ?_ | refine cf ?_ | refine swp_cond rfl (fun hc => ?_) (fun hc => ?_) | refine rq rfl (rt .nil) ?_)
  rfl
set_option maxRecDepth 100000 in
theorem index1_ (s : ByteArray) (c : UInt8) : PCalls Tryd.prog 37 [.v (.string s), .v (.string ⟨#[c]⟩)] (.v (.int .i64 (Lib.indexByte s.data.toList c))) := by
  have z0 : decide ((((⟨#[c]⟩ : ByteArray).size : Nat) : Int) = 0) = false := rfl
  have z1 : decide ((((⟨#[c]⟩ : ByteArray).size : Nat) : Int) = 1) = true := rfl
  have z2 : 0 < (⟨#[c]⟩ : ByteArray).size := Nat.one_pos
  refine pcalls_of Tryd.func37 rfl rfl Tryd.ntmps37 rfl ?_
  by_cases he : (⟨#[c]⟩ : ByteArray) = s
  · have he' : decide ((⟨#[c]⟩ : ByteArray) = s) = true := by simp [he]
    repeat' (first | (refine rg 0 ?_; refine oAs ?_; refine oN ?_) | (refine rg 1 ?_; refine oMv ?_; refine sp (po_len_str rfl rfl (tyR rfl)) ?_; refine oAs ?_; refine oN ?_) | (refine rg 2 ?_; refine oMv ?_; refine oCm ?_; refine oMv ?_; (first | refine oMv ?_ | refine oK ?_ | ((refine ssp (fun hc => ?_) (fun hc => ?_)) <;> first | refine oMv ?_ | refine oK ?_)) <;> (first | refine oMv ?_ | refine oK ?_) <;> (first | refine sp (po_str rfl rfl rfl rfl) ?_ | refine oK ?_) <;> (first | refine oPt ?_ | refine oPf ?_) <;> (refine oAs ?_) <;> (refine oN ?_)) | (refine rg 3 ?_; refine oAs ?_; refine oN ?_) | refine gc ?_ | refine ct ?_ | refine cf ?_ | refine swp_cond rfl (fun hc => ?_) (fun hc => ?_) | refine rq rfl (rt .nil) ?_)
    refine eq_i ?_
    subst he
    simp [Lib.indexByte]
  · have he' : decide ((⟨#[c]⟩ : ByteArray) = s) = false := by simp [he]
    repeat' (first | (refine rg 0 ?_; refine oAs ?_; refine oN ?_) | (refine rg 1 ?_; refine oMv ?_; refine sp (po_len_str rfl rfl (tyR rfl)) ?_; refine oAs ?_; refine oN ?_) | (refine rg 2 ?_; refine oMv ?_; refine oCm ?_; refine oMv ?_; (first | refine oMv ?_ | refine oK ?_ | ((refine ssp (fun hc => ?_) (fun hc => ?_)) <;> first | refine oMv ?_ | refine oK ?_)) <;> (first | refine oMv ?_ | refine oK ?_) <;> (first | refine sp (po_str rfl rfl rfl rfl) ?_ | refine oK ?_) <;> (first | refine oPt ?_ | refine oPf ?_) <;> (refine oAs ?_) <;> (refine oN ?_)) | (refine rg 4 ?_; refine oMv ?_; refine oCm ?_; refine oAs ?_; refine oN ?_) | (refine rg 5 ?_; refine oMv ?_; refine oMv ?_; refine sp (po_index_str (k := 0) rfl rfl rfl (tyR rfl) (by first | rfl | omega) (by first | assumption | omega)) ?_; refine oC (idxb_ s c) rfl (ac (ac .nil)) ?_; refine oAs ?_; refine oN ?_) | refine gc ?_ | refine ct ?_ | refine cf ?_ | refine swp_cond rfl (fun hc => ?_) (fun hc => ?_) | refine rq rfl (rt .nil) ?_)
    rfl
def cutT (s : ByteArray) (c : UInt8) : T := if fidx s c < s.size then .tup [.v (.string (s.extract 0 (fidx s c))), .v (.string (s.extract (fidx s c + 1) s.size)), .v (.bool true)] else .tup [.v (.string s), .v (.string ⟨#[]⟩), .v (.bool false)]
set_option maxRecDepth 100000 in
theorem cut1_ (s : ByteArray) (c : UInt8) (hs : s.size ≤ maxLen) : PCalls Tryd.prog 31 [.v (.string s), .v (.string ⟨#[c]⟩)] (cutT s c) := by
  unfold maxLen at hs
  have hI := index1_ s c
  rw [idx_eq] at hI
  unfold cutT
  refine pcalls_of Tryd.func31 rfl rfl Tryd.ntmps31 rfl ?_
  by_cases h : fidx s c < s.size
  · rw [if_pos h] at hI
    rw [if_pos h]
    generalize fidx s c = n at *
    repeat' (first | (refine rg 0 ?_; refine oAs ?_; refine oAs ?_; refine oAs ?_; refine oN ?_) | (refine rg 1 ?_; refine oMv ?_; refine oMv ?_; refine oC (hI) rfl (ac (ac .nil)) ?_; refine oAs ?_; refine oN ?_) | (refine rg 2 ?_; refine oMv ?_; refine oCm ?_; refine oN ?_) | (refine rd 3 ?_; refine dMv ?_; refine dMv ?_; refine dp (po_slice_str rfl rfl (tyR rfl) (by first | rfl | exact ⟨_, rfl⟩) (by first | rfl | exact ⟨_, rfl⟩) (by omega) (by omega)) ?_; refine dMv ?_; refine dMv ?_; refine dMv ?_; refine dp (po_len_str rfl rfl (tyR rfl)) ?_; (first | refine dp (xinc rfl) ?_ | refine dp (xadd rfl) ?_); refine dp (po_slice_str rfl rfl (tyR rfl) (by first | rfl | exact ⟨_, rfl⟩) (by first | rfl | exact ⟨_, rfl⟩) (by omega) (by omega)) ?_; refine dAs ?_; refine dAs ?_; refine dAs ?_; refine dN ?_; refine oN ?_) | refine gc ?_ | refine ct ?_ | refine cf ?_ | refine swp_cond rfl (fun hc => ?_) (fun hc => ?_) | refine rq rfl (rt (rt (rt .nil))) ?_)
    rfl
  · rw [if_neg h] at hI
    rw [if_neg h]
    repeat' (first | (refine rg 0 ?_; refine oAs ?_; refine oAs ?_; refine oAs ?_; refine oN ?_) | (refine rg 1 ?_; refine oMv ?_; refine oMv ?_; refine oC (hI) rfl (ac (ac .nil)) ?_; refine oAs ?_; refine oN ?_) | (refine rg 2 ?_; refine oMv ?_; refine oCm ?_; refine oN ?_) | (refine rg 4 ?_; refine oMv ?_; refine oAs ?_; refine oAs ?_; refine oAs ?_; refine oN ?_) | refine gc ?_ | refine ct ?_ | refine cf ?_ | refine swp_cond rfl (fun hc => ?_) (fun hc => ?_) | refine rq rfl (rt (rt (rt .nil))) ?_)
    rfl
set_option maxRecDepth 100000 in
theorem cut_ (s : ByteArray) (c : UInt8) (hs : s.size ≤ maxLen) : PCalls Tryd.prog 20 [.v (.string s), .v (.string ⟨#[c]⟩)] (cutT s c) := by
  have hI := cut1_ s c hs
  refine pcalls_of Tryd.func20 rfl rfl Tryd.ntmps20 rfl ?_
  unfold cutT at *
  by_cases h : fidx s c < s.size
  · rw [if_pos h] at hI
    rw [if_pos h]
    repeat' (first | (refine rg 0 ?_; refine oAs ?_; refine oAs ?_; refine oAs ?_; refine oN ?_) | (refine rg 1 ?_; refine oMv ?_; refine oMv ?_; refine oC (hI) rfl (ac (ac .nil)) ?_; refine oEx ?_; refine oEx ?_; refine oEx ?_; refine oAs ?_; refine oAs ?_; refine oAs ?_; refine oN ?_) | refine gc ?_ | refine ct ?_ | refine cf ?_ | refine swp_cond rfl (fun hc => ?_) (fun hc => ?_) | refine rq rfl (rt (rt (rt .nil))) ?_)
    rfl
  · rw [if_neg h] at hI
    rw [if_neg h]
    repeat' (first | (refine rg 0 ?_; refine oAs ?_; refine oAs ?_; refine oAs ?_; refine oN ?_) | (refine rg 1 ?_; refine oMv ?_; refine oMv ?_; refine oC (hI) rfl (ac (ac .nil)) ?_; refine oEx ?_; refine oEx ?_; refine oEx ?_; refine oAs ?_; refine oAs ?_; refine oAs ?_; refine oN ?_) | refine gc ?_ | refine ct ?_ | refine cf ?_ | refine swp_cond rfl (fun hc => ?_) (fun hc => ?_) | refine rq rfl (rt (rt (rt .nil))) ?_)
    rfl
end Go.Proofs.YtkmhaijefpgfiaaDoor.Str
