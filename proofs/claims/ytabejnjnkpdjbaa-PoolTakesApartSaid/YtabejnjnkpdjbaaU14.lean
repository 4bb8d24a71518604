/- Merged by bundles.py: SimTab, SimV, SimZ, SimGo, SimBld. -/
import Derived.Test.YtabejnjnkpdjbaaU5
import Derived.Test.YtabejnjnkpdjbaaU10
import Derived.Test.YtabejnjnkpdjbaaU12
import Derived.Scope
/- The program's types: cells, fields, elements. (Printed by mk_tab.py.) -/

namespace Go.Proofs.Ytabejnjnkpdjbaa.Sim
open Go.RowKit Mem
set_option linter.unusedVariables false
set_option maxRecDepth 100000
def tabT : List (Nat × Bool × Nat) := [(1, false, 1), (2, false, 1), (3, false, 1), (4, false, 1), (5, false, 1), (6, false, 1), (7, true, 4), (8, true, 4), (9, false, 1), (10, false, 1), (11, false, 1), (12, false, 1), (13, true, 2), (14, true, 2), (15, false, 1), (16, false, 1), (17, false, 1), (18, true, 1), (19, true, 1), (21, false, 1), (22, false, 1), (23, false, 1), (24, false, 1), (25, true, 3), (26, true, 3), (27, false, 1), (28, true, 1), (29, true, 1), (30, false, 1), (32, false, 1), (33, true, 2), (34, true, 2), (35, false, 1), (36, true, 4), (37, true, 4), (38, true, 3), (39, true, 3), (40, false, 1), (41, true, 14), (42, true, 14), (43, false, 1), (44, false, 1), (45, true, 4), (46, true, 4), (48, false, 1), (49, false, 1), (50, false, 1), (51, false, 1), (52, false, 1), (53, false, 1), (54, false, 1), (55, false, 1), (56, false, 1), (57, true, 4), (58, true, 4), (60, false, 1), (61, false, 1), (62, false, 1), (63, true, 9), (64, true, 9), (65, false, 1), (66, false, 1), (68, false, 1), (69, true, 9), (70, true, 9), (71, false, 1), (73, false, 1), (75, false, 1), (77, false, 1), (78, false, 1), (80, false, 1), (81, true, 2), (82, true, 2), (83, true, 18), (84, true, 18), (86, false, 1), (87, false, 1), (88, false, 1), (89, false, 1), (90, false, 1), (91, true, 20), (92, true, 20), (93, false, 1), (94, false, 1), (95, false, 1), (96, false, 1), (97, false, 1), (98, false, 1), (99, false, 1), (100, false, 1), (101, false, 1), (102, false, 1), (103, false, 1), (104, false, 1), (105, false, 1), (106, false, 1), (107, false, 1), (108, false, 1), (109, false, 1), (110, false, 1), (111, false, 1), (112, false, 1), (113, false, 1), (114, false, 1), (115, false, 1), (116, false, 1), (117, true, 14), (118, true, 14), (119, false, 1), (120, false, 1), (121, false, 1), (122, false, 1), (123, true, 7), (124, true, 7), (125, false, 1), (126, false, 1), (127, false, 1), (128, false, 1), (129, false, 1), (130, false, 1), (131, false, 1), (132, false, 1), (133, false, 1), (134, false, 1), (135, false, 1), (136, false, 1), (137, false, 1), (139, false, 1), (140, false, 1), (141, false, 1), (142, false, 1), (143, false, 1), (144, false, 1), (145, false, 1), (146, false, 1), (148, false, 1), (149, false, 1), (150, false, 1), (151, false, 1), (152, false, 1), (153, false, 1), (154, false, 1), (155, false, 1), (156, false, 1), (157, false, 1), (158, false, 1), (159, false, 1), (160, false, 1), (161, false, 1), (162, false, 1), (163, false, 1), (164, false, 1), (165, false, 1), (166, false, 1), (167, false, 1), (168, false, 1), (169, false, 1), (170, false, 1), (171, false, 1), (172, false, 1), (173, false, 1), (174, false, 1), (175, false, 1), (176, false, 1), (177, true, 4), (178, true, 4), (179, true, 0), (180, true, 0), (181, true, 0), (182, false, 1), (183, false, 1), (184, false, 1), (185, false, 1), (186, false, 1), (187, false, 1), (188, false, 1), (189, true, 11), (190, true, 11), (191, false, 1)]
def tabS : List (Nat × Nat) := [(22, 1), (23, 1), (27, 14), (40, 4), (44, 1), (55, 9), (56, 14), (61, 3), (62, 1), (65, 18), (66, 2), (116, 9)]
def tabK : List (Nat × IntKind) := [(2, .i64), (3, .i64), (5, .u8), (6, .u8), (12, .u64), (21, .i32), (24, .u64), (30, .i64), (35, .u32), (175, .u64), (183, .u8), (184, .u8), (187, .i32), (188, .i32)]
def tabF : List (Nat × Nat × Nat) := [(7, 0, 0), (7, 1, 1), (7, 2, 2), (7, 3, 3), (8, 0, 0), (8, 1, 1), (8, 2, 2), (8, 3, 3), (13, 0, 0), (13, 1, 1), (14, 0, 0), (14, 1, 1), (18, 0, 0), (19, 0, 0), (25, 0, 0), (25, 1, 1), (25, 2, 2), (26, 0, 0), (26, 1, 1), (26, 2, 2), (28, 0, 0), (29, 0, 0), (33, 0, 0), (33, 1, 1), (34, 0, 0), (34, 1, 1), (36, 0, 0), (36, 1, 2), (36, 2, 3), (37, 0, 0), (37, 1, 2), (37, 2, 3), (38, 0, 0), (38, 1, 1), (38, 2, 2), (39, 0, 0), (39, 1, 1), (39, 2, 2), (41, 0, 0), (41, 1, 3), (41, 2, 4), (41, 3, 5), (41, 4, 9), (41, 5, 12), (41, 6, 13), (42, 0, 0), (42, 1, 3), (42, 2, 4), (42, 3, 5), (42, 4, 9), (42, 5, 12), (42, 6, 13), (45, 0, 0), (45, 1, 1), (45, 2, 2), (45, 3, 3), (46, 0, 0), (46, 1, 1), (46, 2, 2), (46, 3, 3), (57, 0, 0), (57, 1, 1), (57, 2, 2), (57, 3, 3), (58, 0, 0), (58, 1, 1), (58, 2, 2), (58, 3, 3), (63, 0, 0), (63, 1, 1), (63, 2, 2), (63, 3, 3), (63, 4, 4), (63, 5, 5), (63, 6, 6), (64, 0, 0), (64, 1, 1), (64, 2, 2), (64, 3, 3), (64, 4, 4), (64, 5, 5), (64, 6, 6), (69, 0, 0), (69, 1, 1), (69, 2, 2), (69, 3, 3), (69, 4, 4), (69, 5, 8), (70, 0, 0), (70, 1, 1), (70, 2, 2), (70, 3, 3), (70, 4, 4), (70, 5, 8), (81, 0, 0), (81, 1, 1), (82, 0, 0), (82, 1, 1), (83, 0, 0), (83, 1, 1), (83, 2, 2), (83, 3, 5), (83, 4, 6), (83, 5, 9), (84, 0, 0), (84, 1, 1), (84, 2, 2), (84, 3, 5), (84, 4, 6), (84, 5, 9), (91, 0, 0), (91, 1, 1), (91, 2, 2), (91, 3, 3), (91, 4, 6), (91, 5, 15), (91, 6, 18), (91, 7, 19), (92, 0, 0), (92, 1, 1), (92, 2, 2), (92, 3, 3), (92, 4, 6), (92, 5, 15), (92, 6, 18), (92, 7, 19), (117, 0, 0), (117, 1, 3), (117, 2, 4), (117, 3, 5), (117, 4, 8), (117, 5, 9), (117, 6, 10), (117, 7, 11), (117, 8, 12), (117, 9, 13), (118, 0, 0), (118, 1, 3), (118, 2, 4), (118, 3, 5), (118, 4, 8), (118, 5, 9), (118, 6, 10), (118, 7, 11), (118, 8, 12), (118, 9, 13), (123, 0, 0), (123, 1, 4), (123, 2, 5), (123, 3, 6), (124, 0, 0), (124, 1, 4), (124, 2, 5), (124, 3, 6), (177, 0, 0), (177, 1, 1), (177, 2, 2), (177, 3, 3), (178, 0, 0), (178, 1, 1), (178, 2, 2), (178, 3, 3), (189, 0, 0), (189, 1, 1), (189, 2, 2), (189, 3, 3), (189, 4, 4), (189, 5, 5), (189, 6, 6), (189, 7, 7), (189, 8, 8), (189, 9, 9), (189, 10, 10), (190, 0, 0), (190, 1, 1), (190, 2, 2), (190, 3, 3), (190, 4, 4), (190, 5, 5), (190, 6, 6), (190, 7, 7), (190, 8, 8), (190, 9, 9), (190, 10, 10)]
def tabE : List (Nat × Nat × Nat × Nat) := [(22, 24, 1, 8), (23, 4, 1, 1), (27, 42, 14, 144), (40, 46, 4, 48), (44, 5, 1, 1), (55, 64, 9, 72), (56, 118, 14, 128), (61, 26, 3, 24), (62, 3, 1, 8), (65, 84, 18, 176), (66, 82, 2, 16), (116, 70, 9, 104)]
def allB {α : Type} (p : α → Bool) : List α → Bool
  | [] => true
  | x :: r => p x && allB p r
theorem allB_mem {α : Type} {p : α → Bool} : ∀ {l : List α}, allB p l = true → ∀ x ∈ l, p x = true
  | [], _, x, h => by cases h
  | y :: r, h, x, hx => by
    simp only [allB, Bool.and_eq_true] at h
    rcases List.mem_cons.1 hx with rfl | hx
    · exact h.1
    · exact allB_mem h.2 x hx
def lk {β : Type} : List (Nat × β) → Nat → Option β
  | [], _ => none
  | (a, b) :: r, n => bif Nat.beq a n then some b else lk r n
theorem lk_mem {β : Type} : ∀ {l : List (Nat × β)} {n : Nat} {b : β}, lk l n = some b → (n, b) ∈ l
  | [], n, b, h => by cases h
  | (a, b') :: r, n, b, h => by
    unfold lk at h
    cases hb : Nat.beq a n with
    | true => rw [hb] at h; injection h with h; subst h; rw [Nat.eq_of_beq_eq_true hb]; exact List.mem_cons_self
    | false => rw [hb] at h; exact List.mem_cons_of_mem _ (lk_mem h)
def lk2 {β : Type} : List (Nat × Nat × β) → Nat → Nat → Option β
  | [], _, _ => none
  | (a, c, b) :: r, n, k => bif Nat.beq a n then (bif Nat.beq c k then some b else lk2 r n k) else lk2 r n k
theorem lk2_mem {β : Type} : ∀ {l : List (Nat × Nat × β)} {n k : Nat} {b : β}, lk2 l n k = some b → (n, k, b) ∈ l
  | [], n, k, b, h => by cases h
  | (a, c, b') :: r, n, k, b, h => by
    unfold lk2 at h
    cases hb : Nat.beq a n with
    | true =>
      rw [hb] at h
      cases hc : Nat.beq c k with
      | true => rw [hc] at h; injection h with h; subst h; rw [Nat.eq_of_beq_eq_true hb, Nat.eq_of_beq_eq_true hc]; exact List.mem_cons_self
      | false => rw [hc] at h; exact List.mem_cons_of_mem _ (lk2_mem h)
    | false => rw [hb] at h; exact List.mem_cons_of_mem _ (lk2_mem h)
theorem okT : allB (fun x => decide (tyI Try.prog x.1 = some x.2)) tabT = true := by kernel_rfl
theorem okS : allB (fun x => decide (sliceSz Try.prog x.1 = some x.2)) tabS = true := by kernel_rfl
theorem okK : allB (fun x => decide (intK Try.prog x.1 = some x.2)) tabK = true := by kernel_rfl
theorem okF : allB (fun x => decide (fieldOff Try.prog x.1 x.2.1 = some x.2.2)) tabF = true := by kernel_rfl
theorem okE : allB (fun x => decide (sliceE Try.prog x.1 = some x.2)) tabE = true := by kernel_rfl
theorem tyE {t : Nat} {x : Nat × Nat × Nat} (h : lk tabE t = some x) : sliceE Try.prog t = some x := of_decide_eq_true (allB_mem okE _ (lk_mem h))
theorem str26 : strI Try.prog 26 = some ([(0, 1), (1, 1), (2, 1)], [.int .i64 0, .int .u64 0, .int .u64 0]) := by kernel_rfl
theorem str29 : strI Try.prog 29 = some ([(0, 1)], [.slice none 0 0]) := by kernel_rfl
theorem str37 : strI Try.prog 37 = some ([(0, 2), (2, 1), (3, 1)], [.string ⟨#[]⟩, .string ⟨#[]⟩, .int .u64 0, .int .u32 0]) := by kernel_rfl
theorem str39 : strI Try.prog 39 = some ([(0, 1), (1, 1), (2, 1)], [.int .u64 0, .int .u32 0, .int .i64 0]) := by kernel_rfl
theorem str42 : strI Try.prog 42 = some ([(0, 3), (3, 1), (4, 1), (5, 4), (9, 3), (12, 1), (13, 1)], [.int .i64 0, .int .u64 0, .int .u64 0, .int .i64 0, .int .u64 0, .string ⟨#[]⟩, .string ⟨#[]⟩, .int .u64 0, .int .u32 0, .int .u64 0, .int .u32 0, .int .i64 0, .int .u64 0, .slice none 0 0]) := by kernel_rfl
theorem str46 : strI Try.prog 46 = some ([(0, 1), (1, 1), (2, 1), (3, 1)], [.int .u64 0, .int .i64 0, .int .i64 0, .slice none 0 0]) := by kernel_rfl
theorem str58 : strI Try.prog 58 = some ([(0, 1), (1, 1), (2, 1), (3, 1)], [.int .i64 0, .int .u64 0, .int .u64 0, .slice none 0 0]) := by kernel_rfl
theorem str70 : strI Try.prog 70 = some ([(0, 1), (1, 1), (2, 1), (3, 1), (4, 4), (8, 1)], [.int .u64 0, .int .u64 0, .int .u64 0, .int .u64 0, .string ⟨#[]⟩, .string ⟨#[]⟩, .int .u64 0, .int .u32 0, .slice none 0 0]) := by kernel_rfl
theorem str82 : strI Try.prog 82 = some ([(0, 1), (1, 1)], [.int .u64 0, .int .i64 0]) := by kernel_rfl
theorem str84 : strI Try.prog 84 = some ([(0, 1), (1, 1), (2, 3), (5, 1), (6, 3), (9, 9)], [.int .i64 0, .int .i64 0, .int .i64 0, .int .u64 0, .int .u64 0, .int .u64 0, .int .u64 0, .int .u32 0, .int .i64 0, .int .u64 0, .int .u64 0, .int .u64 0, .int .u64 0, .string ⟨#[]⟩, .string ⟨#[]⟩, .int .u64 0, .int .u32 0, .slice none 0 0]) := by kernel_rfl
theorem str118 : strI Try.prog 118 = some ([(0, 3), (3, 1), (4, 1), (5, 3), (8, 1), (9, 1), (10, 1), (11, 1), (12, 1), (13, 1)], [.int .i64 0, .int .u64 0, .int .u64 0, .int .i64 0, .int .u64 0, .int .u64 0, .int .u32 0, .int .i64 0, .int .i64 0, .int .u64 0, .int .u64 0, .int .u64 0, .int .u64 0, .slice none 0 0]) := by kernel_rfl
theorem str124 : strI Try.prog 124 = some ([(0, 4), (4, 1), (5, 1), (6, 1)], [.int .i64 0, .int .u64 0, .int .u64 0, .slice none 0 0, .int .u64 0, .slice none 0 0, .slice none 0 0]) := by kernel_rfl
theorem tyT {t : Nat} {x : Bool × Nat} (h : lk tabT t = some x) : tyI Try.prog t = some x := of_decide_eq_true (allB_mem okT _ (lk_mem h))
theorem tyS {t n : Nat} (h : lk tabS t = some n) : sliceSz Try.prog t = some n := of_decide_eq_true (allB_mem okS _ (lk_mem h))
theorem tyK {t : Nat} {k : IntKind} (h : lk tabK t = some k) : intK Try.prog t = some k := of_decide_eq_true (allB_mem okK _ (lk_mem h))
theorem tyF {t f k : Nat} (h : lk2 tabF t f = some k) : fieldOff Try.prog t f = some k := of_decide_eq_true (allB_mem okF _ (lk2_mem h))
theorem mixed : Try.prog.follows .mixedOrders = true := by kernel_rfl
end Go.Proofs.Ytabejnjnkpdjbaa.Sim

/- A logic of states: a struct value's field. -/
namespace Go.Proofs.Ytabejnjnkpdjbaa.Sim
set_option linter.unusedVariables false
set_option linter.unusedSimpArgs false
open Go.RowKit Mem
def field1 (P : Program) (s : TypeId) (f : Nat) : Option Nat := match P.underlying s with
  | some (.struct fs) => match fs[f]? with
    | some fd => match tyI P fd.type with
      | some (false, _) => some fd.offset
      | _ => none
    | none => none
  | _ => none
theorem field1_spec {P : Program} {s f k : Nat} (h : field1 P s f = some k) : ∃ fs fd n, P.underlying s = some (.struct fs) ∧ fs[f]? = some fd ∧ tyI P fd.type = some (false, n) ∧ fd.offset = k := by
  unfold field1 at h
  split at h
  · rename_i fs hu
    split at h
    · rename_i fd hf
      split at h
      · rename_i n ht; injection h with h; exact ⟨fs, fd, n, hu, hf, ht, h⟩
      · cases h
    · cases h
  · cases h
section
variable {P : Program} {bx : List (Nat × List A)} {ow : List (Nat × Own)} {o : Oper} {ρ : Operand → Option A} {r : A}
theorem po_fieldv {s f k : Nat} {x : Operand} {cs : List T} {t : T} (ho : o.op = .field s x f) (hx : ρ x = some (.t (.agg cs))) (hk : field1 P s f = some k) (ht : cs[k]? = some t) : PureOp P bx ow o ρ (.t t) := pure_run fun C m g w a he h => by
  have h1 : TR m (.agg cs) (a.eval x) := h x (by simp [ho, Op.operands]) _ hx
  obtain ⟨fs, fd, n, hu, hf, hT, hoff⟩ := field1_spec hk
  obtain ⟨d, i, hu', hi, hd, hs⟩ := tyI_spec hT
  generalize hv : a.eval x = v at h1
  cases h1 with
  | agg _ vs hl h2 h3 =>
    have hlt : k < vs.size := by rw [hl]; exact (List.getElem?_eq_some_iff.1 ht).1
    have hagg : (isAgg fd.type).run P w = .ok false w := by
      unfold isAgg
      rw [Sem.run_bind, run_underlying hu' w]
      cases d <;> simp_all
    refine ⟨vs[k], ?_, h3 k t _ ht (by simp [hlt])⟩
    simp [execOp, ho, hv, Instr.field, run_underlying hu, hf, asAgg, part, hagg, hoff, hlt]
end
end Go.Proofs.Ytabejnjnkpdjbaa.Sim

/- A logic of states: calls that are lent rows, or hand back rows of the caller's own, in a region that draws its order. -/
namespace Go.Proofs.Ytabejnjnkpdjbaa.Sim
set_option linter.unusedVariables false
set_option linter.unusedSimpArgs false
open Go.RowKit Mem
inductive FreshB (fb : Nat → Nat) (bx bx0 : List (Nat × List A)) : List (Nat × List A) → Prop
  | nil : FreshB fb bx bx0 []
  | old {p : Nat × List A} {l : List (Nat × List A)} (h : (get bx0 p.1).isSome = true) (hl : FreshB fb bx bx0 l) : FreshB fb bx bx0 (p :: l)
  | new {p : Nat × List A} {l : List (Nat × List A)} (h : get bx (fb p.1) = none) (hl : FreshB fb bx bx0 l) : FreshB fb bx bx0 (p :: l)
inductive FreshW (fw : Nat → Nat) (ow ow0 : List (Nat × Own)) : List (Nat × Own) → Prop
  | nil : FreshW fw ow ow0 []
  | old {p : Nat × Own} {l : List (Nat × Own)} (h : (get ow0 p.1).isSome = true) (hl : FreshW fw ow ow0 l) : FreshW fw ow ow0 (p :: l)
  | new {p : Nat × Own} {l : List (Nat × Own)} (h : get ow (fw p.1) = none) (hl : FreshW fw ow ow0 l) : FreshW fw ow ow0 (p :: l)
inductive SameLen (ow1 : List (Nat × Own)) : List (Nat × Own) → Prop
  | nil : SameLen ow1 []
  | cons {i : Nat} {o o1 : Own} {l : List (Nat × Own)} (h : get ow1 i = some o1) (he : o1.rows.length = o.rows.length) (hl : SameLen ow1 l) : SameLen ow1 ((i, o) :: l)
theorem FreshB.all {fb : Nat → Nat} {bx bx0 l : List (Nat × List A)} (h : FreshB fb bx bx0 l) : ∀ p ∈ l, (get bx0 p.1).isSome = true ∨ get bx (fb p.1) = none := by
  induction h with
  | nil => intro p hp; cases hp
  | old h _ ih => intro p hp; rcases List.mem_cons.1 hp with rfl | hp; exact .inl h; exact ih p hp
  | new h _ ih => intro p hp; rcases List.mem_cons.1 hp with rfl | hp; exact .inr h; exact ih p hp
theorem FreshW.all {fw : Nat → Nat} {ow ow0 l : List (Nat × Own)} (h : FreshW fw ow ow0 l) : ∀ p ∈ l, (get ow0 p.1).isSome = true ∨ get ow (fw p.1) = none := by
  induction h with
  | nil => intro p hp; cases hp
  | old h _ ih => intro p hp; rcases List.mem_cons.1 hp with rfl | hp; exact .inl h; exact ih p hp
  | new h _ ih => intro p hp; rcases List.mem_cons.1 hp with rfl | hp; exact .inr h; exact ih p hp
theorem SameLen.at {ow1 l : List (Nat × Own)} (h : SameLen ow1 l) {i : Nat} {o : Own} (hi : get l i = some o) : ∃ o1, get ow1 i = some o1 ∧ o1.rows.length = o.rows.length := by
  induction h with
  | nil => cases hi
  | cons h he _ ih =>
    rw [get_cons] at hi
    split at hi
    · rename_i e; subst e; injection hi with hi; subst hi; exact ⟨_, h, he⟩
    · exact ih hi
section
variable {P : Program} {bx bx0 bx1 : List (Nat × List A)} {ow ow0 ow1 : List (Nat × Own)} {o : Oper} {ρ : Operand → Option A} {r : A}
end
end Go.Proofs.Ytabejnjnkpdjbaa.Sim

/- A logic of states: short names for the steps. (Printed by mk_go.py.) -/
namespace Go.Proofs.Ytabejnjnkpdjbaa.Sim
set_option linter.unusedVariables false
set_option linter.unusedSimpArgs false
open Go.RowKit Mem
structure W1 (b : Prop) : Prop where
  p : b
section
variable {P : Program} {N : Nat} {Q : Exit → St → Prop} {ops : Array Oper} {rest tail : List Oper} {o : Oper} {tm : List (Nat × A)} {bx : List (Nat × List A)} {ow : List (Nat × Own)} {ρ : Operand → Option A}
theorem sp {d : Nat} {r : A} (hp : PureOp P bx ow o (evA tm) r) (h : SOps P N ops Q rest ⟨(d, r) :: tm, bx, ow⟩) (hg : GuardIs ops tm o true := by first | exact .free rfl rfl | exact gy) (hd : o.dst = some d := by exact rfl) (hN : Nat.blt d N = true := by exact rfl) : SOps P N ops Q (o :: rest) ⟨tm, bx, ow⟩ := sops_pure hg hd hN hp h
theorem spn {r : A} (hp : PureOp P bx ow o (evA tm) r) (h : SOps P N ops Q rest ⟨tm, bx, ow⟩) (hg : GuardIs ops tm o true := by first | exact .free rfl rfl | exact gy) (hd : o.dst = none := by exact rfl) : SOps P N ops Q (o :: rest) ⟨tm, bx, ow⟩ := sops_pure_none hg hd hp h
theorem oK {d : Nat} (h : SOps P N ops Q rest ⟨(d, .t (.v undef)) :: tm, bx, ow⟩) (hg : GuardIs ops tm o false := by first | exact gn0 | exact gn1 | exact .nou rfl rfl rfl) (hd : o.dst = some d := by exact rfl) (hN : Nat.blt d N = true := by exact rfl) : SOps P N ops Q (o :: rest) ⟨tm, bx, ow⟩ := sops_skip hg hd hN h
theorem dp {d : Nat} {r : A} (hp : PureOp P bx ow o (evA tm) r) (h : SDraw P N bx ow ops Q tail rest ((d, r) :: tm)) (hg : GuardIs ops tm o true := by first | exact .free rfl rfl | exact gy) (hd : o.dst = some d := by exact rfl) : SDraw P N bx ow ops Q tail (o :: rest) tm := sdraw_pure hg hd hp h
theorem dK {d : Nat} (h : SDraw P N bx ow ops Q tail rest ((d, .t (.v undef)) :: tm)) (hg : GuardIs ops tm o false := by first | exact gn0 | exact gn1 | exact .nou rfl rfl rfl) (hd : o.dst = some d := by exact rfl) : SDraw P N bx ow ops Q tail (o :: rest) tm := sdraw_skip hg hd h
theorem oN {st : St} (h : Q .normal st) : SOps P N ops Q [] st := sops_nil h
theorem dN (h : SOps P N ops Q tail ⟨tm, bx, ow⟩) : SDraw P N bx ow ops Q tail [] tm := sdraw_nil h
theorem ssp {j e : Nat} {want b : Bool} (h1 : b = true → SOps P N ops Q (o :: rest) ⟨tm, bx, ow⟩) (h0 : b = false → SOps P N ops Q (o :: rest) ⟨tm, bx, ow⟩) (hg : o.guard = some (j, want) := by exact rfl) (hj : dstOf ops j = some e := by exact rfl) (hs : get tm e = some (.t (.v (.bool b))) := by exact rfl) : SOps P N ops Q (o :: rest) ⟨tm, bx, ow⟩ := sops_split hg hj hs h1 h0
theorem oC {f : FuncId} {xs : List Operand} {at_ : Array TypeId} {ts : List T} {t : T} {d : Nat} (hc : PCalls P f ts t) (ho : o.op = .call { callee := .value (.func f), args := xs.toArray, argTypes := at_ }) (ha : Args ow (evA tm) xs ts) (h : SOps P N ops Q rest ⟨(d, .t t) :: tm, bx, ow⟩) (hg : GuardIs ops tm o true := by first | exact .free rfl rfl | exact gy) (hd : o.dst = some d := by exact rfl) (hN : Nat.blt d N = true := by exact rfl) : SOps P N ops Q (o :: rest) ⟨tm, bx, ow⟩ := sops_pure hg hd hN (po_call hc ho ha) h
theorem oMv {x : Operand} {r : A} {d : Nat} (h : SOps P N ops Q rest ⟨(d, r) :: tm, bx, ow⟩) (ho : o.op = .move x := by exact rfl) (hx : evA tm x = some r := by exact rfl) (hg : GuardIs ops tm o true := by first | exact .free rfl rfl | exact gy) (hd : o.dst = some d := by exact rfl) (hN : Nat.blt d N = true := by exact rfl) : SOps P N ops Q (o :: rest) ⟨tm, bx, ow⟩ := sops_pure hg hd hN (po_move ho hx) h
theorem dMv {x : Operand} {r : A} {d : Nat} (h : SDraw P N bx ow ops Q tail rest ((d, r) :: tm)) (ho : o.op = .move x := by exact rfl) (hx : evA tm x = some r := by exact rfl) (hg : GuardIs ops tm o true := by first | exact .free rfl rfl | exact gy) (hd : o.dst = some d := by exact rfl) : SDraw P N bx ow ops Q tail (o :: rest) tm := sdraw_pure hg hd (po_move ho hx) h
theorem oAs {x : Operand} {r : A} {d : Nat} (h : SOps P N ops Q rest ⟨(d, r) :: tm, bx, ow⟩) (ho : o.op = .assign x := by exact rfl) (hx : evA tm x = some r := by exact rfl) (hg : GuardIs ops tm o true := by first | exact .free rfl rfl | exact gy) (hd : o.dst = some d := by exact rfl) (hN : Nat.blt d N = true := by exact rfl) : SOps P N ops Q (o :: rest) ⟨tm, bx, ow⟩ := sops_pure hg hd hN (po_assign ho hx) h
theorem dAs {x : Operand} {r : A} {d : Nat} (h : SDraw P N bx ow ops Q tail rest ((d, r) :: tm)) (ho : o.op = .assign x := by exact rfl) (hx : evA tm x = some r := by exact rfl) (hg : GuardIs ops tm o true := by first | exact .free rfl rfl | exact gy) (hd : o.dst = some d := by exact rfl) : SDraw P N bx ow ops Q tail (o :: rest) tm := sdraw_pure hg hd (po_assign ho hx) h
theorem oCm {op : BinOp} {t t2 : TypeId} {x y : Operand} {k : IntKind} {i j : Int} {c : Bool} {d : Nat} (h : SOps P N ops Q rest ⟨(d, .t (.v (.bool c))) :: tm, bx, ow⟩) (ho : o.op = .binOp op t x y t2 := by exact rfl) (hx : evA tm x = some (.t (.v (.int k i))) := by exact rfl) (hy : evA tm y = some (.t (.v (.int k j))) := by exact rfl) (hc : cmpB op i j = some c := by exact rfl) (hg : GuardIs ops tm o true := by first | exact .free rfl rfl | exact gy) (hd : o.dst = some d := by exact rfl) (hN : Nat.blt d N = true := by exact rfl) : SOps P N ops Q (o :: rest) ⟨tm, bx, ow⟩ := sops_pure hg hd hN (po_cmp ho hx hy hc) h
theorem dCm {op : BinOp} {t t2 : TypeId} {x y : Operand} {k : IntKind} {i j : Int} {c : Bool} {d : Nat} (h : SDraw P N bx ow ops Q tail rest ((d, .t (.v (.bool c))) :: tm)) (ho : o.op = .binOp op t x y t2 := by exact rfl) (hx : evA tm x = some (.t (.v (.int k i))) := by exact rfl) (hy : evA tm y = some (.t (.v (.int k j))) := by exact rfl) (hc : cmpB op i j = some c := by exact rfl) (hg : GuardIs ops tm o true := by first | exact .free rfl rfl | exact gy) (hd : o.dst = some d := by exact rfl) : SDraw P N bx ow ops Q tail (o :: rest) tm := sdraw_pure hg hd (po_cmp ho hx hy hc) h
theorem oFb {s : TypeId} {x : Operand} {f k i off : Nat} {d : Nat} (h : SOps P N ops Q rest ⟨(d, .bp i (off + k)) :: tm, bx, ow⟩) (ho : o.op = .fieldAddr s x f := by exact rfl) (hx : evA tm x = some (.bp i off) := by exact rfl) (hk : fieldOff P s f = some k := by exact tyF rfl) (hg : GuardIs ops tm o true := by first | exact .free rfl rfl | exact gy) (hd : o.dst = some d := by exact rfl) (hN : Nat.blt d N = true := by exact rfl) : SOps P N ops Q (o :: rest) ⟨tm, bx, ow⟩ := sops_pure hg hd hN (po_field_bx ho hx hk) h
theorem dFb {s : TypeId} {x : Operand} {f k i off : Nat} {d : Nat} (h : SDraw P N bx ow ops Q tail rest ((d, .bp i (off + k)) :: tm)) (ho : o.op = .fieldAddr s x f := by exact rfl) (hx : evA tm x = some (.bp i off) := by exact rfl) (hk : fieldOff P s f = some k := by exact tyF rfl) (hg : GuardIs ops tm o true := by first | exact .free rfl rfl | exact gy) (hd : o.dst = some d := by exact rfl) : SDraw P N bx ow ops Q tail (o :: rest) tm := sdraw_pure hg hd (po_field_bx ho hx hk) h
theorem oFd {s : TypeId} {x : Operand} {f k : Nat} {cs : List T} {d : Nat} (h : SOps P N ops Q rest ⟨(d, .t (.tp (cs.drop k))) :: tm, bx, ow⟩) (ho : o.op = .fieldAddr s x f := by exact rfl) (hx : evA tm x = some (.t (.tp cs)) := by exact rfl) (hk : fieldOff P s f = some k := by exact tyF rfl) (hg : GuardIs ops tm o true := by first | exact .free rfl rfl | exact gy) (hd : o.dst = some d := by exact rfl) (hN : Nat.blt d N = true := by exact rfl) : SOps P N ops Q (o :: rest) ⟨tm, bx, ow⟩ := sops_pure hg hd hN (po_field ho hx hk) h
theorem dFd {s : TypeId} {x : Operand} {f k : Nat} {cs : List T} {d : Nat} (h : SDraw P N bx ow ops Q tail rest ((d, .t (.tp (cs.drop k))) :: tm)) (ho : o.op = .fieldAddr s x f := by exact rfl) (hx : evA tm x = some (.t (.tp cs)) := by exact rfl) (hk : fieldOff P s f = some k := by exact tyF rfl) (hg : GuardIs ops tm o true := by first | exact .free rfl rfl | exact gy) (hd : o.dst = some d := by exact rfl) : SDraw P N bx ow ops Q tail (o :: rest) tm := sdraw_pure hg hd (po_field ho hx hk) h
theorem oLb {ty : TypeId} {x : Operand} {i off n : Nat} {cs : List A} {r : A} {d : Nat} (h : SOps P N ops Q rest ⟨(d, r) :: tm, bx, ow⟩) (ho : o.op = .load ty x := by exact rfl) (hx : evA tm x = some (.bp i off) := by exact rfl) (hT : tyI P ty = some (false, n) := by exact tyT rfl) (hb : get bx i = some cs := by exact rfl) (ht : cs[off]? = some r := by exact rfl) (hq : cellB i = true := by exact rfl) (hg : GuardIs ops tm o true := by first | exact .free rfl rfl | exact gy) (hd : o.dst = some d := by exact rfl) (hN : Nat.blt d N = true := by exact rfl) : SOps P N ops Q (o :: rest) ⟨tm, bx, ow⟩ := sops_pure hg hd hN (po_load_bx ho hx hT hb ht hq) h
theorem dLb {ty : TypeId} {x : Operand} {i off n : Nat} {cs : List A} {r : A} {d : Nat} (h : SDraw P N bx ow ops Q tail rest ((d, r) :: tm)) (ho : o.op = .load ty x := by exact rfl) (hx : evA tm x = some (.bp i off) := by exact rfl) (hT : tyI P ty = some (false, n) := by exact tyT rfl) (hb : get bx i = some cs := by exact rfl) (ht : cs[off]? = some r := by exact rfl) (hq : cellB i = true := by exact rfl) (hg : GuardIs ops tm o true := by first | exact .free rfl rfl | exact gy) (hd : o.dst = some d := by exact rfl) : SDraw P N bx ow ops Q tail (o :: rest) tm := sdraw_pure hg hd (po_load_bx ho hx hT hb ht hq) h
theorem oLd {ty : TypeId} {x : Operand} {cs : List T} {t : T} {n : Nat} {d : Nat} (h : SOps P N ops Q rest ⟨(d, .t t) :: tm, bx, ow⟩) (ho : o.op = .load ty x := by exact rfl) (hx : evA tm x = some (.t (.tp cs)) := by exact rfl) (hT : tyI P ty = some (false, n) := by exact tyT rfl) (ht : cs[0]? = some t := by exact rfl) (hg : GuardIs ops tm o true := by first | exact .free rfl rfl | exact gy) (hd : o.dst = some d := by exact rfl) (hN : Nat.blt d N = true := by exact rfl) : SOps P N ops Q (o :: rest) ⟨tm, bx, ow⟩ := sops_pure hg hd hN (po_load ho hx hT ht) h
theorem dLd {ty : TypeId} {x : Operand} {cs : List T} {t : T} {n : Nat} {d : Nat} (h : SDraw P N bx ow ops Q tail rest ((d, .t t) :: tm)) (ho : o.op = .load ty x := by exact rfl) (hx : evA tm x = some (.t (.tp cs)) := by exact rfl) (hT : tyI P ty = some (false, n) := by exact tyT rfl) (ht : cs[0]? = some t := by exact rfl) (hg : GuardIs ops tm o true := by first | exact .free rfl rfl | exact gy) (hd : o.dst = some d := by exact rfl) : SDraw P N bx ow ops Q tail (o :: rest) tm := sdraw_pure hg hd (po_load ho hx hT ht) h
theorem oEx {x : Operand} {i : Nat} {cs : List T} {t : T} {d : Nat} (h : SOps P N ops Q rest ⟨(d, .t t) :: tm, bx, ow⟩) (ho : o.op = .extract x i := by exact rfl) (hx : evA tm x = some (.t (.tup cs)) := by exact rfl) (ht : cs[i]? = some t := by exact rfl) (hg : GuardIs ops tm o true := by first | exact .free rfl rfl | exact gy) (hd : o.dst = some d := by exact rfl) (hN : Nat.blt d N = true := by exact rfl) : SOps P N ops Q (o :: rest) ⟨tm, bx, ow⟩ := sops_pure hg hd hN (po_extract ho hx ht) h
theorem oPt {c x y : Operand} {b : Bool} {r : A} {d : Nat} (h : SOps P N ops Q rest ⟨(d, r) :: tm, bx, ow⟩) (ho : o.op = .pick c x y := by exact rfl) (hc : evA tm c = some (.t (.v (.bool b))) := by exact rfl) (hb : b = true := by first | assumption | with_reducible rfl | decide | (simp only [decide_eq_true_eq, decide_eq_false_iff_not]; omega)) (hx : evA tm x = some r := by exact rfl) (hg : GuardIs ops tm o true := by first | exact .free rfl rfl | exact gy) (hd : o.dst = some d := by exact rfl) (hN : Nat.blt d N = true := by exact rfl) : SOps P N ops Q (o :: rest) ⟨tm, bx, ow⟩ := sops_pure hg hd hN (pkt ho hc hb hx) h
theorem dPt {c x y : Operand} {b : Bool} {r : A} {d : Nat} (h : SDraw P N bx ow ops Q tail rest ((d, r) :: tm)) (ho : o.op = .pick c x y := by exact rfl) (hc : evA tm c = some (.t (.v (.bool b))) := by exact rfl) (hb : b = true := by first | assumption | with_reducible rfl | decide | (simp only [decide_eq_true_eq, decide_eq_false_iff_not]; omega)) (hx : evA tm x = some r := by exact rfl) (hg : GuardIs ops tm o true := by first | exact .free rfl rfl | exact gy) (hd : o.dst = some d := by exact rfl) : SDraw P N bx ow ops Q tail (o :: rest) tm := sdraw_pure hg hd (pkt ho hc hb hx) h
theorem oPf {c x y : Operand} {b : Bool} {r : A} {d : Nat} (h : SOps P N ops Q rest ⟨(d, r) :: tm, bx, ow⟩) (ho : o.op = .pick c x y := by exact rfl) (hc : evA tm c = some (.t (.v (.bool b))) := by exact rfl) (hb : b = false := by first | assumption | with_reducible rfl | decide | (simp only [decide_eq_true_eq, decide_eq_false_iff_not]; omega)) (hx : evA tm y = some r := by exact rfl) (hg : GuardIs ops tm o true := by first | exact .free rfl rfl | exact gy) (hd : o.dst = some d := by exact rfl) (hN : Nat.blt d N = true := by exact rfl) : SOps P N ops Q (o :: rest) ⟨tm, bx, ow⟩ := sops_pure hg hd hN (pkf ho hc hb hx) h
theorem dPf {c x y : Operand} {b : Bool} {r : A} {d : Nat} (h : SDraw P N bx ow ops Q tail rest ((d, r) :: tm)) (ho : o.op = .pick c x y := by exact rfl) (hc : evA tm c = some (.t (.v (.bool b))) := by exact rfl) (hb : b = false := by first | assumption | with_reducible rfl | decide | (simp only [decide_eq_true_eq, decide_eq_false_iff_not]; omega)) (hx : evA tm y = some r := by exact rfl) (hg : GuardIs ops tm o true := by first | exact .free rfl rfl | exact gy) (hd : o.dst = some d := by exact rfl) : SDraw P N bx ow ops Q tail (o :: rest) tm := sdraw_pure hg hd (pkf ho hc hb hx) h
theorem xinc {t t2 : TypeId} {x y : Operand} {k : Nat} (ho : o.op = .binOp .add t x y t2) (hx : ρ x = some (.t (.v (.int .i64 (k : Int)))) := by exact rfl) (hy : ρ y = some (.t (.v (.int .i64 1))) := by exact rfl) (h : (k : Int) + 1 ≤ 9223372036854775807 := by omega) : PureOp P bx ow o ρ (.t (.v (.int .i64 ((k + 1 : Nat) : Int)))) := po_inc ho hx hy h
theorem sal {ty : TypeId} {d : Nat} {pl : List (Nat × Nat)} {zs : List Value} (hS : strI P ty = some (pl, zs)) (h : SOps P N ops Q rest ⟨(d, .bp d 0) :: tm, (d, zs.map fun v => A.t (T.v v)) :: bx, ow⟩) (ho : o.op = .alloc ty := by exact rfl) (hg : GuardIs ops tm o true := by first | exact .free rfl rfl | exact gy) (hd : o.dst = some d := by exact rfl) (hN : Nat.blt d N = true := by exact rfl) (hi : get bx d = none := by exact rfl) (hp : Nat.ble 2000 d = false := by exact rfl) (hq : cellB d = true := by exact rfl) : SOps P N ops Q (o :: rest) ⟨tm, bx, ow⟩ := sops_allocS hS hg ho hd hN hi h hp hq
theorem sbx {ty : TypeId} {x : Operand} {y : A} {d : Nat} (h : SOps P N ops Q rest ⟨(d, .bp d 0) :: tm, (d, y.cells) :: bx, ow⟩) (ho : o.op = .box ty x := by exact rfl) (hg : GuardIs ops tm o true := by first | exact .free rfl rfl | exact gy) (hd : o.dst = some d := by exact rfl) (hN : Nat.blt d N = true := by exact rfl) (hx : evA tm x = some y := by exact rfl) (hk : y.okB = true := by exact rfl) (hi : get bx d = none := by exact rfl) (hp : Nat.ble 2000 d = false := by exact rfl) (hq : cellB d = true := by exact rfl) : SOps P N ops Q (o :: rest) ⟨tm, bx, ow⟩ := sops_box hg ho hd hN hx hk hi h hp hq
theorem oS {ty : TypeId} {x z : Operand} {y : A} {i off n : Nat} {ag : Bool} {cs : List A} (h : SOps P N ops Q rest ⟨tm, (i, spl cs off y.cells) :: bx, ow⟩) (ho : o.op = .store ty x z := by exact rfl) (hg : GuardIs ops tm o true := by first | exact .free rfl rfl | exact gy) (hd : o.dst = none := by exact rfl) (hx : evA tm x = some (.bp i off) := by exact rfl) (hz : evA tm z = some y := by exact rfl) (hk : y.okB = true := by exact rfl) (hb : get bx i = some cs := by exact rfl) (hT : tyI P ty = some (ag, n) := by exact tyT rfl) (hn : y.cells.length = n := by exact rfl) (hf : Nat.ble (off + n) cs.length = true := by exact rfl) (hq : cellB i = true := by exact rfl) : SOps P N ops Q (o :: rest) ⟨tm, bx, ow⟩ := sops_store hg ho hd hx hz hk hb hT hn hf h hq
theorem rg (id : Nat) {l : List Oper} {st : St} (h : SOps P N l.toArray Q l st) : SWp P N (.region id l.toArray false) Q st := swp_region h
theorem rd (id : Nat) {l : List Oper} (h : SDraw P N bx ow l.toArray Q [] l tm) (hm : P.follows .mixedOrders = true := by exact mixed) (hB : regionB3 l.toArray l.length N = true := by kernel_rfl) (hD : depsB l.toArray l.length = true := by kernel_rfl) : SWp P N (.region id l.toArray true) Q ⟨tm, bx, ow⟩ := swp_draw_all hm hB hD h
theorem rt {s : Nat} {y : A} {t : T} {st : St} {l : List ResultVar} {ts : List T} (hl : Res P st l ts) (h : get st.tm s = some y := by exact rfl) (hv : Vw st.ow y t := by first | exact .t _ | exact .own rfl (by first | rfl | assumption | (simp; done) | (simp; omega)) | exact .nil _ | exact .emp _ | exact .fn _) : Res P st (.tmp s :: l) (t :: ts) := .tmp h hv hl
theorem rq1 {fn : Func} {r : T} {e : Exit} {st : St} {l : List ResultVar} (hl : fn.results.toList = l) (h : Res P st l [r]) (he : e = .normal ∨ e = .ret := by first | exact .inr rfl | exact .inl rfl) : RetQ P fn r e st := retq he hl h rfl
theorem rq {fn : Func} {r : T} {e : Exit} {st : St} {l : List ResultVar} {ts : List T} (hl : fn.results.toList = l) (h : Res P st l ts) (hr : r = resT ts) (he : e = .normal ∨ e = .ret := by first | exact .inr rfl | exact .inl rfl) : RetQ P fn r e st := retq he hl h hr
theorem yp {W X : List (List Nat)} {k d : Nat} {r : A} (hp : ∀ bxr owr, PureOp P (rst (X.getD k []) bx ++ bxr) (rst (X.getD k []) ow ++ owr) o (evA tm) r) (h : SAny P N ops W X Q (k + 1) rest ⟨(d, r) :: tm, bx, ow⟩) (hg : GuardIs ops tm o true := by first | exact .free rfl rfl | exact gy) (hd : o.dst = some d := by exact rfl) (hW : W.getD k [] = [] := by exact rfl) : SAny P N ops W X Q k (o :: rest) ⟨tm, bx, ow⟩ := sany_pure hg hd hW hp h
theorem fdo {s : TypeId} {x : Operand} {f q i nn sz k off : Nat} {o' : Own} (ho : o.op = .fieldAddr s x f) (hx : ρ x = some (.oe i nn sz k off) := by exact rfl) (hi : get ow i = some o' := by exact rfl) (hnn : nn = o'.rows.length := by first | rfl | assumption | omega | (simp; done) | (simp; omega) | (simp at *; omega)) (hq : fieldOff P s f = some q := by exact tyF rfl) : PureOp P bx ow o ρ (.oe i nn sz k (off + q)) := po_field_own ho hx hi hnn hq
theorem ldo {ty e : TypeId} {x : Operand} {i nn sz k off n : Nat} {rows : List (List T)} {row : List T} {t : T} (ho : o.op = .load ty x) (hx : ρ x = some (.oe i nn sz k off) := by exact rfl) (hi : get ow i = some ⟨e, sz, rows⟩ := by exact rfl) (hnn : nn = rows.length := by first | rfl | assumption | omega | (simp; done) | (simp; omega) | (simp at *; omega)) (hT : tyI P ty = some (false, n) := by exact tyT rfl) (hk : rows[k]? = some row := by first | rfl | assumption | exact map_at (by first | assumption | omega)) (ht : row[off]? = some t := by exact rfl) : PureOp P bx ow o ρ (.t t) := po_load_own ho hx hi hnn hT hk ht
theorem lda {ty e : TypeId} {x : Operand} {i nn sz k off n : Nat} {rows : List (List T)} {row ts : List T} (ho : o.op = .load ty x) (hx : ρ x = some (.oe i nn sz k off) := by exact rfl) (hi : get ow i = some ⟨e, sz, rows⟩ := by exact rfl) (hnn : nn = rows.length := by first | rfl | assumption | omega | (simp; done) | (simp; omega) | (simp at *; omega)) (hT : tyI P ty = some (true, n) := by exact tyT rfl) (hk : rows[k]? = some row := by first | rfl | assumption | exact map_at (by first | assumption | omega)) (hn : ts.length = n := by exact rfl) (ht : (row.drop off).take n = ts := by exact rfl) : PureOp P bx ow o ρ (.t (.agg ts)) := po_load_own_agg ho hx hi hnn hT hk hn ht
theorem ixo {t e : TypeId} {x ix : Operand} {i nn sz k : Nat} {rows : List (List T)} {n : Int} {ik : IntKind} (ho : o.op = .indexAddr t x ix) (hx : ρ x = some (.own i nn) := by exact rfl) (hi : get ow i = some ⟨e, sz, rows⟩ := by exact rfl) (hnn : nn = rows.length := by first | rfl | assumption | omega | (simp; done) | (simp; omega) | (simp at *; omega)) (hix : ρ ix = some (.t (.v (.int ik n))) := by exact rfl) (hT : sliceSz P t = some sz := by exact tyS rfl) (hn : n = (k : Int) := by first | rfl | omega) (hk : k < nn := by first | assumption | omega) : PureOp P bx ow o ρ (.oe i nn sz k 0) := po_index_own ho hx hi hnn hix hT hn hk
theorem sso {ty e : TypeId} {x z : Operand} {y : A} {i nn sz k off n : Nat} {ag : Bool} {rows : List (List T)} {row ts : List T} {t : T} (h : SOps P N ops Q rest ⟨tm, bx, (i, ⟨e, sz, rows.set k (row.take off ++ (ts ++ row.drop (off + n)))⟩) :: ow⟩) (ho : o.op = .store ty x z := by exact rfl) (hg : GuardIs ops tm o true := by first | exact .free rfl rfl | exact gy) (hd : o.dst = none := by exact rfl) (hx : evA tm x = some (.oe i nn sz k off) := by exact rfl) (hh : hid i = true := by rfl) (hi : get ow i = some ⟨e, sz, rows⟩ := by exact rfl) (hnn : nn = rows.length := by first | rfl | assumption | omega | (simp; done) | (simp; omega) | (simp at *; omega))
    (hz : evA tm z = some y := by exact rfl) (hv : Vw ow y t := by first | exact .t _ | exact .own rfl (by first | rfl | assumption | (simp; done) | (simp; omega)) | exact .nil _ | exact .emp _ | exact .fn _) (hk : t.okB = true := by exact rfl) (hts : t.cells = ts := by exact rfl) (hT : tyI P ty = some (ag, n) := by exact tyT rfl) (hn : ts.length = n := by exact rfl) (hrow : rows[k]? = some row := by first | rfl | assumption | exact map_at (by first | assumption | omega)) (hf : Nat.ble (off + n) row.length = true := by exact rfl) : SOps P N ops Q (o :: rest) ⟨tm, bx, ow⟩ := sops_store_own hh hg ho hd hx hi hnn hz hv hk hts hT hn hrow hf h
theorem yso {ty e : TypeId} {x z : Operand} {y : A} {i nn sz k off n : Nat} {ag : Bool} {rows : List (List T)} {row ts : List T} {t : T} (ho : o.op = .store ty x z) (hd : o.dst = none := by exact rfl) (hx : ρ x = some (.oe i nn sz k off) := by exact rfl) (hh : hid i = true := by rfl) (hi : get ow i = some ⟨e, sz, rows⟩ := by exact rfl) (hnn : nn = rows.length := by first | rfl | assumption | omega | (simp; done) | (simp; omega) | (simp at *; omega))
    (hz : ρ z = some y := by exact rfl) (hv : Vw ow y t := by first | exact .t _ | exact .own rfl (by first | rfl | assumption | (simp; done) | (simp; omega)) | exact .nil _ | exact .emp _ | exact .fn _) (hk : t.okB = true := by exact rfl) (hts : t.cells = ts := by exact rfl) (hT : tyI P ty = some (ag, n) := by exact tyT rfl) (hn : ts.length = n := by exact rfl) (hrow : rows[k]? = some row := by first | rfl | assumption | exact map_at (by first | assumption | omega)) (hf : Nat.ble (off + n) row.length = true := by exact rfl) : EStep P bx ow o ρ .any bx ((i, ⟨e, sz, rows.set k (row.take off ++ (ts ++ row.drop (off + n)))⟩) :: ow) := e_store_own hh ho hd hx hi hnn hz hv hk hts hT hn hrow hf
theorem xadd {t t2 : TypeId} {x y : Operand} {k : IntKind} {i j c : Int} (ho : o.op = .binOp .add t x y t2) (hx : ρ x = some (.t (.v (.int k i))) := by exact rfl) (hy : ρ y = some (.t (.v (.int k j))) := by exact rfl) (h : i + j = c := by exact rfl) (hz : k.wrap c = c := by first | rfl | (refine wrap_i64 ?_; omega)) : PureOp P bx ow o ρ (.t (.v (.int k c))) := po_arith ho hx hy (ar_add hz h)
theorem gc {X B : Prop} (k : B) (h : W1 B → X := by (intro k_; (first | (show SWp _ _ _ _ _; first | refine swp_seq ?_ | refine swp_ret ?_ | refine swp_skip ?_ | refine swp_block ?_ | refine swp_exit ?_) | (show Then _ _ _ _ _ _; first | refine then_go ?_ | refine then_ret ?_ | refine then_exit ?_) | (show InBlock _ _ _ _; first | refine block_go ?_ | refine block_exit ?_ | refine block_far rfl ?_ | refine block_ret ?_) | (show ForQ _ _ _ _ _ _ _ _; first | refine for_ret ?_ | refine for_exit ?_)); (repeat (first | (show SWp _ _ _ _ _; first | refine swp_seq ?_ | refine swp_ret ?_ | refine swp_skip ?_ | refine swp_block ?_ | refine swp_exit ?_) | (show Then _ _ _ _ _ _; first | refine then_go ?_ | refine then_ret ?_ | refine then_exit ?_) | (show InBlock _ _ _ _; first | refine block_go ?_ | refine block_exit ?_ | refine block_far rfl ?_ | refine block_ret ?_) | (show ForQ _ _ _ _ _ _ _ _; first | refine for_ret ?_ | refine for_exit ?_))); exact k_.p)) : X := h ⟨k⟩
end
end Go.Proofs.Ytabejnjnkpdjbaa.Sim

/- A logic of states: a literal that holds what the call owns. -/
namespace Go.Proofs.Ytabejnjnkpdjbaa.Sim
set_option linter.unusedVariables false
set_option linter.unusedSimpArgs false
open Go.RowKit Mem
def fillA (pl : Nat → Option (Nat × Nat)) : List A → List (Nat × A) → Option (List A)
  | zs, [] => some zs
  | zs, (i, t) :: r => match pl i with
    | some (off, sz) => bif t.okB && Nat.beq t.cells.length sz && Nat.ble (off + sz) zs.length then fillA pl (zs.take off ++ (t.cells ++ zs.drop (off + sz))) r else none
    | none => none
theorem fillA_ok {m : Mm} {g : Gh} {pl : Nat → Option (Nat × Nat)} : ∀ {parts : List (Nat × A)} {zs rs : List A} {cells : Array Value} {vals : List (Nat × Value)}, fillA pl zs parts = some rs → ACells m g zs cells.toList → parts.length = vals.length →
    (∀ (i : Nat) p q, parts[i]? = some p → vals[i]? = some q → q.1 = p.1 ∧ AR m g p.2 q.2) → ∃ cells', Instr.fill pl cells vals = some cells' ∧ ACells m g rs cells'.toList
  | [], zs, rs, cells, vals, h, hc, hl, _ => by
    have : vals = [] := List.eq_nil_of_length_eq_zero hl.symm
    subst this
    injection h with h; subst h
    exact ⟨cells, rfl, hc⟩
  | (i, t) :: r, zs, rs, cells, vals, h, hc, hl, hp => by
    obtain ⟨⟨i', v⟩, vals, rfl⟩ : ∃ q vs, vals = q :: vs := by cases vals with | nil => simp at hl | cons q vs => exact ⟨q, vs, rfl⟩
    obtain ⟨hi, hv⟩ := hp 0 _ _ rfl rfl
    dsimp only at hi hv
    subst hi
    unfold fillA at h
    cases hpl : pl i' with
    | none => rw [hpl] at h; cases h
    | some x =>
      obtain ⟨off, sz⟩ := x
      rw [hpl] at h
      dsimp only at h
      cases hb : (t.okB && Nat.beq t.cells.length sz && Nat.ble (off + sz) zs.length) with
      | false => rw [hb] at h; cases h
      | true =>
        rw [hb] at h
        simp only [Bool.and_eq_true] at hb
        obtain ⟨⟨hb1, hb2⟩, hb3⟩ := hb
        have hcv := acells_ok hv hb1
        have e1 : t.cells.length = sz := Nat.eq_of_beq_eq_true hb2
        have e2 : off + sz ≤ zs.length := Nat.le_of_ble_eq_true hb3
        have e3 : v.cells.size = sz := by have := hcv.1; simp at this; omega
        have e4 : off + sz ≤ cells.size := by have := hc.1; simp at this; omega
        have hset := fill_set off sz cells v.cells.toList (by simpa using e3) e4
        have hz : v.cells.zipIdx.foldl (fun cs (x : Value × Nat) => cs.setIfInBounds (off + x.2) x.1) cells = (v.cells.toList.zipIdx).foldl (fun cs (x : Value × Nat) => cs.setIfInBounds (off + x.2) x.1) cells := by
          rw [← Array.foldl_toList, Array.toList_zipIdx]
        have hnew : ACells m g (zs.take off ++ (t.cells ++ zs.drop (off + sz))) (v.cells.zipIdx.foldl (fun cs (x : Value × Nat) => cs.setIfInBounds (off + x.2) x.1) cells).toList := by
          rw [hz, hset]
          exact (hc.take off).app (hcv.app (hc.drop (off + sz)))
        obtain ⟨cells', h5, h6⟩ := fillA_ok (parts := r) h hnew (by simpa using hl) (fun j p q h1 h2 => hp (j + 1) p q (by simpa using h1) (by simpa using h2))
        refine ⟨cells', ?_, h6⟩
        unfold Instr.fill
        rw [hpl]
        dsimp only
        rw [if_neg (by simp; omega)]
        exact h5
theorem zero_acells (m : Mm) (g : Gh) {z : Value} (h : ∀ v ∈ z.cells.toList, v.oneCell' = true) : ACells m g (z.cells.toList.map fun v => A.t (.v v)) z.cells.toList := by
  refine ⟨by simp, fun j t v h1 h2 => ?_⟩
  rw [List.getElem?_map, h2] at h1
  simp at h1; subst h1
  exact ⟨TR.v _, h v (List.mem_of_getElem? h2)⟩
theorem ar_leaf {m : Mm} {g : Gh} {y : A} {u : Value} (h : AR m g y u) (hl : y.isLf = true) : AR0 m g y u := by
  cases y <;> first | exact h | cases hl
section
variable {P : Program} {bx : List (Nat × List A)} {ow : List (Nat × Own)} {o : Oper} {ρ : Operand → Option A} {r : A}
end
end Go.Proofs.Ytabejnjnkpdjbaa.Sim
