/- The program's types: cells, fields, elements. (Printed by mk_tab.py.) -/
import Derived.Test.YtmjckopplkihlaaSimI

namespace Go.Proofs.Ytmjckopplkihlaa.Sim
open Go.RowKit Mem
set_option linter.unusedVariables false
set_option maxRecDepth 100000
def tabT : List (Nat × Bool × Nat) := [(1, false, 1), (2, false, 1), (3, false, 1), (4, false, 1), (5, false, 1), (6, false, 1), (7, true, 4), (8, true, 4), (9, false, 1), (10, false, 1), (11, false, 1), (12, false, 1), (13, true, 2), (14, true, 2), (15, false, 1), (16, false, 1), (17, false, 1), (18, true, 1), (19, true, 1), (21, false, 1), (22, false, 1), (23, false, 1), (24, true, 3), (25, true, 3), (26, false, 1), (27, false, 1), (28, false, 1), (29, false, 1), (30, false, 1), (32, false, 1), (33, false, 1), (34, false, 1), (36, false, 1), (37, false, 1), (39, false, 1), (40, false, 1), (41, false, 1), (42, false, 1), (43, false, 1), (44, false, 1), (45, false, 1), (46, false, 1), (47, false, 1), (48, false, 1), (49, false, 1), (50, false, 1), (51, false, 1), (52, false, 1), (53, false, 1), (54, false, 1), (55, false, 1), (56, false, 1), (57, false, 1), (58, false, 1), (59, false, 1), (60, false, 1), (61, false, 1), (62, false, 1), (63, false, 1), (64, false, 1), (65, false, 1), (66, true, 4), (67, true, 4), (68, true, 0), (69, true, 0), (70, true, 0), (71, false, 1), (72, false, 1), (73, false, 1), (74, false, 1), (75, false, 1), (76, false, 1), (77, false, 1), (78, false, 1), (79, true, 11), (80, true, 11), (81, false, 1)]
def tabS : List (Nat × Nat) := [(22, 3), (43, 1)]
def tabR : List Nat := [9, 10, 11]
def tabK : List (Nat × IntKind) := [(2, .i64), (3, .i64), (5, .u8), (6, .u8), (12, .u64), (21, .i32), (23, .u64), (30, .i64), (72, .u32), (73, .u8), (74, .u8), (77, .i32), (78, .i32)]
def tabF : List (Nat × Nat × Nat) := [(7, 0, 0), (7, 1, 1), (7, 2, 2), (7, 3, 3), (8, 0, 0), (8, 1, 1), (8, 2, 2), (8, 3, 3), (13, 0, 0), (13, 1, 1), (14, 0, 0), (14, 1, 1), (18, 0, 0), (19, 0, 0), (24, 0, 0), (24, 1, 1), (24, 2, 2), (25, 0, 0), (25, 1, 1), (25, 2, 2), (66, 0, 0), (66, 1, 1), (66, 2, 2), (66, 3, 3), (67, 0, 0), (67, 1, 1), (67, 2, 2), (67, 3, 3), (79, 0, 0), (79, 1, 1), (79, 2, 2), (79, 3, 3), (79, 4, 4), (79, 5, 5), (79, 6, 6), (79, 7, 7), (79, 8, 8), (79, 9, 9), (79, 10, 10), (80, 0, 0), (80, 1, 1), (80, 2, 2), (80, 3, 3), (80, 4, 4), (80, 5, 5), (80, 6, 6), (80, 7, 7), (80, 8, 8), (80, 9, 9), (80, 10, 10)]
def tabE : List (Nat × Nat × Nat × Nat) := [(22, 25, 3, 24), (43, 3, 1, 8)]
def allB {α : Type} (p : α → Bool) : List α → Bool
  | [] => true
  | x :: r => p x && allB p r
theorem allB_mem {α : Type} {p : α → Bool} : ∀ {l : List α}, allB p l = true → ∀ x ∈ l, p x = true
  | [], _, x, h => by cases h
  | y :: r, h, x, hx => by
    simp only [allB, Bool.and_eq_true] at h
    rcases List.mem_cons.1 hx with rfl | hx
    · exact h.1
    · exact allB_mem h.2 x hx
def lk {β : Type} : List (Nat × β) → Nat → Option β
  | [], _ => none
  | (a, b) :: r, n => bif Nat.beq a n then some b else lk r n
theorem lk_mem {β : Type} : ∀ {l : List (Nat × β)} {n : Nat} {b : β}, lk l n = some b → (n, b) ∈ l
  | [], n, b, h => by cases h
  | (a, b') :: r, n, b, h => by
    unfold lk at h
    cases hb : Nat.beq a n with
    | true => rw [hb] at h; injection h with h; subst h; rw [Nat.eq_of_beq_eq_true hb]; exact List.mem_cons_self
    | false => rw [hb] at h; exact List.mem_cons_of_mem _ (lk_mem h)
def lk2 {β : Type} : List (Nat × Nat × β) → Nat → Nat → Option β
  | [], _, _ => none
  | (a, c, b) :: r, n, k => bif Nat.beq a n then (bif Nat.beq c k then some b else lk2 r n k) else lk2 r n k
theorem lk2_mem {β : Type} : ∀ {l : List (Nat × Nat × β)} {n k : Nat} {b : β}, lk2 l n k = some b → (n, k, b) ∈ l
  | [], n, k, b, h => by cases h
  | (a, c, b') :: r, n, k, b, h => by
    unfold lk2 at h
    cases hb : Nat.beq a n with
    | true =>
      rw [hb] at h
      cases hc : Nat.beq c k with
      | true => rw [hc] at h; injection h with h; subst h; rw [Nat.eq_of_beq_eq_true hb, Nat.eq_of_beq_eq_true hc]; exact List.mem_cons_self
      | false => rw [hc] at h; exact List.mem_cons_of_mem _ (lk2_mem h)
    | false => rw [hb] at h; exact List.mem_cons_of_mem _ (lk2_mem h)
def memB : List Nat → Nat → Bool
  | [], _ => false
  | a :: r, n => Nat.beq a n || memB r n
theorem memB_mem : ∀ {l : List Nat} {n : Nat}, memB l n = true → n ∈ l
  | [], n, h => by cases h
  | a :: r, n, h => by
    simp only [memB, Bool.or_eq_true] at h
    rcases h with h | h
    · rw [Nat.eq_of_beq_eq_true h]; exact List.mem_cons_self
    · exact List.mem_cons_of_mem _ (memB_mem h)
theorem okT : allB (fun x => decide (tyI Try.prog x.1 = some x.2)) tabT = true := by kernel_rfl
theorem okS : allB (fun x => decide (sliceSz Try.prog x.1 = some x.2)) tabS = true := by kernel_rfl
theorem okR : allB (fun x => isStr Try.prog x) tabR = true := by kernel_rfl
theorem okK : allB (fun x => decide (intK Try.prog x.1 = some x.2)) tabK = true := by kernel_rfl
theorem okF : allB (fun x => decide (fieldOff Try.prog x.1 x.2.1 = some x.2.2)) tabF = true := by kernel_rfl
theorem okE : allB (fun x => decide (sliceE Try.prog x.1 = some x.2)) tabE = true := by kernel_rfl
theorem tyE {t : Nat} {x : Nat × Nat × Nat} (h : lk tabE t = some x) : sliceE Try.prog t = some x := of_decide_eq_true (allB_mem okE _ (lk_mem h))
theorem str7 : strI Try.prog 7 = some ([(0, 1), (1, 1), (2, 1), (3, 1)], [.int .i64 0, .int .i64 0, .bool false, .int .u8 0]) := by kernel_rfl
theorem str8 : strI Try.prog 8 = some ([(0, 1), (1, 1), (2, 1), (3, 1)], [.int .i64 0, .int .i64 0, .bool false, .int .u8 0]) := by kernel_rfl
theorem str13 : strI Try.prog 13 = some ([(0, 1), (1, 1)], [.string ⟨#[]⟩, .int .u64 0]) := by kernel_rfl
theorem str14 : strI Try.prog 14 = some ([(0, 1), (1, 1)], [.string ⟨#[]⟩, .int .u64 0]) := by kernel_rfl
theorem str18 : strI Try.prog 18 = some ([(0, 1)], [.pointer none]) := by kernel_rfl
theorem str19 : strI Try.prog 19 = some ([(0, 1)], [.pointer none]) := by kernel_rfl
theorem str24 : strI Try.prog 24 = some ([(0, 1), (1, 1), (2, 1)], [.int .u64 0, .int .i64 0, .int .u64 0]) := by kernel_rfl
theorem str25 : strI Try.prog 25 = some ([(0, 1), (1, 1), (2, 1)], [.int .u64 0, .int .i64 0, .int .u64 0]) := by kernel_rfl
theorem str66 : strI Try.prog 66 = some ([(0, 1), (1, 1), (2, 1), (3, 1)], [.pointer none, .pointer none, .pointer none, .string ⟨#[]⟩]) := by kernel_rfl
theorem str67 : strI Try.prog 67 = some ([(0, 1), (1, 1), (2, 1), (3, 1)], [.pointer none, .pointer none, .pointer none, .string ⟨#[]⟩]) := by kernel_rfl
theorem str69 : strI Try.prog 69 = some ([(0, 0)], []) := by kernel_rfl
theorem str70 : strI Try.prog 70 = some ([(0, 0)], []) := by kernel_rfl
theorem str79 : strI Try.prog 79 = some ([(0, 1), (1, 1), (2, 1), (3, 1), (4, 1), (5, 1), (6, 1), (7, 1), (8, 1), (9, 1), (10, 1)], [.int .u64 0, .int .u64 0, .int .u32 0, .int .u8 0, .int .u8 0, .int .u8 0, .int .u8 0, .nilFunc, .pointer none, .int .i32 0, .int .i32 0]) := by kernel_rfl
theorem str80 : strI Try.prog 80 = some ([(0, 1), (1, 1), (2, 1), (3, 1), (4, 1), (5, 1), (6, 1), (7, 1), (8, 1), (9, 1), (10, 1)], [.int .u64 0, .int .u64 0, .int .u32 0, .int .u8 0, .int .u8 0, .int .u8 0, .int .u8 0, .nilFunc, .pointer none, .int .i32 0, .int .i32 0]) := by kernel_rfl
theorem tyT {t : Nat} {x : Bool × Nat} (h : lk tabT t = some x) : tyI Try.prog t = some x := of_decide_eq_true (allB_mem okT _ (lk_mem h))
theorem tyS {t n : Nat} (h : lk tabS t = some n) : sliceSz Try.prog t = some n := of_decide_eq_true (allB_mem okS _ (lk_mem h))
theorem tyR {t : Nat} (h : memB tabR t = true) : isStr Try.prog t = true := allB_mem okR _ (memB_mem h)
theorem tyK {t : Nat} {k : IntKind} (h : lk tabK t = some k) : intK Try.prog t = some k := of_decide_eq_true (allB_mem okK _ (lk_mem h))
theorem tyF {t f k : Nat} (h : lk2 tabF t f = some k) : fieldOff Try.prog t f = some k := of_decide_eq_true (allB_mem okF _ (lk2_mem h))
theorem mixed : Try.prog.follows .mixedOrders = true := by kernel_rfl
end Go.Proofs.Ytmjckopplkihlaa.Sim
