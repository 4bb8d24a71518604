/- The program's types: cells, fields, elements. (Printed by mk_tab.py.) -/
import Derived.Test.YtcpbdcamfhoiaaaDoorSimI

namespace Go.Proofs.YtcpbdcamfhoiaaaDoor.Sim
open Go.RowKit Mem
set_option linter.unusedVariables false
set_option maxRecDepth 100000
def tabT : List (Nat × Bool × Nat) := [(1, false, 1), (2, false, 1), (3, false, 1), (4, false, 1), (5, false, 1), (6, false, 1), (7, true, 4), (8, true, 4), (9, false, 1), (10, false, 1), (11, false, 1), (12, false, 1), (13, true, 2), (14, true, 2), (15, false, 1), (16, false, 1), (17, false, 1), (18, true, 1), (19, true, 1), (21, false, 1), (22, false, 1), (23, false, 1), (25, false, 1), (26, false, 1), (27, false, 1), (28, false, 1), (30, false, 1), (31, false, 1), (32, false, 1), (34, false, 1), (36, false, 1), (37, false, 1), (38, false, 1), (39, false, 1), (41, false, 1), (42, false, 1), (43, false, 1), (44, false, 1), (45, false, 1), (46, true, 3), (47, true, 3), (49, false, 1), (50, false, 1), (51, false, 1), (52, true, 2), (53, true, 2), (54, false, 1), (55, false, 1), (56, false, 1), (58, false, 1), (59, false, 1), (60, false, 1), (61, false, 1), (62, false, 1), (63, false, 1), (64, false, 1), (66, false, 1), (67, false, 1), (69, false, 1), (70, false, 1), (71, false, 1), (72, false, 1), (73, false, 1), (74, false, 1), (75, false, 1), (77, false, 1), (78, false, 1), (79, false, 1), (81, false, 1), (82, false, 1), (83, true, 256), (84, false, 1), (85, false, 1), (86, false, 1), (87, false, 1), (88, false, 1), (89, false, 1), (90, false, 1), (91, false, 1), (92, false, 1), (93, false, 1), (94, false, 1), (95, true, 256), (96, true, 256), (98, false, 1), (99, false, 1), (100, false, 1), (101, false, 1), (102, false, 1), (103, false, 1), (104, false, 1), (105, true, 2), (106, true, 2), (107, false, 1), (111, false, 1), (112, false, 1), (114, false, 1), (115, false, 1), (116, false, 1), (117, false, 1), (118, false, 1), (119, false, 1), (120, false, 1), (122, false, 1), (123, false, 1), (124, false, 1), (125, false, 1), (126, true, 256), (127, true, 2), (128, true, 2), (129, true, 32), (130, false, 1), (131, true, 4), (132, true, 4), (133, true, 0), (134, true, 0), (135, true, 0), (136, false, 1), (137, false, 1), (138, false, 1), (139, false, 1), (140, false, 1), (141, false, 1), (142, true, 11), (143, true, 11)]
def tabS : List (Nat × Nat) := [(32, 1), (44, 2), (59, 1)]
def tabR : List Nat := [9, 10, 11]
def tabK : List (Nat × IntKind) := [(2, .i64), (3, .i64), (5, .u8), (6, .u8), (12, .u64), (21, .i32), (23, .i64), (26, .u64), (120, .u32), (137, .u8), (138, .u8), (140, .i32), (141, .i32)]
def tabF : List (Nat × Nat × Nat) := [(7, 0, 0), (7, 1, 1), (7, 2, 2), (7, 3, 3), (8, 0, 0), (8, 1, 1), (8, 2, 2), (8, 3, 3), (13, 0, 0), (13, 1, 1), (14, 0, 0), (14, 1, 1), (18, 0, 0), (19, 0, 0), (46, 0, 0), (46, 1, 1), (46, 2, 2), (47, 0, 0), (47, 1, 1), (47, 2, 2), (52, 0, 0), (52, 1, 1), (53, 0, 0), (53, 1, 1), (105, 0, 0), (105, 1, 1), (106, 0, 0), (106, 1, 1), (127, 0, 0), (127, 1, 1), (128, 0, 0), (128, 1, 1), (131, 0, 0), (131, 1, 1), (131, 2, 2), (131, 3, 3), (132, 0, 0), (132, 1, 1), (132, 2, 2), (132, 3, 3), (142, 0, 0), (142, 1, 1), (142, 2, 2), (142, 3, 3), (142, 4, 4), (142, 5, 5), (142, 6, 6), (142, 7, 7), (142, 8, 8), (142, 9, 9), (142, 10, 10), (143, 0, 0), (143, 1, 1), (143, 2, 2), (143, 3, 3), (143, 4, 4), (143, 5, 5), (143, 6, 6), (143, 7, 7), (143, 8, 8), (143, 9, 9), (143, 10, 10)]
def tabE : List (Nat × Nat × Nat × Nat) := [(32, 9, 1, 16), (44, 53, 2, 32), (59, 5, 1, 1)]
def allB {α : Type} (p : α → Bool) : List α → Bool
  | [] => true
  | x :: r => p x && allB p r
theorem allB_mem {α : Type} {p : α → Bool} : ∀ {l : List α}, allB p l = true → ∀ x ∈ l, p x = true
  | [], _, x, h => by cases h
  | y :: r, h, x, hx => by
    simp only [allB, Bool.and_eq_true] at h
    rcases List.mem_cons.1 hx with rfl | hx
    · exact h.1
    · exact allB_mem h.2 x hx
def lk {β : Type} : List (Nat × β) → Nat → Option β
  | [], _ => none
  | (a, b) :: r, n => bif Nat.beq a n then some b else lk r n
theorem lk_mem {β : Type} : ∀ {l : List (Nat × β)} {n : Nat} {b : β}, lk l n = some b → (n, b) ∈ l
  | [], n, b, h => by cases h
  | (a, b') :: r, n, b, h => by
    unfold lk at h
    cases hb : Nat.beq a n with
    | true => rw [hb] at h; injection h with h; subst h; rw [Nat.eq_of_beq_eq_true hb]; exact List.mem_cons_self
    | false => rw [hb] at h; exact List.mem_cons_of_mem _ (lk_mem h)
def lk2 {β : Type} : List (Nat × Nat × β) → Nat → Nat → Option β
  | [], _, _ => none
  | (a, c, b) :: r, n, k => bif Nat.beq a n then (bif Nat.beq c k then some b else lk2 r n k) else lk2 r n k
theorem lk2_mem {β : Type} : ∀ {l : List (Nat × Nat × β)} {n k : Nat} {b : β}, lk2 l n k = some b → (n, k, b) ∈ l
  | [], n, k, b, h => by cases h
  | (a, c, b') :: r, n, k, b, h => by
    unfold lk2 at h
    cases hb : Nat.beq a n with
    | true =>
      rw [hb] at h
      cases hc : Nat.beq c k with
      | true => rw [hc] at h; injection h with h; subst h; rw [Nat.eq_of_beq_eq_true hb, Nat.eq_of_beq_eq_true hc]; exact List.mem_cons_self
      | false => rw [hc] at h; exact List.mem_cons_of_mem _ (lk2_mem h)
    | false => rw [hb] at h; exact List.mem_cons_of_mem _ (lk2_mem h)
def memB : List Nat → Nat → Bool
  | [], _ => false
  | a :: r, n => Nat.beq a n || memB r n
theorem memB_mem : ∀ {l : List Nat} {n : Nat}, memB l n = true → n ∈ l
  | [], n, h => by cases h
  | a :: r, n, h => by
    simp only [memB, Bool.or_eq_true] at h
    rcases h with h | h
    · rw [Nat.eq_of_beq_eq_true h]; exact List.mem_cons_self
    · exact List.mem_cons_of_mem _ (memB_mem h)
theorem okT : allB (fun x => decide (tyI Tryd.prog x.1 = some x.2)) tabT = true := by kernel_rfl
theorem okS : allB (fun x => decide (sliceSz Tryd.prog x.1 = some x.2)) tabS = true := by kernel_rfl
theorem okR : allB (fun x => isStr Tryd.prog x) tabR = true := by kernel_rfl
theorem okK : allB (fun x => decide (intK Tryd.prog x.1 = some x.2)) tabK = true := by kernel_rfl
theorem okF : allB (fun x => decide (fieldOff Tryd.prog x.1 x.2.1 = some x.2.2)) tabF = true := by kernel_rfl
theorem okE : allB (fun x => decide (sliceE Tryd.prog x.1 = some x.2)) tabE = true := by kernel_rfl
theorem tyE {t : Nat} {x : Nat × Nat × Nat} (h : lk tabE t = some x) : sliceE Tryd.prog t = some x := of_decide_eq_true (allB_mem okE _ (lk_mem h))
theorem str7 : strI Tryd.prog 7 = some ([(0, 1), (1, 1), (2, 1), (3, 1)], [.int .i64 0, .int .i64 0, .bool false, .int .u8 0]) := by kernel_rfl
theorem str8 : strI Tryd.prog 8 = some ([(0, 1), (1, 1), (2, 1), (3, 1)], [.int .i64 0, .int .i64 0, .bool false, .int .u8 0]) := by kernel_rfl
theorem str13 : strI Tryd.prog 13 = some ([(0, 1), (1, 1)], [.string ⟨#[]⟩, .int .u64 0]) := by kernel_rfl
theorem str14 : strI Tryd.prog 14 = some ([(0, 1), (1, 1)], [.string ⟨#[]⟩, .int .u64 0]) := by kernel_rfl
theorem str18 : strI Tryd.prog 18 = some ([(0, 1)], [.pointer none]) := by kernel_rfl
theorem str19 : strI Tryd.prog 19 = some ([(0, 1)], [.pointer none]) := by kernel_rfl
theorem str46 : strI Tryd.prog 46 = some ([(0, 1), (1, 1), (2, 1)], [.int .i64 0, .int .i64 0, .int .i64 0]) := by kernel_rfl
theorem str47 : strI Tryd.prog 47 = some ([(0, 1), (1, 1), (2, 1)], [.int .i64 0, .int .i64 0, .int .i64 0]) := by kernel_rfl
theorem str52 : strI Tryd.prog 52 = some ([(0, 1), (1, 1)], [.string ⟨#[]⟩, .string ⟨#[]⟩]) := by kernel_rfl
theorem str53 : strI Tryd.prog 53 = some ([(0, 1), (1, 1)], [.string ⟨#[]⟩, .string ⟨#[]⟩]) := by kernel_rfl
theorem str105 : strI Tryd.prog 105 = some ([(0, 1), (1, 1)], [.pointer none, .slice none 0 0]) := by kernel_rfl
theorem str106 : strI Tryd.prog 106 = some ([(0, 1), (1, 1)], [.pointer none, .slice none 0 0]) := by kernel_rfl
theorem str127 : strI Tryd.prog 127 = some ([(0, 1), (1, 1)], [.int .u8 0, .int .u8 0]) := by kernel_rfl
theorem str128 : strI Tryd.prog 128 = some ([(0, 1), (1, 1)], [.int .u8 0, .int .u8 0]) := by kernel_rfl
theorem str131 : strI Tryd.prog 131 = some ([(0, 1), (1, 1), (2, 1), (3, 1)], [.pointer none, .pointer none, .pointer none, .string ⟨#[]⟩]) := by kernel_rfl
theorem str132 : strI Tryd.prog 132 = some ([(0, 1), (1, 1), (2, 1), (3, 1)], [.pointer none, .pointer none, .pointer none, .string ⟨#[]⟩]) := by kernel_rfl
theorem str134 : strI Tryd.prog 134 = some ([(0, 0)], []) := by kernel_rfl
theorem str135 : strI Tryd.prog 135 = some ([(0, 0)], []) := by kernel_rfl
theorem str142 : strI Tryd.prog 142 = some ([(0, 1), (1, 1), (2, 1), (3, 1), (4, 1), (5, 1), (6, 1), (7, 1), (8, 1), (9, 1), (10, 1)], [.int .u64 0, .int .u64 0, .int .u32 0, .int .u8 0, .int .u8 0, .int .u8 0, .int .u8 0, .nilFunc, .pointer none, .int .i32 0, .int .i32 0]) := by kernel_rfl
theorem str143 : strI Tryd.prog 143 = some ([(0, 1), (1, 1), (2, 1), (3, 1), (4, 1), (5, 1), (6, 1), (7, 1), (8, 1), (9, 1), (10, 1)], [.int .u64 0, .int .u64 0, .int .u32 0, .int .u8 0, .int .u8 0, .int .u8 0, .int .u8 0, .nilFunc, .pointer none, .int .i32 0, .int .i32 0]) := by kernel_rfl
theorem tyT {t : Nat} {x : Bool × Nat} (h : lk tabT t = some x) : tyI Tryd.prog t = some x := of_decide_eq_true (allB_mem okT _ (lk_mem h))
theorem tyS {t n : Nat} (h : lk tabS t = some n) : sliceSz Tryd.prog t = some n := of_decide_eq_true (allB_mem okS _ (lk_mem h))
theorem tyR {t : Nat} (h : memB tabR t = true) : isStr Tryd.prog t = true := allB_mem okR _ (memB_mem h)
theorem tyK {t : Nat} {k : IntKind} (h : lk tabK t = some k) : intK Tryd.prog t = some k := of_decide_eq_true (allB_mem okK _ (lk_mem h))
theorem tyF {t f k : Nat} (h : lk2 tabF t f = some k) : fieldOff Tryd.prog t f = some k := of_decide_eq_true (allB_mem okF _ (lk2_mem h))
theorem mixed : Tryd.prog.follows .mixedOrders = true := by kernel_rfl
end Go.Proofs.YtcpbdcamfhoiaaaDoor.Sim
