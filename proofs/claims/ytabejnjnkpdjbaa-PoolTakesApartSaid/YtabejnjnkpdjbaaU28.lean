/- Merged by bundles.py: PlSort, PlSort2, SimSr, SimSr2, SimPf, SimPg. -/
import Derived.Test.YtabejnjnkpdjbaaU27
import Derived.Test.YtabejnjnkpdjbaaU15
import Derived.Test.YtabejnjnkpdjbaaU19
import Derived.Test.YtabejnjnkpdjbaaU25
/- Sorting in place, as the program does it: models in plain Lean (a row turned element by element), and that each is a turning of the row. -/
namespace Go.Proofs.Ytabejnjnkpdjbaa.Sim
set_option linter.unusedVariables false
set_option linter.unusedSimpArgs false
open Go.RowKit Mem
section
variable {α : Type}
def swpT (l : List α) (i j : Nat) : List α := match l[i]?, l[j]? with
  | some x, some y => (l.set i y).set j x
  | _, _ => l
theorem swpT_len (l : List α) (i j : Nat) : (swpT l i j).length = l.length := by
  unfold swpT
  split
  · rw [List.length_set, List.length_set]
  · rfl
def swapR (l : List α) (a b : Nat) : Nat → List α
  | 0 => l
  | n + 1 => swpT (swapR l a b n) (a + n) (b + n)
theorem swapR_len (l : List α) (a b : Nat) : ∀ n, (swapR l a b n).length = l.length
  | 0 => rfl
  | n + 1 => (swpT_len _ _ _).trans (swapR_len l a b n)
def rotL (m : Nat) : Nat → List α → Nat → Nat → List α × Nat
  | 0, l, i, _ => (l, i)
  | f + 1, l, i, j => if i = j then (l, i) else if j < i then rotL m f (swapR l (m - i) m j) (i - j) j else rotL m f (swapR l (m - i) (m + j - i) i) i (j - i)
def rotT (l : List α) (a m b : Nat) : List α := swapR (rotL m (b - a) l (m - a) (b - m)).1 (m - (rotL m (b - a) l (m - a) (b - m)).2) m (rotL m (b - a) l (m - a) (b - m)).2
theorem rotL_len (m : Nat) : ∀ (f : Nat) (l : List α) (i j : Nat), (rotL m f l i j).1.length = l.length
  | 0, _, _, _ => rfl
  | f + 1, l, i, j => by
    unfold rotL
    split
    · rfl
    · split
      · exact (rotL_len m f _ _ _).trans (swapR_len _ _ _ _)
      · exact (rotL_len m f _ _ _).trans (swapR_len _ _ _ _)
theorem rotT_len (l : List α) (a m b : Nat) : (rotT l a m b).length = l.length := (swapR_len _ _ _ _).trans (rotL_len _ _ _ _ _)
end
end Go.Proofs.Ytabejnjnkpdjbaa.Sim

/- symMerge, as the program does it: a model, and that it turns the row. -/
namespace Go.Proofs.Ytabejnjnkpdjbaa.Sim
set_option linter.unusedVariables false
set_option linter.unusedSimpArgs false
open Go.RowKit Mem
section
variable {α : Type}
def bsr (p : Nat → Bool) : Nat → Nat → Nat → Nat
  | 0, i, _ => i
  | f + 1, i, j => if i < j then (if p ((i + j) / 2) then bsr p f ((i + j) / 2 + 1) j else bsr p f i ((i + j) / 2)) else i
theorem bsr_in (p : Nat → Bool) : ∀ (f i j : Nat), i ≤ j → i ≤ bsr p f i j ∧ bsr p f i j ≤ j
  | 0, i, j, h => ⟨Nat.le_refl _, h⟩
  | f + 1, i, j, h => by
    unfold bsr
    split
    · split
      · have := bsr_in p f ((i + j) / 2 + 1) j (by omega); omega
      · have := bsr_in p f i ((i + j) / 2) (by omega); omega
    · exact ⟨Nat.le_refl _, h⟩
theorem bsr_end (p : Nat → Bool) (f i : Nat) : bsr p f i i = i := by
  cases f with
  | zero => rfl
  | succ f => unfold bsr; rw [if_neg (by omega)]
theorem bsr_yes {p : Nat → Bool} {f i j : Nat} (h : i < j) (hp : p ((i + j) / 2) = true) : bsr p (f + 1) i j = bsr p f ((i + j) / 2 + 1) j := by
  conv => lhs; unfold bsr
  rw [if_pos h, if_pos hp]
theorem bsr_no {p : Nat → Bool} {f i j : Nat} (h : i < j) (hp : p ((i + j) / 2) = false) : bsr p (f + 1) i j = bsr p f i ((i + j) / 2) := by
  conv => lhs; unfold bsr
  rw [if_pos h, if_neg (by rw [hp]; decide)]
def mvU (l : List α) (a : Nat) : Nat → List α
  | 0 => l
  | n + 1 => swpT (mvU l a n) (a + n) (a + n + 1)
theorem mvU_len (l : List α) (a : Nat) : ∀ n, (mvU l a n).length = l.length
  | 0 => rfl
  | n + 1 => (swpT_len _ _ _).trans (mvU_len l a n)
def mvD (l : List α) (m : Nat) : Nat → List α
  | 0 => l
  | n + 1 => swpT (mvD l m n) (m - n - 1) (m - n)
theorem mvD_len (l : List α) (m : Nat) : ∀ n, (mvD l m n).length = l.length
  | 0 => rfl
  | n + 1 => (swpT_len _ _ _).trans (mvD_len l m n)
def ltA (lt : α → α → Bool) (l : List α) (i j : Nat) : Bool := match l[i]?, l[j]? with
  | some x, some y => lt x y
  | _, _ => false
def symS (lt : α → α → Bool) (l : List α) (a m b : Nat) : Nat :=
  if (a + b) / 2 < m then bsr (fun c => !ltA lt l ((a + b) / 2 + m - 1 - c) c) ((a + b) / 2 - ((a + b) / 2 + m - b)) ((a + b) / 2 + m - b) ((a + b) / 2)
  else bsr (fun c => !ltA lt l ((a + b) / 2 + m - 1 - c) c) (m - a) a m
def symR (lt : α → α → Bool) (l : List α) (a m b : Nat) : List α :=
  if symS lt l a m b < m ∧ m < (a + b) / 2 + m - symS lt l a m b then rotT l (symS lt l a m b) m ((a + b) / 2 + m - symS lt l a m b) else l
def symM (lt : α → α → Bool) : Nat → List α → Nat → Nat → Nat → List α
  | 0, l, _, _, _ => l
  | f + 1, l, a, m, b =>
    if m - a = 1 then mvU l a (bsr (fun h => ltA lt l h a) (b - m) m b - 1 - a)
    else if b - m = 1 then mvD l m (m - bsr (fun h => !ltA lt l m h) (m - a) a m)
    else
      let l2 := if a < symS lt l a m b ∧ symS lt l a m b < (a + b) / 2 then symM lt f (symR lt l a m b) a (symS lt l a m b) ((a + b) / 2) else symR lt l a m b
      if (a + b) / 2 < (a + b) / 2 + m - symS lt l a m b ∧ (a + b) / 2 + m - symS lt l a m b < b then symM lt f l2 ((a + b) / 2) ((a + b) / 2 + m - symS lt l a m b) b else l2
theorem symS_in (lt : α → α → Bool) (l : List α) {a m b : Nat} (h1 : a < m) (h2 : m < b) : a ≤ symS lt l a m b ∧ symS lt l a m b ≤ m ∧ symS lt l a m b ≤ (a + b) / 2 ∧ (a + b) / 2 + m - symS lt l a m b ≤ b ∧ m ≤ (a + b) / 2 + m - symS lt l a m b ∧ (a + b) / 2 ≤ (a + b) / 2 + m - symS lt l a m b := by
  unfold symS
  split
  · have := bsr_in (fun c => !ltA lt l ((a + b) / 2 + m - 1 - c) c) ((a + b) / 2 - ((a + b) / 2 + m - b)) ((a + b) / 2 + m - b) ((a + b) / 2) (by omega)
    omega
  · have := bsr_in (fun c => !ltA lt l ((a + b) / 2 + m - 1 - c) c) (m - a) a m (by omega)
    omega
theorem symR_len (lt : α → α → Bool) (l : List α) (a m b : Nat) : (symR lt l a m b).length = l.length := by
  unfold symR
  split
  · exact rotT_len _ _ _ _
  · rfl
theorem symM_len (lt : α → α → Bool) : ∀ (f : Nat) (l : List α) (a m b : Nat), (symM lt f l a m b).length = l.length
  | 0, _, _, _, _ => rfl
  | f + 1, l, a, m, b => by
    unfold symM
    split
    · exact mvU_len _ _ _
    · split
      · exact mvD_len _ _ _
      · have h2 : (if a < symS lt l a m b ∧ symS lt l a m b < (a + b) / 2 then symM lt f (symR lt l a m b) a (symS lt l a m b) ((a + b) / 2) else symR lt l a m b).length = l.length := by
          split
          · exact (symM_len lt f _ _ _ _).trans (symR_len _ _ _ _ _)
          · exact symR_len _ _ _ _ _
        dsimp only
        split
        · exact (symM_len lt f _ _ _ _).trans h2
        · exact h2
end
end Go.Proofs.Ytabejnjnkpdjbaa.Sim

/- swapRange: so many elements change places. -/
namespace Go.Proofs.Ytabejnjnkpdjbaa.Sim
set_option linter.unusedVariables false
set_option linter.unusedSimpArgs false
open Go.RowKit Mem
def SSw (N a b n k : Nat) (l : List PTk) : St := ⟨[(0, .own 2000 N), (1, .t (i64T (a : Int))), (2, .t (i64T (b : Int))), (3, .t (i64T (n : Int))), (10, .t (i64T (k : Int)))], [], [(2000, ⟨46, 4, (swapR l a b k).map takR⟩)]⟩
set_option maxRecDepth 100000 in
set_option maxHeartbeats 4000000 in
theorem swapRange_ (N a b n : Nat) (l : List PTk) (hN : N = l.length) (hb : N ≤ 2000) (hab : a < b) (hbn : b + n ≤ N) : LCalls Try.prog 130 [.own 2000 N, .t (i64T (a : Int)), .t (i64T (b : Int)), .t (i64T (n : Int)), .t (.clo 57 [])] [] [(2000, ⟨46, 4, l.map takR⟩)] (resA []) [] [(2000, ⟨46, 4, (swapR l a b n).map takR⟩)] := by
  refine lcalls_of Try.func130 rfl rfl Try.ntmps130 rfl ?_
  repeat' (first | refine rg 0 (aq0 ?_) | refine gc ?_ | refine ct ?_ | refine cf ?_ | refine sc ?_ ?_ <;> intro hc | refine rq rfl .nil ?_)
  refine swp_for (fun k => SSw N a b n k l) (fun _ => True) n ?_ trivial ?_
  · exact (weak_sub (.cons rfl rfl rfl (.cons rfl rfl rfl (.cons rfl rfl rfl (.cons rfl rfl rfl (.cons rfl rfl rfl .nil))))) .nil (.cons rfl rfl .nil))
  intro k hk _
  unfold SSw
  by_cases hlt : k < n
  · have hltI : (k : Int) < ((n : Nat) : Int) := by omega
    repeat' (first | refine rg 1 (aq42 ?_) | refine gc ?_ | refine ct ?_ | refine cf ?_ | refine sc ?_ ?_ <;> intro hc | refine rq rfl .nil ?_)
    have hLl : (swapR l a b k).length = N := (swapR_len l a b k).trans hN.symm
    have hs : swapR l a b (k + 1) = swpT (swapR l a b k) (a + k) (b + k) := rfl
    generalize swapR l a b k = L at *
    have hx : L[a + k]? = some (L[a + k]'(by omega)) := List.getElem?_eq_getElem (by omega)
    have hy : L[b + k]? = some (L[b + k]'(by omega)) := List.getElem?_eq_getElem (by omega)
    generalize L[a + k]'(by omega) = x at *
    generalize L[b + k]'(by omega) = y at *
    have hxr : (L.map takR)[a + k]? = some (takR x) := by rw [List.getElem?_map, hx]; rfl
    have hyr : (L.map takR)[b + k]? = some (takR y) := by rw [List.getElem?_map, hy]; rfl
    have hNr : N = (L.map takR).length := by rw [List.length_map]; exact hLl.symm
    have hNr2 : N = ((L.map takR).set (a + k) (takR y)).length := by rw [List.length_set]; exact hNr
    have hyr2 : ((L.map takR).set (a + k) (takR y))[b + k]? = some (takR y) := by rw [List.getElem?_set_ne (by omega)]; exact hyr
    have hsw : (⟨46, 4, ((L.map takR).set (a + k) (takR y)).set (b + k) (takR x)⟩ : Own) = ⟨46, 4, (swapR l a b (k + 1)).map takR⟩ := by
      rw [hs]
      unfold swpT
      rw [hx, hy]
      dsimp only
      rw [List.map_set, List.map_set]
    refine swp_any (id := 3) [[], [], [], [], [], [], [], [], [], [], [], [], [], [], [], [], [], [], [], [], [], [2000], [], [2000]] [[], [], [], [], [2000], [2000], [2000], [2000], [], [], [], [], [], [], [], [], [], [], [], [], [], [], [], []] mixed (by kernel_rfl) ?_
    refine yp (fun _ _ => po_move rfl rfl) ?_
    refine yp (fun _ _ => po_move rfl rfl) ?_
    refine yp (fun _ _ => po_move rfl rfl) ?_
    refine yp (fun _ _ => po_arith (c := ((a + k : Nat) : Int)) rfl rfl rfl (ar_add (by refine wrap_i64 ?_; omega) (by first | rfl | omega))) ?_
    refine yp (fun _ _ => po_move rfl rfl) ?_
    refine yp (fun _ _ => po_move rfl rfl) ?_
    refine yp (fun _ _ => po_move rfl rfl) ?_
    refine yp (fun _ _ => po_arith (c := ((b + k : Nat) : Int)) rfl rfl rfl (ar_add (by refine wrap_i64 ?_; omega) (by first | rfl | omega))) ?_
    refine yp (fun _ _ => po_move rfl rfl) ?_
    refine yp (fun _ _ => po_move rfl rfl) ?_
    refine yp (fun _ _ => po_move rfl rfl) ?_
    refine yp (fun _ _ => po_arith (c := ((b + k : Nat) : Int)) rfl rfl rfl (ar_add (by refine wrap_i64 ?_; omega) (by first | rfl | omega))) ?_
    refine yp (fun _ _ => po_index_own (k := b + k) rfl rfl rfl hNr rfl (tyS rfl) rfl (by omega)) ?_
    refine yp (fun _ _ => po_load_own_agg (ts := takR y) rfl rfl rfl hNr (tyT rfl) hyr rfl rfl) ?_
    refine yp (fun _ _ => po_move rfl rfl) ?_
    refine yp (fun _ _ => po_move rfl rfl) ?_
    refine yp (fun _ _ => po_move rfl rfl) ?_
    refine yp (fun _ _ => po_arith (c := ((a + k : Nat) : Int)) rfl rfl rfl (ar_add (by refine wrap_i64 ?_; omega) (by first | rfl | omega))) ?_
    refine yp (fun _ _ => po_index_own (k := a + k) rfl rfl rfl hNr rfl (tyS rfl) rfl (by omega)) ?_
    refine yp (fun _ _ => po_load_own_agg (ts := takR x) rfl rfl rfl hNr (tyT rfl) hxr rfl rfl) ?_
    refine yp (fun _ _ => po_index_own (k := a + k) rfl rfl rfl hNr rfl (tyS rfl) rfl (by omega)) ?_
    refine sany_eff [] [(2000, _)] (.free rfl rfl) rfl rfl (fun _ _ _ _ => e_store_own (ts := takR y) (by rfl) rfl rfl rfl rfl hNr rfl (.t _) rfl rfl (tyT rfl) rfl hxr rfl) ?_
    refine yp (fun _ _ => po_index_own (k := b + k) rfl rfl rfl hNr2 rfl (tyS rfl) rfl (by omega)) ?_
    refine sany_eff [] [(2000, _)] (.free rfl rfl) rfl rfl (fun _ _ _ _ => e_store_own (ts := takR x) (by rfl) rfl rfl rfl rfl hNr2 rfl (.t _) rfl rfl (tyT rfl) rfl hyr2 rfl) ?_
    refine sany_nil ?_
    refine gc ?_
    repeat' (first | refine rg 2 (aq18 ?_) | refine gc ?_ | refine ct ?_ | refine cf ?_ | refine sc ?_ ?_ <;> intro hc | refine rq rfl .nil ?_)
    refine for_next hlt ?_ trivial
    exact (weak_sub (.cons rfl (by first | rfl | (first | (exact hsw))) rfl (.cons rfl (by first | rfl | (first | (exact hsw))) rfl (.cons rfl (by first | rfl | (first | (exact hsw))) rfl (.cons rfl (by first | rfl | (first | (exact hsw))) rfl (.cons rfl (by first | rfl | (first | (exact hsw))) rfl .nil))))) .nil (.cons rfl (by first | rfl | (first | (exact hsw))) .nil))
  · obtain rfl : k = n := by omega
    have hltI : ¬ ((k : Nat) : Int) < ((k : Nat) : Int) := by omega
    repeat' (first | refine rg 1 (aq42 ?_) | refine gc ?_ | refine ct ?_ | refine cf ?_ | refine sc ?_ ?_ <;> intro hc | refine retl (by first | exact .inr rfl | exact .inl rfl) rfl .nil ?_ rfl .nil (.cons rfl (by rfl) .nil))
    all_goals rfl
end Go.Proofs.Ytabejnjnkpdjbaa.Sim

/- rotate: two neighbours of any lengths change places. -/
namespace Go.Proofs.Ytabejnjnkpdjbaa.Sim
set_option linter.unusedVariables false
set_option linter.unusedSimpArgs false
open Go.RowKit Mem
structure RotX where
  L : List PTk
  i : Nat
  j : Nat
  f : Nat
structure RotOk (N a m b : Nat) (l : List PTk) (z : RotX) : Prop where
  len : z.L.length = N
  i0 : 0 < z.i
  j0 : 0 < z.j
  ia : a + z.i ≤ m
  jb : m + z.j ≤ b
  fu : z.i + z.j ≤ z.f
  eq : rotL m z.f z.L z.i z.j = rotL m (b - a) l (m - a) (b - m)
def SRo (N a m b : Nat) (z : RotX) : St := ⟨[(0, .own 2000 N), (1, .t (i64T (a : Int))), (2, .t (i64T (m : Int))), (3, .t (i64T (b : Int))), (4, .t (.clo 57 [])), (10, .t (i64T (z.i : Int))), (11, .t (i64T (z.j : Int)))], [], [(2000, ⟨46, 4, z.L.map takR⟩)]⟩
theorem rotL_eq {α : Type} {m f : Nat} {L : List α} {i : Nat} : rotL m f L i i = (L, i) := by
  cases f with
  | zero => rfl
  | succ f => unfold rotL; rw [if_pos rfl]
theorem rotL_gt {α : Type} {m f : Nat} {L : List α} {i j : Nat} (h : j < i) : rotL m (f + 1) L i j = rotL m f (swapR L (m - i) m j) (i - j) j := by
  conv => lhs; unfold rotL
  rw [if_neg (by omega), if_pos h]
theorem rotL_lt {α : Type} {m f : Nat} {L : List α} {i j : Nat} (h : i < j) : rotL m (f + 1) L i j = rotL m f (swapR L (m - i) (m + j - i) i) i (j - i) := by
  conv => lhs; unfold rotL
  rw [if_neg (by omega), if_neg (by omega)]
set_option maxRecDepth 100000 in
set_option maxHeartbeats 4000000 in
theorem rotate_ (N a m b : Nat) (l : List PTk) (hN : N = l.length) (hb : N ≤ 2000) (h1 : a < m) (h2 : m < b) (h3 : b ≤ N) : LCalls Try.prog 128 [.own 2000 N, .t (i64T (a : Int)), .t (i64T (m : Int)), .t (i64T (b : Int)), .t (.clo 57 [])] [] [(2000, ⟨46, 4, l.map takR⟩)] (resA []) [] [(2000, ⟨46, 4, (rotT l a m b).map takR⟩)] := by
  refine lcalls_of Try.func128 rfl rfl Try.ntmps128 rfl ?_
  repeat' (first | (refine rg 0 (aq16 ?_); (refine sp (po_arith (c := ((m - a : Nat) : Int)) rfl rfl rfl (ar_sub (by refine wrap_i64 ?_; omega) (by omega))) ?_); refine aq0 ?_) | (refine rg 1 (aq16 ?_); (first | refine sp (po_arith (c := ((m - a : Nat) : Int)) rfl rfl rfl (ar_sub (by refine wrap_i64 ?_; omega) (by omega))) ?_ | refine sp (po_arith (c := ((b - m : Nat) : Int)) rfl rfl rfl (ar_sub (by refine wrap_i64 ?_; omega) (by omega))) ?_); refine aq0 ?_) | refine gc ?_ | refine ct ?_ | refine cf ?_ | refine sc ?_ ?_ <;> intro hc | refine rq rfl .nil ?_)
  refine swp_fam (SRo N a m b) (RotOk N a m b l) (fun z => z.i + z.j) ⟨l, m - a, b - m, b - a⟩ (weak_sub (.cons rfl rfl rfl (.cons rfl rfl rfl (.cons rfl rfl rfl (.cons rfl rfl rfl (.cons rfl rfl rfl (.cons rfl rfl rfl (.cons rfl rfl rfl .nil))))))) .nil (.cons rfl rfl .nil)) ⟨hN.symm, by show 0 < m - a; omega, by show 0 < b - m; omega, by show a + (m - a) ≤ m; omega, by show m + (b - m) ≤ b; omega, by show m - a + (b - m) ≤ b - a; omega, rfl⟩ ?_
  rintro ⟨L, i, j, f⟩ ⟨g1, g2, g3, g4, g5, g6, g7⟩
  dsimp only at g1 g2 g3 g4 g5 g6 g7
  unfold SRo
  dsimp only
  have hmi : ((m : Nat) : Int) - ((i : Nat) : Int) = ((m - i : Nat) : Int) := by omega
  by_cases hij : i = j
  · subst hij
    rw [rotL_eq] at g7
    have hlast : rotT l a m b = swapR L (m - i) m i := by unfold rotT; rw [← g7]
    have c1 := swapRange_ N (m - i) m i L g1.symm hb (by omega) (by omega)
    rw [hlast]
    have hne : (!decide (((i : Nat) : Int) = ((i : Nat) : Int))) = false := by simp
    repeat' (first | refine fam_exit ?_ | refine rg 2 (aq42 ?_) | (refine rg 8 (aq6 ?_); (refine sp (po_arith (c := ((m - i : Nat) : Int)) rfl rfl rfl (ar_sub (by refine wrap_i64 ?_; omega) (by omega))) ?_); refine aq6 ?_; refine sops_lcall (c1) (fun i => i) (fun i => i) (fun _ => false) (.free rfl rfl) rfl rfl rfl (by ((repeat' (first | exact .nil | refine .cons rfl rfl rfl ?_)) <;> fail)) .nil (.cons rfl rfl .nil) rfl rfl (fun _ h => Bool.noConfusion h) ?_; refine oN ?_) | refine gc ?_ | refine ct ?_ | refine cf ?_ | refine sc ?_ ?_ <;> intro hc | refine retl (by first | exact .inr rfl | exact .inl rfl) rfl .nil ?_ rfl .nil (.cons rfl (by rfl) .nil))
    all_goals rfl
  · have hne : (!decide (((i : Nat) : Int) = ((j : Nat) : Int))) = true := by
      have : ¬ ((i : Nat) : Int) = ((j : Nat) : Int) := by omega
      simp [this]
    obtain ⟨f, rfl⟩ : ∃ f', f = f' + 1 := ⟨f - 1, by omega⟩
    by_cases hgt : j < i
    · have hgI : ((j : Nat) : Int) < ((i : Nat) : Int) := by omega
      have c1 := swapRange_ N (m - i) m j L g1.symm hb (by omega) (by omega)
      have hln : ((swapR L (m - i) m j).map takR).length = (L.map takR).length := by rw [List.length_map, List.length_map, swapR_len]
      rw [rotL_gt hgt] at g7
      repeat' (first | refine fam_next (RotX.mk (swapR L (m - i) m j) (i - j) j f) (by show i - j + j < i + j; omega) (weak_sub (.cons rfl rfl rfl (.cons rfl rfl rfl (.cons rfl rfl rfl (.cons rfl rfl rfl (.cons rfl rfl rfl (.cons rfl rfl rfl (.cons rfl rfl rfl .nil))))))) .nil (.cons rfl rfl .nil)) ⟨(swapR_len _ _ _ _).trans g1, by show 0 < i - j; omega, g3, by show a + (i - j) ≤ m; omega, g5, by show i - j + j ≤ f; omega, g7⟩ | refine rg 2 (aq42 ?_) | refine rg 3 (aq42 ?_) | (refine rg 4 (aq6 ?_); (refine sp (po_arith (c := ((m - i : Nat) : Int)) rfl rfl rfl (ar_sub (by refine wrap_i64 ?_; omega) (by omega))) ?_); refine aq6 ?_; refine sops_lcall (c1) (fun i => i) (fun i => i) (fun i => Nat.beq i 2000) (.free rfl rfl) rfl rfl rfl (by ((repeat' (first | exact .nil | refine .cons rfl rfl rfl ?_)) <;> fail)) .nil (.cons rfl rfl .nil) rfl rfl (kp_id 2000 rfl rfl rfl (by first | rfl | assumption)) ?_; refine oN ?_) | (refine rg 5 (aq16 ?_); (first | refine sp (po_arith (c := ((m - i : Nat) : Int)) rfl rfl rfl (ar_sub (by refine wrap_i64 ?_; omega) (by omega))) ?_ | refine sp (po_arith (c := ((i - j : Nat) : Int)) rfl rfl rfl (ar_sub (by refine wrap_i64 ?_; omega) (by omega))) ?_); refine aq0 ?_) | refine gc ?_ | refine ct ?_)
    · have hgI : ¬ ((j : Nat) : Int) < ((i : Nat) : Int) := by omega
      have c1 := swapRange_ N (m - i) (m + j - i) i L g1.symm hb (by omega) (by omega)
      have hln : ((swapR L (m - i) (m + j - i) i).map takR).length = (L.map takR).length := by rw [List.length_map, List.length_map, swapR_len]
      rw [rotL_lt (by omega)] at g7
      repeat' (first | refine fam_next (RotX.mk (swapR L (m - i) (m + j - i) i) i (j - i) f) (by show i + (j - i) < i + j; omega) (weak_sub (.cons rfl rfl rfl (.cons rfl rfl rfl (.cons rfl rfl rfl (.cons rfl rfl rfl (.cons rfl rfl rfl (.cons rfl rfl rfl (.cons rfl rfl rfl .nil))))))) .nil (.cons rfl rfl .nil)) ⟨(swapR_len _ _ _ _).trans g1, g2, by show 0 < j - i; omega, g4, by show m + (j - i) ≤ b; omega, by show i + (j - i) ≤ f; omega, g7⟩ | refine rg 2 (aq42 ?_) | refine rg 3 (aq42 ?_) | (refine rg 6 (aq6 ?_); (refine sp (po_arith (c := ((m - i : Nat) : Int)) rfl rfl rfl (ar_sub (by refine wrap_i64 ?_; omega) (by omega))) ?_); refine aq16 ?_; (first | refine sp (po_arith (c := ((m - i : Nat) : Int)) rfl rfl rfl (ar_sub (by refine wrap_i64 ?_; omega) (by omega))) ?_ | refine sp (po_arith (c := ((m + j : Nat) : Int)) rfl rfl rfl (ar_add (by refine wrap_i64 ?_; omega) (by omega))) ?_); refine oMv ?_; (first | refine sp (po_arith (c := ((m - i : Nat) : Int)) rfl rfl rfl (ar_sub (by refine wrap_i64 ?_; omega) (by omega))) ?_ | refine sp (po_arith (c := ((m + j : Nat) : Int)) rfl rfl rfl (ar_add (by refine wrap_i64 ?_; omega) (by omega))) ?_ | refine sp (po_arith (c := ((m + j - i : Nat) : Int)) rfl rfl rfl (ar_sub (by refine wrap_i64 ?_; omega) (by omega))) ?_); refine aq16 ?_; refine sops_lcall (c1) (fun i => i) (fun i => i) (fun i => Nat.beq i 2000) (.free rfl rfl) rfl rfl rfl (by ((repeat' (first | exact .nil | refine .cons rfl rfl rfl ?_)) <;> fail)) .nil (.cons rfl rfl .nil) rfl rfl (kp_id 2000 rfl rfl rfl (by first | rfl | assumption)) ?_; refine oN ?_) | (refine rg 7 (aq16 ?_); (first | refine sp (po_arith (c := ((m - i : Nat) : Int)) rfl rfl rfl (ar_sub (by refine wrap_i64 ?_; omega) (by omega))) ?_ | refine sp (po_arith (c := ((m + j : Nat) : Int)) rfl rfl rfl (ar_add (by refine wrap_i64 ?_; omega) (by omega))) ?_ | refine sp (po_arith (c := ((m + j - i : Nat) : Int)) rfl rfl rfl (ar_sub (by refine wrap_i64 ?_; omega) (by omega))) ?_ | refine sp (po_arith (c := ((j - i : Nat) : Int)) rfl rfl rfl (ar_sub (by refine wrap_i64 ?_; omega) (by omega))) ?_); refine aq0 ?_) | refine gc ?_ | refine ct ?_ | refine cf ?_)
end Go.Proofs.Ytabejnjnkpdjbaa.Sim

/- room. -/
namespace Go.Proofs.Ytabejnjnkpdjbaa.Sim
set_option linter.unusedVariables false
set_option linter.unusedSimpArgs false
open Go.RowKit Mem
section
variable {P : Program} {bx : List (Nat × List A)} {ow : List (Nat × Own)} {o : Oper} {ρ : Operand → Option A}
theorem po_len_fam {x : Operand} {t i sz : Nat} {u : Value} {fs a b : List (Value × Own)} {o' : Own} (ho : o.op = .call { callee := .builtin .len, args := #[x], argTypes := #[t] }) (hx : ρ x = some (.t (.v u))) (hb : get bx i = some [.rs (FamR fs)]) (hfs : fs = a ++ (u, o') :: b) (hT : sliceSz P t = some sz) (hc : chB i = true := by rfl) : PureOp P bx ow o ρ (.t (.v (.int .i64 (o'.rows.length : Int)))) := pure_run fun C m g w ac he h => by
  subst hfs
  have h1 : ac.eval x = u := tr_v (show TR m (.v u) _ from h x (by simp [ho, Op.operands, Call.operands]) _ hx)
  obtain ⟨⟨_, f2, _⟩, _⟩ := he.rs.1 i _ hc hb
  obtain ⟨⟨vs, k1, _⟩, _⟩ := f2 a.length (u, o') ins_at
  obtain ⟨e, ii, hu, _⟩ := sliceSz_spec hT
  have hu2 : ∃ A c, u = .slice A o'.rows.length c := by
    rcases k1.2 with ⟨h5, h6⟩ | ⟨g5, cap, cur, h5, _⟩
    · dsimp only at h5 h6; exact ⟨none, 0, by rw [h5, h6]⟩
    · dsimp only at h5; exact ⟨some ⟨g5, 0, none⟩, cap, h5⟩
  obtain ⟨A0, c0, hu3⟩ := hu2
  refine ⟨.int .i64 o'.rows.length, ?_, .v _⟩
  simp [execOp, ho, resolve, invoke, builtin, h1, hu3, Builtin.len_, Builtin.lenOf, run_underlying hu, goInt]
end
def lruI (l : List PTun) : Nat → Option (Nat × Int)
  | 0 => none
  | j + 1 => match l[j]? with
    | none => lruI l j
    | some t => if t.asks.length = 0 then (match lruI l j with
      | none => some (j, t.used)
      | some (k, u) => if t.used < u then some (j, t.used) else some (k, u)) else lruI l j
def kOf : Option (Nat × Int) → Int
  | none => -1
  | some (k, _) => (k : Int)
theorem lruI_ok (l : List PTun) : ∀ j k u, lruI l j = some (k, u) → k < j ∧ ∃ t, l[k]? = some t ∧ t.used = u ∧ t.asks.length = 0
  | 0, k, u, h => by cases h
  | j + 1, k, u, h => by
    unfold lruI at h
    cases hj : l[j]? with
    | none => rw [hj] at h; obtain ⟨h1, h2⟩ := lruI_ok l j k u h; exact ⟨by omega, h2⟩
    | some t =>
      rw [hj] at h
      dsimp only at h
      split at h
      · rename_i ha
        cases hl : lruI l j with
        | none => rw [hl] at h; injection h with h; injection h with h1 h2; subst h1 h2; exact ⟨by omega, t, hj, rfl, ha⟩
        | some x =>
          obtain ⟨k0, u0⟩ := x
          rw [hl] at h
          dsimp only at h
          split at h
          · injection h with h; injection h with h1 h2; subst h1 h2; exact ⟨by omega, t, hj, rfl, ha⟩
          · injection h with h; injection h with h1 h2; subst h1 h2
            obtain ⟨h1, h2⟩ := lruI_ok l j k0 u0 hl; exact ⟨by omega, h2⟩
      · obtain ⟨h1, h2⟩ := lruI_ok l j k u h; exact ⟨by omega, h2⟩
theorem lruI_skip {l : List PTun} {j : Nat} {t : PTun} (h : l[j]? = some t) (ha : ¬ t.asks.length = 0) : lruI l (j + 1) = lruI l j := by
  show (match l[j]? with | none => _ | some t => _) = _
  rw [h]; dsimp only; rw [if_neg ha]
theorem lruI_first {l : List PTun} {j : Nat} {t : PTun} (h : l[j]? = some t) (ha : t.asks.length = 0) (hl : lruI l j = none) : lruI l (j + 1) = some (j, t.used) := by
  show (match l[j]? with | none => _ | some t => _) = _
  rw [h]; dsimp only; rw [if_pos ha, hl]
theorem lruI_less {l : List PTun} {j : Nat} {t : PTun} {k : Nat} {u : Int} (h : l[j]? = some t) (ha : t.asks.length = 0) (hl : lruI l j = some (k, u)) (hu : t.used < u) : lruI l (j + 1) = some (j, t.used) := by
  show (match l[j]? with | none => _ | some t => _) = _
  rw [h]; dsimp only; rw [if_pos ha, hl]; dsimp only; rw [if_pos hu]
theorem lruI_more {l : List PTun} {j : Nat} {t : PTun} {k : Nat} {u : Int} (h : l[j]? = some t) (ha : t.asks.length = 0) (hl : lruI l j = some (k, u)) (hu : ¬ t.used < u) : lruI l (j + 1) = lruI l j := by
  show (match l[j]? with | none => _ | some t => _) = _
  rw [h, hl]; dsimp only; rw [if_pos ha, if_neg hu]
def SRm (W : PWk) (j : Nat) : St := ⟨[(0, .bp 2000 0), (2, .t (.v (.bool false))), (3, .t (.v (.int .i64 (kOf (lruI (W.tuns.map ATun.t) j))))), (10, .own 2001 W.tuns.length), (11, .t (.v (.int .i64 (W.tuns.length : Int)))), (12, .t (.v (.int .i64 (j : Int))))], wB 2000 3000 2001 2002 2003 W, wO 2001 2002 2003 W⟩
def roomX (W : PWk) : List (Nat × List A) × List (Nat × Own) := match lruI (W.tuns.map ATun.t) W.tuns.length with
  | none => (wB 2000 3000 2001 2002 2003 W, wO 2001 2002 2003 W)
  | some (k, _) => match W.tuns[k]? with
    | none => (wB 2000 3000 2001 2002 2003 W, wO 2001 2002 2003 W)
    | some a => (wB 2000 3000 1001 1002 1003 (goW W (W.tuns.take k) (W.tuns.drop (k + 1)) a 0), wO 1001 1002 1003 (goW W (W.tuns.take k) (W.tuns.drop (k + 1)) a 0))
theorem split_at {α : Type} {l : List α} {k : Nat} {a : α} (h : l[k]? = some a) : l = l.take k ++ a :: l.drop (k + 1) := by
  obtain ⟨h1, h2⟩ := List.getElem?_eq_some_iff.1 h
  rw [← h2, ← List.drop_eq_getElem_cons h1, List.take_append_drop]
set_option maxRecDepth 100000 in
set_option maxHeartbeats 4000000 in
theorem room_ (W : PWk) (hn : W.tuns.length ≤ 1000) (hf : W.fails.length ≤ 1000000) (hd : W.dos.length ≤ 1000000) : LCalls Try.prog 70 [.bp 2000 0] (wB 2000 3000 2001 2002 2003 W) (wO 2001 2002 2003 W) (.t (.v (.bool (lruI (W.tuns.map ATun.t) W.tuns.length).isSome))) (roomX W).1 (roomX W).2 := by
  refine lcalls_of Try.func70 rfl rfl Try.ntmps70 rfl ?_
  unfold wB wO wC
  repeat' (first | refine rg 0 (aq0 ?_) | refine rg 1 (aq0 ?_) | (refine rg 2 ?_; refine oMv ?_; refine sp (po_nilcheck rfl rfl) ?_; refine oFb ?_; refine oFb ?_; refine oLb ?_; refine sp (po_len_own rfl rfl (tyS rfl)) ?_; refine oMv ?_; refine oN ?_) | refine gc ?_ | refine ct ?_ | refine cf ?_ | refine sc ?_ ?_ <;> intro hc | refine rq rfl (rt .nil) ?_)
  refine swp_for (SRm W) (fun _ => True) W.tuns.length ?_ trivial ?_
  · exact (weak_sub (.cons rfl rfl rfl (.cons rfl rfl rfl (.cons rfl rfl rfl (.cons rfl rfl rfl (.cons rfl rfl rfl (.cons rfl rfl rfl .nil)))))) (.cons rfl rfl rfl (.cons rfl rfl rfl .nil)) (.cons rfl rfl (.cons rfl rfl (.cons rfl rfl .nil))))
  intro j hj _
  unfold SRm wB wO wC
  by_cases hlt : j < W.tuns.length
  · have hltI : (j : Int) < (W.tuns.length : Int) := by omega
    have hx : W.tuns[j]? = some W.tuns[j] := List.getElem?_eq_getElem hlt
    have hxt : (W.tuns.map ATun.t)[j]? = some (W.tuns[j]).t := by rw [List.getElem?_map, hx]; rfl
    have hat : (W.tuns.map tunR)[j]? = some (tunR W.tuns[j]) := by rw [List.getElem?_map, hx]; rfl
    have hfs : famT W.tuns = famT (W.tuns.take j) ++ ((W.tuns[j]).u, askO (W.tuns[j]).t) :: famT (W.tuns.drop (j + 1)) := by
      have h0 := congrArg famT (split_at hx)
      rw [famT_open] at h0; exact h0
    have hml : W.tuns.length = (W.tuns.map tunR).length := (List.length_map _).symm
    have hla : (askO (W.tuns[j]).t).rows.length = (W.tuns[j]).t.asks.length := List.length_map _
    generalize W.tuns[j] = x at *
    by_cases he : x.t.asks.length = 0
    · have heI : (((askO x.t).rows.length : Nat) : Int) = 0 := by rw [hla]; omega
      cases hl : lruI (W.tuns.map ATun.t) j with
      | none =>
        have hs := lruI_first hxt he hl
        dsimp only [kOf]
        repeat' (first | refine for_next hlt (weak_sub (.cons rfl (by rfl) rfl (.cons rfl (by rfl) rfl (.cons rfl (by first | rfl | ((exact congrArg (fun z => Sim.A.t (T.v (Value.int .i64 (kOf z)))) hs.symm))) rfl (.cons rfl (by rfl) rfl (.cons rfl (by rfl) rfl (.cons rfl (by rfl) rfl .nil)))))) (.cons rfl (by rfl) rfl (.cons rfl (by rfl) rfl .nil)) (.cons rfl (by rfl) (.cons rfl (by rfl) (.cons rfl (by rfl) .nil)))) trivial | refine rg 3 (aq3 ?_) | (refine rg 4 (aq4 ?_); refine sp (po_load_own_agg (ts := tunR x) rfl rfl rfl hml (tyT rfl) hat rfl rfl) ?_; refine sal str118 ?_; refine aq5 ?_) | (refine rd 5 ?_; refine dFb ?_; (first | refine dp (po_load_own_agg (ts := tunR x) rfl rfl rfl hml (tyT rfl) hat rfl rfl) ?_ | refine dLb ?_); refine dp (po_len_fam (i := 3000) rfl rfl rfl hfs (tyS rfl)) ?_; refine dCm ?_; refine dMv ?_; refine dMv ?_; refine dCm ?_; refine dMv ?_; (first | refine dFb ?_ | refine dFd ?_ | refine dp (fdo rfl) ?_ | refine dK ?_) <;> (first | refine dp (po_load_own_agg (ts := tunR x) rfl rfl rfl hml (tyT rfl) hat rfl rfl) ?_ | refine dLb ?_ | refine dLd ?_ | refine dp (ldo rfl) ?_ | refine dK ?_) <;> (first | refine dMv ?_ | refine dK ?_) <;> (first | refine dp (po_nilcheck rfl rfl) ?_ | refine dp (po_nilcheck_oe rfl rfl rfl (by rfl)) ?_ | refine dK ?_) <;> refine aq49 ?_ <;> (first | refine dp (po_load_own_agg (ts := tunR x) rfl rfl rfl hml (tyT rfl) hat rfl rfl) ?_ | refine dLb ?_ | refine dLd ?_ | refine dp (ldo rfl) ?_ | refine dK ?_) <;> refine aq50 ?_ <;> (first | refine dp (po_load_own_agg (ts := tunR x) rfl rfl rfl hml (tyT rfl) hat rfl rfl) ?_ | refine dLb ?_ | refine dLd ?_ | refine dp (ldo rfl) ?_ | refine dK ?_) <;> (first | refine dCm ?_ | refine dK ?_) <;> refine dPt ?_ <;> refine dPt ?_ <;> refine dN ?_ <;> refine oN ?_) | refine rg 6 (aq8 ?_) | refine rg 7 (aq7 ?_) | refine gc ?_ | refine ct ?_)
      | some ku =>
        obtain ⟨k, u⟩ := ku
        obtain ⟨hk1, b, hb1, hb2, hb3⟩ := lruI_ok _ _ _ _ hl
        rw [List.getElem?_map] at hb1
        cases hy : W.tuns[k]? with
        | none => rw [hy] at hb1; cases hb1
        | some y =>
          rw [hy] at hb1
          injection hb1 with hb1
          subst hb1
          subst hb2
          have hatk : (W.tuns.map tunR)[k]? = some (tunR y) := by rw [List.getElem?_map, hy]; rfl
          have hkI : ¬ ((k : Int) < 0) := by omega
          have hkn : k < W.tuns.length := by omega
          dsimp only [kOf]
          by_cases hu : x.t.used < y.t.used
          · have hs := lruI_less hxt he hl hu
            repeat' (first | refine for_next hlt (weak_sub (.cons rfl (by rfl) rfl (.cons rfl (by rfl) rfl (.cons rfl (by first | rfl | ((exact congrArg (fun z => Sim.A.t (T.v (Value.int .i64 (kOf z)))) hs.symm))) rfl (.cons rfl (by rfl) rfl (.cons rfl (by rfl) rfl (.cons rfl (by rfl) rfl .nil)))))) (.cons rfl (by rfl) rfl (.cons rfl (by rfl) rfl .nil)) (.cons rfl (by rfl) (.cons rfl (by rfl) (.cons rfl (by rfl) .nil)))) trivial | refine rg 3 (aq3 ?_) | (refine rg 4 (aq4 ?_); refine sp (po_load_own_agg (ts := tunR x) rfl rfl rfl hml (tyT rfl) hat rfl rfl) ?_; refine sal str118 ?_; refine aq5 ?_) | (refine rd 5 ?_; refine dFb ?_; (first | refine dp (po_load_own_agg (ts := tunR x) rfl rfl rfl hml (tyT rfl) hat rfl rfl) ?_ | refine dLb ?_); refine dp (po_len_fam (i := 3000) rfl rfl rfl hfs (tyS rfl)) ?_; refine dCm ?_; refine dMv ?_; refine dMv ?_ <;> refine dCm ?_ <;> refine dMv ?_ <;> refine dFb ?_ <;> (first | refine dp (po_load_own_agg (ts := tunR x) rfl rfl rfl hml (tyT rfl) hat rfl rfl) ?_ | refine dLb ?_) <;> refine dMv ?_ <;> refine dp (po_nilcheck rfl rfl) ?_ <;> refine dFb ?_ <;> refine dFb ?_ <;> (first | refine dp (po_load_own_agg (ts := tunR x) rfl rfl rfl hml (tyT rfl) hat rfl rfl) ?_ | refine dLb ?_) <;> refine dMv ?_ <;> refine dp (ixo rfl) ?_ <;> (first | refine dFb ?_ | refine dFd ?_ | refine dp (fdo rfl) ?_) <;> (first | refine dp (po_load_own_agg (ts := tunR x) rfl rfl rfl hml (tyT rfl) hat rfl rfl) ?_ | refine dLb ?_ | refine dLd ?_ | refine dp (ldo rfl) ?_) <;> refine dCm ?_ <;> (first | refine dPt ?_ | refine dPf ?_) <;> refine dPt ?_ <;> refine dN ?_ <;> refine oN ?_) | refine rg 6 (aq8 ?_) | refine rg 7 (aq7 ?_) | refine gc ?_ | refine ct ?_)
          · have hs := (lruI_more hxt he hl hu).trans hl
            repeat' (first | refine for_next hlt (weak_sub (.cons rfl (by rfl) rfl (.cons rfl (by rfl) rfl (.cons rfl (by first | rfl | ((exact congrArg (fun z => Sim.A.t (T.v (Value.int .i64 (kOf z)))) hs.symm))) rfl (.cons rfl (by rfl) rfl (.cons rfl (by rfl) rfl (.cons rfl (by rfl) rfl .nil)))))) (.cons rfl (by rfl) rfl (.cons rfl (by rfl) rfl .nil)) (.cons rfl (by rfl) (.cons rfl (by rfl) (.cons rfl (by rfl) .nil)))) trivial | refine rg 3 (aq3 ?_) | (refine rg 4 (aq4 ?_); refine sp (po_load_own_agg (ts := tunR x) rfl rfl rfl hml (tyT rfl) hat rfl rfl) ?_; refine sal str118 ?_; refine aq5 ?_) | (refine rd 5 ?_; refine dFb ?_; (first | refine dp (po_load_own_agg (ts := tunR x) rfl rfl rfl hml (tyT rfl) hat rfl rfl) ?_ | refine dLb ?_); refine dp (po_len_fam (i := 3000) rfl rfl rfl hfs (tyS rfl)) ?_; refine dCm ?_; refine dMv ?_; refine dMv ?_ <;> refine dCm ?_ <;> refine dMv ?_ <;> refine dFb ?_ <;> (first | refine dp (po_load_own_agg (ts := tunR x) rfl rfl rfl hml (tyT rfl) hat rfl rfl) ?_ | refine dLb ?_) <;> refine dMv ?_ <;> refine dp (po_nilcheck rfl rfl) ?_ <;> refine dFb ?_ <;> refine dFb ?_ <;> (first | refine dp (po_load_own_agg (ts := tunR x) rfl rfl rfl hml (tyT rfl) hat rfl rfl) ?_ | refine dLb ?_) <;> refine dMv ?_ <;> refine dp (ixo rfl) ?_ <;> (first | refine dFb ?_ | refine dFd ?_ | refine dp (fdo rfl) ?_) <;> (first | refine dp (po_load_own_agg (ts := tunR x) rfl rfl rfl hml (tyT rfl) hat rfl rfl) ?_ | refine dLb ?_ | refine dLd ?_ | refine dp (ldo rfl) ?_) <;> refine dCm ?_ <;> (first | refine dPt ?_ | refine dPf ?_) <;> refine dPt ?_ <;> refine dN ?_ <;> refine oN ?_) | refine rg 7 (aq7 ?_) | refine gc ?_ | refine ct ?_ | refine cf ?_)
    · have hs := lruI_skip hxt he
      have heI : ¬ ((((askO x.t).rows.length : Nat) : Int) = 0) := by rw [hla]; omega
      repeat' (first | refine for_next hlt (weak_sub (.cons rfl (by rfl) rfl (.cons rfl (by rfl) rfl (.cons rfl (by first | rfl | ((rw [hs]))) rfl (.cons rfl (by rfl) rfl (.cons rfl (by rfl) rfl (.cons rfl (by rfl) rfl .nil)))))) (.cons rfl (by rfl) rfl (.cons rfl (by rfl) rfl .nil)) (.cons rfl (by rfl) (.cons rfl (by rfl) (.cons rfl (by rfl) .nil)))) trivial | refine rg 3 (aq3 ?_) | (refine rg 4 (aq4 ?_); refine sp (po_load_own_agg (ts := tunR x) rfl rfl rfl hml (tyT rfl) hat rfl rfl) ?_; refine sal str118 ?_; refine aq5 ?_) | (refine rd 5 ?_; refine dFb ?_; (first | refine dp (po_load_own_agg (ts := tunR x) rfl rfl rfl hml (tyT rfl) hat rfl rfl) ?_ | refine dLb ?_); refine dp (po_len_fam (i := 3000) rfl rfl rfl hfs (tyS rfl)) ?_; refine dCm ?_; refine dMv ?_; (first | refine dMv ?_ | refine dK ?_); (first | refine dCm ?_ | refine dK ?_); (first | refine dMv ?_ | refine dK ?_); (first | refine dFb ?_ | refine dFd ?_ | refine dp (fdo rfl) ?_ | refine dK ?_) <;> (first | refine dp (po_load_own_agg (ts := tunR x) rfl rfl rfl hml (tyT rfl) hat rfl rfl) ?_ | refine dLb ?_ | refine dLd ?_ | refine dp (ldo rfl) ?_ | refine dK ?_) <;> (first | refine dMv ?_ | refine dK ?_) <;> (first | refine dp (po_nilcheck rfl rfl) ?_ | refine dp (po_nilcheck_oe rfl rfl rfl (by rfl)) ?_ | refine dK ?_) <;> refine aq49 ?_ <;> (first | refine dp (po_load_own_agg (ts := tunR x) rfl rfl rfl hml (tyT rfl) hat rfl rfl) ?_ | refine dLb ?_ | refine dLd ?_ | refine dp (ldo rfl) ?_ | refine dK ?_) <;> refine aq50 ?_ <;> (first | refine dp (po_load_own_agg (ts := tunR x) rfl rfl rfl hml (tyT rfl) hat rfl rfl) ?_ | refine dLb ?_ | refine dLd ?_ | refine dp (ldo rfl) ?_ | refine dK ?_) <;> (first | refine dCm ?_ | refine dK ?_) <;> (first | refine dPt ?_ | refine dPf ?_ | refine dK ?_) <;> (first | refine dPt ?_ | refine dPf ?_) <;> refine dN ?_ <;> refine oN ?_) | refine rg 7 (aq7 ?_) | refine gc ?_ | refine ct ?_ | refine cf ?_)
  · obtain rfl : j = W.tuns.length := by omega
    have hnI : ¬ ((W.tuns.length : Int) < (W.tuns.length : Int)) := by omega
    unfold roomX
    cases hl : lruI (W.tuns.map ATun.t) W.tuns.length with
    | none =>
      dsimp only [kOf]
      repeat' (first | refine rg 3 (aq3 ?_) | refine rg 8 (aq32 ?_) | refine rg 10 (aq51 ?_) | refine gc ?_ | refine ct ?_ | refine cf ?_ | refine sc ?_ ?_ <;> intro hc | refine retl (by exact .inr rfl) rfl (.tmp rfl rfl .nil) ?_ rfl (.cons rfl (by rfl) rfl (.cons rfl (by rfl) rfl .nil)) (.cons rfl (by rfl) (.cons rfl (by rfl) (.cons rfl (by rfl) .nil))))
      rfl
    | some ku =>
      obtain ⟨k, u⟩ := ku
      obtain ⟨hk1, b, hb1, hb2, hb3⟩ := lruI_ok _ _ _ _ hl
      rw [List.getElem?_map] at hb1
      dsimp only [kOf]
      cases hy : W.tuns[k]? with
      | none => rw [hy] at hb1; cases hb1
      | some y =>
        rw [hy] at hb1
        injection hb1 with hb1
        subst hb1
        have c4 := goes_ W (W.tuns.take k) (W.tuns.drop (k + 1)) y 0 (split_at hy) (by omega) hf hn hd
        rw [List.length_take, Nat.min_eq_left (by omega)] at c4
        unfold wB wO wC at c4
        have hkI : (0 : Int) ≤ (k : Int) := by omega
        dsimp only
        unfold wB wO wC
        repeat' (first | refine rg 3 (aq3 ?_) | refine rg 8 (aq32 ?_) | (refine rg 9 (aq16 ?_); refine sops_lcall (c4) (fun i => i) (fun i => i) (fun _ => false) (.free rfl rfl) rfl rfl rfl (by ((repeat' (first | exact .nil | refine .cons rfl rfl rfl ?_)) <;> fail)) (.cons rfl rfl (.cons rfl rfl .nil)) (.cons rfl rfl (.cons rfl rfl (.cons rfl rfl .nil))) rfl rfl (fun _ h => Bool.noConfusion h) ?_; refine oN ?_) | refine rg 10 (aq51 ?_) | refine gc ?_ | refine ct ?_ | refine cf ?_ | refine sc ?_ ?_ <;> intro hc | refine retl (by exact .inr rfl) rfl (.tmp rfl rfl .nil) ?_ rfl (.cons rfl (by rfl) rfl (.cons rfl (by rfl) rfl .nil)) (.cons rfl (by rfl) (.cons rfl (by rfl) (.cons rfl (by rfl) .nil))))
        rw [show decide ((0 : Int) ≤ (k : Int)) = true from decide_eq_true hkI]
        rfl
end Go.Proofs.Ytabejnjnkpdjbaa.Sim

/- open of a new tunnel. -/
namespace Go.Proofs.Ytabejnjnkpdjbaa.Sim
set_option linter.unusedVariables false
set_option linter.unusedSimpArgs false
open Go.RowKit Mem
def wXb (b c : Nat) (W : PWk) (x : ATun) : List (Nat × List A) := [(2000, wC 2001 b c W), (2010, (tunR x).map .t)]
set_option maxRecDepth 100000 in
set_option maxHeartbeats 2000000 in
theorem openb_ (W : PWk) (x : ATun) (hd : W.dos.length ≤ 1000000) : LCalls Try.prog 72 [.bp 2000 0, .bp 2010 0] (wXb 2002 2003 W x) (wO 2001 2002 2003 W) (resA []) (wXb 1002 2003 (addD W (opnD x.t)) ⟨sinT W.now x.t, x.u⟩) (wO 2001 1002 2003 (addD W (opnD x.t))) := by
  obtain ⟨wn, wi, wx, now, tuns, dos, fails⟩ := W
  dsimp only at hd
  refine lcalls_of Try.func72 rfl rfl Try.ntmps72 rfl ?_
  unfold wXb wO wC
  refine swp_weak (weak_ren 2002 1002 rfl rfl rfl rfl rfl rfl rfl) ?_
  repeat' (first | (refine rg 0 ?_; refine oMv ?_; refine oMv ?_; refine sp (po_nilcheck rfl rfl) ?_; refine oFb ?_; refine oLb ?_; refine sp (po_nilcheck rfl rfl) ?_; refine oFb ?_; refine oS ?_; refine oN ?_) | refine gc ?_ | refine ct ?_ | refine cf ?_ | refine sc ?_ ?_ <;> intro hc | refine rq rfl .nil ?_)
  refine swp_weak (st' := ⟨[(0, .bp 2000 0), (1, .bp 2010 0)], wXb 1002 2003 ⟨wn, wi, wx, now, tuns, dos, fails⟩ ⟨sinT now x.t, x.u⟩, wO 2001 1002 2003 ⟨wn, wi, wx, now, tuns, dos, fails⟩⟩) (weak_sub (.cons rfl rfl rfl (.cons rfl rfl rfl .nil)) (.cons rfl rfl rfl (.cons rfl rfl rfl .nil)) (.cons rfl rfl (.cons rfl rfl (.cons rfl rfl .nil)))) ?_
  unfold wXb wO wC
  repeat' (first | ((refine swp_any (id := 1) [[], [], [], [], [], [], [], [], [], [], [], [], [], [], [], [], [], [], [], [], [], [], [], [1002], [], [], [2000]] [[1002], [], [], [], [], [], [], [], [], [], [], [], [], [], [], [], [], [], [], [], [], [], [], [], [], [], []] mixed (by kernel_rfl) ?_) <;> refine yp (fun _ _ => po_move rfl rfl) ?_ <;> refine yp (fun _ _ => po_move rfl rfl) ?_ <;> refine yp (fun _ _ => po_nilcheck rfl rfl) ?_ <;> refine yp (fun _ _ => po_field_bx rfl rfl (tyF rfl)) ?_ <;> refine yp (fun _ _ => po_load_bx rfl rfl (tyT rfl) rfl rfl) ?_ <;> refine yp (fun _ _ => po_move rfl rfl) ?_ <;> refine yp (fun _ _ => po_nilcheck rfl rfl) ?_ <;> refine yp (fun _ _ => po_field_bx rfl rfl (tyF rfl)) ?_ <;> refine yp (fun _ _ => po_load_bx rfl rfl (tyT rfl) rfl rfl) ?_ <;> refine yp (fun _ _ => po_move rfl rfl) ?_ <;> refine yp (fun _ _ => po_nilcheck rfl rfl) ?_ <;> refine yp (fun _ _ => po_field_bx rfl rfl (tyF rfl)) ?_ <;> (refine yp (fun _ _ => po_load_bx_agg rfl rfl (tyT rfl) rfl (vc (vc (vc .nil))) rfl) ?_) <;> refine yp (fun _ _ => po_move rfl rfl) ?_ <;> refine yp (fun _ _ => po_nilcheck rfl rfl) ?_ <;> refine yp (fun _ _ => po_field_bx rfl rfl (tyF rfl)) ?_ <;> refine yp (fun _ _ => po_load_bx rfl rfl (tyT rfl) rfl rfl) ?_ <;> refine yp (fun _ _ => po_move rfl rfl) ?_ <;> refine yp (fun _ _ => po_nilcheck rfl rfl) ?_ <;> refine yp (fun _ _ => po_field_bx rfl rfl (tyF rfl)) ?_ <;> (refine yp (fun _ _ => po_load_bx_agg rfl rfl (tyT rfl) rfl (vc (vc (vc .nil))) rfl) ?_) <;> (refine yp (fun _ _ => po_buildS str84 rfl (pc (pc (pc (pc (pc .nil))))) rfl) ?_) <;> refine yp (fun _ _ => po_buildSlice rfl (tyE rfl) (dc (.nil _)) rfl rfl rfl) ?_ <;> refine sany_eff [] [(1002, _)] (.free rfl rfl) rfl rfl (fun _ _ _ _ => e_append rfl rfl rfl (by first | rfl | simp) rfl (by exact .t _) (tyE rfl) (by first | assumption | (simp only [List.length_map, List.length_cons, List.length_nil]; omega)) (by first | assumption | (unfold maxLen; simp only [List.length_map, List.length_cons, List.length_nil]; omega))) ?_ <;> refine yp (fun _ _ => po_nilcheck rfl rfl) ?_ <;> refine yp (fun _ _ => po_field_bx rfl rfl (tyF rfl)) ?_ <;> refine sany_eff [(2000, _)] [] (.free rfl rfl) rfl rfl (fun _ _ _ _ => e_store rfl rfl rfl rfl rfl rfl (tyT rfl) rfl rfl) ?_ <;> refine sany_nil ?_) | refine gc ?_ | refine ct ?_ | refine cf ?_ | refine sc ?_ ?_ <;> intro hc | refine rq rfl .nil ?_)
  refine retl (.inl rfl) rfl .nil rfl rfl (.cons rfl ?_ rfl (.cons rfl rfl rfl .nil)) (.cons rfl rfl (.cons rfl ?_ (.cons rfl rfl .nil)))
  · exact congrArg (fun n => [Sim.A.t (i64T wn), Sim.A.t (u64T wi), Sim.A.t (u64T wx), Sim.A.own 2001 tuns.length, Sim.A.t (u64T now), Sim.A.own 1002 n, Sim.A.own 2003 fails.length]) (doN_app dos (opnD x.t))
  · exact doO_app dos (opnD x.t)
end Go.Proofs.Ytabejnjnkpdjbaa.Sim
