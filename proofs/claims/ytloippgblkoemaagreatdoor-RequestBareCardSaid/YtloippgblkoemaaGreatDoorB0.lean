/- Merged by bundles.py: Mem, PlPath, PlPath2, Mem2, Region, Region2. -/
import Derived.Test.YtloippgblkoemaaGreatDoorRows
import Derived.WalkKit
import Derived.WalkSpells
import Derived.WalkLawsBesides
import Derived.Deep.QuietTactic
import Derived.BigQuiet
import Derived.Deep.RegionHeld3
import Derived.Deep.DeepMust
import Derived.Lib.Hide
import Derived.Laws.EntriesVeiled
import Derived.Laws.ResultCell
import Derived.Deep.LoopGhost
import Derived.Deep.DeepFit
import Derived.Deep.DeepCutAuto
import Derived.Orders
import Derived.Deep.RegionLawGrows
/- Words for memory: a slice that reads as a list. -/
namespace Go.Proofs.YtloippgblkoemaaGreatDoor.Mem
set_option linter.unusedVariables false
set_option linter.unusedSimpArgs false
open Go.RowKit

abbrev Rel (α : Type) := Nat → World → α → List Value → Prop

def SliceAt {α : Type} (R : Rel α) (sz : Nat) (B : Nat) (w : World) (A : Option Addr) (xs : List α) : Prop :=
  ∀ k x, xs[k]? = some x → ∃ b off cs, A = some ⟨b, off, none⟩ ∧ b < B ∧ cs.length = sz ∧ (∀ j v, cs[j]? = some v → w.cell? ⟨b, off + (k * sz + j), none⟩ = some v) ∧ R B w x cs

def Kept {α : Type} (R : Rel α) : Prop := ∀ (B B' : Nat) (w w' : World) (x : α) (cs : List Value), R B w x cs → (∀ p : Addr, p.block < B → w'.cell? p = w.cell? p) → B ≤ B' → R B' w' x cs

theorem SliceAt.keep {α : Type} {R : Rel α} (hR : Kept R) {sz B B' : Nat} {w w' : World} {A : Option Addr} {xs : List α} (h : SliceAt R sz B w A xs) (hk : ∀ p : Addr, p.block < B → w'.cell? p = w.cell? p) (hB : B ≤ B') : SliceAt R sz B' w' A xs := by
  intro k x hx
  obtain ⟨b, off, cs, hA, hb, hl, hc, hr⟩ := h k x hx
  exact ⟨b, off, cs, hA, by omega, hl, fun j v hj => (hk _ hb).trans (hc j v hj), hR _ _ _ _ _ _ hr hk hB⟩

theorem SliceAt.nil {α : Type} {R : Rel α} {sz B : Nat} {w : World} {A : Option Addr} : SliceAt R sz B w A ([] : List α) := by
  intro k x hx; simp at hx

def Lo (w w' : World) : Prop := Below w.heap.size w w'
theorem Lo.refl (w : World) : Lo w w := Below.refl _ _
theorem Lo.size {w w' : World} (h : Lo w w') : w.heap.size ≤ w'.heap.size := Below.size h
theorem Lo.trans {a b c : World} (h : Lo a b) (k : Lo b c) : Lo a c := Below.trans h (Below.mono k h.size)
theorem Lo.drew {a b : World} (h : Lo a b) : Lo a b.drew := Below.drew h
theorem Lo.alloc {a b : World} (h : Lo a b) (o : Obj) : Lo a (b.alloc o) := Below.alloc h h.size o
theorem Lo.cell {w w' : World} (h : Lo w w') (p : Addr) (hp : p.block < w.heap.size) : w'.cell? p = w.cell? p := Below.cell h hp
theorem Lo.cells {B : Nat} {w w' : World} (h : Lo w w') (hB : B ≤ w.heap.size) : ∀ p : Addr, p.block < B → w'.cell? p = w.cell? p := fun _ hp => Below.cell h (Nat.lt_of_lt_of_le hp hB)
theorem SliceAt.lo {α : Type} {R : Rel α} (hR : Kept R) {sz B : Nat} {w w' : World} {A : Option Addr} {xs : List α} (h : SliceAt R sz B w A xs) (hb : Lo w w') (hB : B ≤ w.heap.size) : SliceAt R sz B w' A xs :=
  h.keep hR (hb.cells hB) (Nat.le_refl _)

structure Ext (w0 : World) where
  w : World
  lo : Lo w0 w
@[go_sem] theorem Ext.cell {w0 : World} (x : Ext w0) (b o : Nat) (h : b < w0.heap.size) : x.w.cell? ⟨b, o, none⟩ = w0.cell? ⟨b, o, none⟩ := x.lo.cell ⟨b, o, none⟩ h
@[go_sem] theorem Ext.const {w0 : World} {p : Prop} : (∀ _ : Ext w0, p) = p := propext ⟨fun h => h ⟨w0, Lo.refl _⟩, fun h _ => h⟩
def bs (l : List UInt8) : ByteArray := ⟨l.toArray⟩
theorem bs_toList (l : List UInt8) : (bs l).toList = l := ByteArray.toList_mk l
theorem toList_bs (s : ByteArray) : bs s.toList = s := by
  rw [ByteArray.toList_eq]; rfl
theorem bs_inj {a b : ByteArray} (h : a.toList = b.toList) : a = b := by rw [← toList_bs a, h, toList_bs]
theorem toList_append (a b : ByteArray) : (a ++ b).toList = a.toList ++ b.toList := by
  simp only [ByteArray.toList_eq]; simp [ByteArray.data_append]
theorem bs_size (l : List UInt8) : (bs l).size = l.length := by unfold bs; simp [ByteArray.size]

theorem toList_get (s : ByteArray) (n : Nat) (h : n < s.size) : s.toList[n]? = some s[n] := by
  rw [ByteArray.toList_eq]
  have h' : n < s.data.toList.length := by simpa using h
  rw [List.getElem?_eq_getElem h']; rfl
theorem toList_len (s : ByteArray) : s.toList.length = s.size := by rw [ByteArray.toList_eq]; simp
theorem take_full (s : ByteArray) {n : Nat} (h : ¬ n < s.size) : s.toList.take n = s.toList := List.take_of_length_le (by rw [toList_len]; omega)
theorem all_snoc {s : ByteArray} {p : UInt8 → Bool} {n : Nat} (h : (s.toList.take n).all p = true) (hn : n < s.size) (hp : p s[n] = true) : (s.toList.take (n + 1)).all p = true := by
  have hl : n < s.toList.length := by rw [toList_len]; exact hn
  have hg := toList_get s n hn
  rw [List.getElem?_eq_getElem hl] at hg
  have hg' : s.toList[n] = s[n] := by injection hg
  rw [List.take_succ_eq_append_getElem hl, List.all_append, h]
  simp [hg', hp]
theorem all_bad {s : ByteArray} {p : UInt8 → Bool} {n : Nat} (hn : n < s.size) (hp : p s[n] = false) : s.toList.all p = false := by
  rw [List.all_eq_false]
  have hg := toList_get s n hn
  exact ⟨s[n], List.mem_of_getElem? hg, by simp [hp]⟩


theorem lo_keep {a b : World} {p : Addr} {v : Value} (h : Lo a b) (hv : a.cell? p = some v) : b.cell? p = some v := (h.cell p (World.block_lt_of_cell? a p hv)).trans hv
theorem block_lt {w : World} {b : Nat} {o : Obj} (h : w.heap[b]? = some o) : b < w.heap.size := by
  rcases Nat.lt_or_ge b w.heap.size with h' | h'
  · exact h'
  · rw [Array.getElem?_eq_none h'] at h; cases h
end Go.Proofs.YtloippgblkoemaaGreatDoor.Mem

/- Targets' paths, in plain Lean. -/
namespace Go.Proofs.YtloippgblkoemaaGreatDoor.Pth
set_option linter.unusedVariables false
set_option linter.unusedSimpArgs false
open Mem
abbrev L8 := List UInt8
def dig (c : UInt8) : Int := if 48 ≤ c.toNat ∧ c.toNat ≤ 57 then (c.toNat : Int) - 48 else if 97 ≤ c.toNat ∧ c.toNat ≤ 102 then (c.toNat : Int) - 97 + 10 else if 65 ≤ c.toNat ∧ c.toNat ≤ 70 then (c.toNat : Int) - 65 + 10 else -1
theorem dig_rng (c : UInt8) : -1 ≤ dig c ∧ dig c ≤ 15 := by unfold dig; split <;> (try split) <;> (try split) <;> omega
def plainB (c : UInt8) : Bool := (decide (97 ≤ c.toNat) && decide (c.toNat ≤ 122)) || (decide (65 ≤ c.toNat) && decide (c.toNat ≤ 90)) || (decide (48 ≤ c.toNat) && decide (c.toNat ≤ 57)) || [45, 46, 95, 126].any (· == c)
def hiddenB (c : UInt8) : Bool := decide (c.toNat < 32) || decide (c.toNat = 127) || decide (c.toNat = 47) || decide (c.toNat = 92)
def badC (c : UInt8) : Bool := decide (c.toNat < 33) || decide (126 < c.toNat) || [34, 35, 60, 62, 92, 94, 96, 123, 124, 125].any (· == c)
def pctB : L8 → Bool
  | a :: b :: _ => decide (0 ≤ dig a) && decide (0 ≤ dig b)
  | _ => false
def okL : L8 → Bool
  | [] => true
  | c :: l => !badC c && (!decide (c = 37) || pctB l) && okL l
def mayL (s : L8) : Bool := decide (s.length ≤ 512) && decide (s.head? = some 47) && okL s
def hexU (n : Int) : UInt8 := if n < 10 then (48 + n).toNat.toUInt8 else (55 + n).toNat.toUInt8
def num2 (a b : UInt8) : UInt8 := (16 * dig a + dig b).toNat.toUInt8
def saidL (bad : UInt8 → Bool) : L8 → L8 × Bool
  | [] => ([], true)
  | c :: l => if c = 37 then match l with
      | a :: b :: l' =>
        if bad (num2 a b) then ([], false)
        else if plainB (num2 a b) then (num2 a b :: (saidL bad l').1, (saidL bad l').2)
        else (37 :: hexU (dig a) :: hexU (dig b) :: (saidL bad l').1, (saidL bad l').2)
      | _ => ([], true)
    else (c :: (saidL bad l).1, (saidL bad l).2)
def splL : L8 → List L8
  | [] => [[]]
  | c :: l => if c = 47 then [] :: splL l else match splL l with
    | [] => [[c]]
    | h :: t => (c :: h) :: t
def dotB (s : L8) : Bool := decide (s = []) || decide (s = [46]) || decide (s = [46, 46])
def keep1 (left : List L8) (s : L8) : Option (List L8) := if s = [46, 46] then (if left = [] then none else some left.dropLast) else if dotB s then some left else some (left ++ [s])
def keptF : List L8 → Bool → List L8 → Option (List L8 × Bool)
  | left, dir, [] => some (left, dir)
  | left, _, s :: l => match keep1 left s with
    | none => none
    | some left' => keptF left' (dotB s) l
def keptL (road : L8) : Option (List L8 × Bool) := (keptF [] false (splL (road.drop 1))).map fun x => (x.1, x.2 && decide (x.1 ≠ []))
def joinL (dir : Bool) (l : List L8) : L8 := 47 :: ([47] : L8).intercalate l ++ (if dir && decide (l ≠ []) then [47] else [])
def cutL (s : L8) : L8 × L8 := (s.takeWhile (· != 63), (s.dropWhile (· != 63)).drop 1)
def normL (s : L8) : Option (L8 × L8) :=
  if mayL s then
    match keptL (saidL hiddenB (cutL s).1).1 with
    | none => none
    | some (left, dir) => if (saidL hiddenB (cutL s).1).2 then some (joinL dir left, (saidL (fun _ => false) (cutL s).2).1) else none
  else none
theorem splL_cons (c : UInt8) (l : L8) : splL (c :: l) = if c = 47 then [] :: splL l else match splL l with
    | [] => [[c]]
    | h :: t => (c :: h) :: t := rfl
theorem splL_yes : ∀ l : L8, l.findIdx (· == 47) < l.length → splL l = l.take (l.findIdx (· == 47)) :: splL (l.drop (l.findIdx (· == 47) + 1))
  | [], h => by simp at h
  | c :: l, h => by
    rw [List.findIdx_cons] at h ⊢
    rw [splL_cons]
    by_cases hc : c = 47
    · subst hc; simp
    · rw [if_neg hc]
      have e : (c == 47) = false := by simpa using hc
      rw [e] at h ⊢
      simp only [cond_false, List.length_cons] at h ⊢
      rw [splL_yes l (by omega)]
      simp
theorem splL_no : ∀ l : L8, ¬ l.findIdx (· == 47) < l.length → splL l = [l]
  | [], _ => rfl
  | c :: l, h => by
    rw [List.findIdx_cons] at h
    rw [splL_cons]
    by_cases hc : c = 47
    · subst hc; simp at h
    · rw [if_neg hc]
      have e : (c == 47) = false := by simpa using hc
      rw [e] at h
      simp only [cond_false, List.length_cons] at h
      rw [splL_no l (by omega)]
theorem splL_ne (l : L8) : splL l ≠ [] := by
  by_cases h : l.findIdx (· == 47) < l.length
  · rw [splL_yes l h]; simp
  · rw [splL_no l h]; simp
end Go.Proofs.YtloippgblkoemaaGreatDoor.Pth

/- Targets' paths: plain lemmas. -/
namespace Go.Proofs.YtloippgblkoemaaGreatDoor.Pth
set_option linter.unusedVariables false
set_option linter.unusedSimpArgs false
open Mem
theorem okL_cons (c : UInt8) (l : L8) : okL (c :: l) = (!badC c && (!decide (c = 37) || pctB l) && okL l) := rfl
theorem okL_drop {l : L8} (h : okL l = true) : ∀ n, okL (l.drop n) = true := by
  intro n
  induction n generalizing l with
  | zero => simpa using h
  | succ n ih =>
    cases l with
    | nil => rfl
    | cons c l =>
      rw [okL_cons, Bool.and_eq_true] at h
      exact ih h.2
theorem dig_ne {a : UInt8} (h : 0 ≤ dig a) : a ≠ 63 := by
  rintro rfl
  exact absurd h (by decide)
theorem pct_take {l : L8} (h : pctB l = true) : pctB (l.takeWhile (· != 63)) = true := by
  match l, h with
  | a :: b :: l, h =>
    have h' : (decide (0 ≤ dig a) && decide (0 ≤ dig b)) = true := h
    rw [Bool.and_eq_true, decide_eq_true_eq, decide_eq_true_eq] at h'
    have ha : (a != 63) = true := by simpa using dig_ne h'.1
    have hb : (b != 63) = true := by simpa using dig_ne h'.2
    rw [List.takeWhile_cons, if_pos ha, List.takeWhile_cons, if_pos hb]
    exact h
theorem okL_take {l : L8} (h : okL l = true) : okL (l.takeWhile (· != 63)) = true := by
  induction l with
  | nil => rfl
  | cons c l ih =>
    rw [okL_cons, Bool.and_eq_true, Bool.and_eq_true] at h
    rw [List.takeWhile_cons]
    split
    · rw [okL_cons, Bool.and_eq_true, Bool.and_eq_true]
      refine ⟨⟨h.1.1, ?_⟩, ih h.2⟩
      have := h.1.2
      rw [Bool.or_eq_true] at this ⊢
      exact this.imp id pct_take
    · rfl
theorem okL_dropW {l : L8} (p : UInt8 → Bool) (h : okL l = true) : okL (l.dropWhile p) = true := by
  induction l with
  | nil => rfl
  | cons c l ih =>
    rw [List.dropWhile_cons]
    split
    · rw [okL_cons, Bool.and_eq_true] at h
      exact ih h.2
    · exact h
theorem cut_ok {l : L8} (h : okL l = true) : okL (cutL l).1 = true ∧ okL (cutL l).2 = true := ⟨okL_take h, okL_drop (okL_dropW _ h) 1⟩
theorem saidL_cons {bad : UInt8 → Bool} {c : UInt8} {l : L8} (h : c ≠ 37) : saidL bad (c :: l) = (c :: (saidL bad l).1, (saidL bad l).2) := by
  match l with
  | a :: b :: l' => rw [saidL, if_neg h]
  | [] => simp [saidL, h]
  | [x] => rw [saidL, if_neg h]; intro a b l' e; cases e
theorem saidL_pct {bad : UInt8 → Bool} {a b : UInt8} {l : L8} : saidL bad (37 :: a :: b :: l) = if bad (num2 a b) then ([], false) else if plainB (num2 a b) then (num2 a b :: (saidL bad l).1, (saidL bad l).2) else (37 :: hexU (dig a) :: hexU (dig b) :: (saidL bad l).1, (saidL bad l).2) := by
  rw [saidL, if_pos rfl]
theorem saidL_len (bad : UInt8 → Bool) : ∀ l : L8, (saidL bad l).1.length ≤ l.length
  | [] => by simp [saidL]
  | [c] => by
    by_cases h : c = 37
    · subst h; simp [saidL]
    · rw [saidL_cons h]; simp [saidL]
  | [c, a] => by
    by_cases h : c = 37
    · subst h; simp [saidL]
    · rw [saidL_cons h]
      have := saidL_len bad [a]
      simpa using this
  | c :: a :: b :: l => by
    by_cases h : c = 37
    · subst h
      rw [saidL_pct]
      have := saidL_len bad l
      split
      · simp
      · split <;> simp <;> omega
    · rw [saidL_cons h]
      have := saidL_len bad (a :: b :: l)
      simpa using this
def tot (l : List L8) : Nat := (l.map (·.length)).sum + l.length
theorem tot_cons (s : L8) (l : List L8) : tot (s :: l) = s.length + 1 + tot l := by unfold tot; simp; omega
theorem tot_snoc (l : List L8) (s : L8) : tot (l ++ [s]) = tot l + s.length + 1 := by unfold tot; simp; omega
theorem tot_splL (l : L8) : tot (splL l) = l.length + 1 := by
  induction l with
  | nil => rfl
  | cons c l ih =>
    rw [splL_cons]
    split
    · rw [tot_cons, ih]; simp; omega
    · have hn := splL_ne l
      match hq : splL l, hn with
      | h :: t, _ => rw [hq, tot_cons] at ih; rw [tot_cons]; simp; omega
theorem tot_dropLast (l : List L8) : tot l.dropLast ≤ tot l := by
  rcases List.eq_nil_or_concat l with rfl | ⟨l', s, rfl⟩
  · simp
  · simp [tot_snoc]; omega
theorem tot_keep {l l' : List L8} {s : L8} (h : keep1 l s = some l') : tot l' ≤ tot l + s.length + 1 := by
  unfold keep1 at h
  split at h
  · split at h
    · cases h
    · injection h with h; subst h; have := tot_dropLast l; omega
  · split at h
    · injection h with h; subst h; omega
    · injection h with h; subst h; rw [tot_snoc]; omega
theorem tot_keptF : ∀ (l : List L8) (left : List L8) (dir : Bool) (r : List L8 × Bool), keptF left dir l = some r → tot r.1 ≤ tot left + tot l
  | [], left, dir, r, h => by injection h with h; subst h; exact Nat.le_add_right _ _
  | s :: l, left, dir, r, h => by
    unfold keptF at h
    cases hk : keep1 left s with
    | none => rw [hk] at h; cases h
    | some left' =>
      rw [hk] at h
      have := tot_keptF l left' _ r h
      have h2 := tot_keep hk
      rw [tot_cons]; omega
theorem tot_keptL {s : L8} (hs : 1 ≤ s.length) {r : List L8 × Bool} (h : keptL s = some r) : tot r.1 ≤ s.length := by
  unfold keptL at h
  obtain ⟨x, hx, rfl⟩ := Option.map_eq_some_iff.1 h
  have := tot_keptF _ _ _ _ hx
  rw [tot_splL, List.length_drop] at this
  simp only [tot, List.map_nil, List.sum_nil, List.length_nil] at this ⊢
  omega
theorem inter_len : ∀ l : List L8, (([47] : L8).intercalate l).length + 1 ≤ tot l + 1
  | [] => by simp [List.intercalate]
  | [x] => by simp [List.intercalate, tot]
  | x :: y :: l => by
    have := inter_len (y :: l)
    rw [tot_cons]
    simp only [List.intercalate, List.intersperse, List.flatten_cons, List.length_append, List.length_cons, List.length_nil] at this ⊢
    omega
theorem head_cut {l : L8} (h : l.head? = some 47) : (cutL l).1.head? = some 47 ∧ 1 ≤ (cutL l).1.length := by
  match l, h with
  | c :: l, h =>
    have hc : c = 47 := by simpa using h
    subst hc
    unfold cutL
    dsimp only
    rw [List.takeWhile_cons, if_pos (by decide)]
    exact ⟨rfl, by simp⟩
theorem said_head {bad : UInt8 → Bool} {l : L8} (h : l.head? = some 47) : (saidL bad l).1.head? = some 47 ∧ 1 ≤ (saidL bad l).1.length := by
  match l, h with
  | c :: l, h =>
    have hc : c = 47 := by simpa using h
    subst hc
    rw [saidL_cons (by decide)]
    exact ⟨rfl, by simp⟩
theorem cut_len (l : L8) : (cutL l).1.length ≤ l.length ∧ (cutL l).2.length ≤ l.length := by
  unfold cutL
  dsimp only
  refine ⟨(List.takeWhile_sublist _).length_le, ?_⟩
  rw [List.length_drop]
  have := (List.dropWhile_sublist (· != 63) (l := l)).length_le
  omega
theorem may_parts {l : L8} (h : mayL l = true) : l.length ≤ 512 ∧ l.head? = some 47 ∧ okL l = true := by
  unfold mayL at h
  rw [Bool.and_eq_true, Bool.and_eq_true, decide_eq_true_eq, decide_eq_true_eq] at h
  exact ⟨h.1.1, h.1.2, h.2⟩
theorem cut_idx (l : L8) : cutL l = (l.take (l.findIdx (· == 63)), l.drop (l.findIdx (· == 63) + 1)) := by
  unfold cutL
  induction l with
  | nil => rfl
  | cons c l ih =>
    rw [List.takeWhile_cons, List.dropWhile_cons, List.findIdx_cons]
    by_cases h : c = 63
    · subst h; simp
    · have h1 : (c != 63) = true := by simpa using h
      have h2 : (c == 63) = false := by simpa using h
      rw [if_pos h1, if_pos h1, h2]
      injection ih with i1 i2
      simp only [cond_false]
      rw [i1, i2]; simp
end Go.Proofs.YtloippgblkoemaaGreatDoor.Pth

/- Words for memory, more: a row's cells; rows of the call's own. -/
namespace Go.Proofs.YtloippgblkoemaaGreatDoor.Mem
set_option linter.unusedVariables false
set_option linter.unusedSimpArgs false
open Go.RowKit

theorem SliceAt.flat {α : Type} {R : Rel α} {sz B : Nat} {w : World} {A : Option Addr} {xs : List α} (h : SliceAt R sz B w A xs) (h0 : 0 < xs.length) (hsz : 0 < sz) :
    ∃ (b off : Nat) (cells : List Value), A = some ⟨b, off, none⟩ ∧ b < B ∧ cells.length = xs.length * sz ∧ (∀ (j : Nat) v, cells[j]? = some v → w.cell? ⟨b, off + j, none⟩ = some v) ∧
      ∀ k x, xs[k]? = some x → R B w x ((cells.drop (k * sz)).take sz) := by
  obtain ⟨b, off, cs0, rfl, hb, -, -, -⟩ := h 0 xs[0] (List.getElem?_eq_getElem h0)
  have hat : ∀ k x, xs[k]? = some x → ∃ cs, cs.length = sz ∧ (∀ j v, cs[j]? = some v → w.cell? ⟨b, off + (k * sz + j), none⟩ = some v) ∧ R B w x cs := by
    intro k x hx
    obtain ⟨b', off', cs, hA, _, hl, hc, hr⟩ := h k x hx
    injection hA with hA; injection hA with h1 h2; subst h1 h2
    exact ⟨cs, hl, hc, hr⟩
  have hlen : ((List.range (xs.length * sz)).map fun j => (w.cell? ⟨b, off + j, none⟩).getD undef).length = xs.length * sz := by simp
  refine ⟨b, off, (List.range (xs.length * sz)).map fun j => (w.cell? ⟨b, off + j, none⟩).getD undef, rfl, hb, hlen, ?_, ?_⟩
  · intro j v hj
    rw [List.getElem?_map] at hj
    have hjl : j < xs.length * sz := by
      rcases Nat.lt_or_ge j (xs.length * sz) with h' | h'
      · exact h'
      · rw [List.getElem?_eq_none (by simpa using h')] at hj; cases hj
    rw [List.getElem?_range hjl] at hj
    simp only [Option.map_some, Option.some.injEq] at hj
    have hk : j / sz < xs.length := Nat.div_lt_of_lt_mul (by rw [Nat.mul_comm]; exact hjl)
    obtain ⟨cs, hl, hc, _⟩ := hat (j / sz) xs[j / sz] (List.getElem?_eq_getElem hk)
    have hm : j % sz < cs.length := by rw [hl]; exact Nat.mod_lt _ hsz
    have := hc (j % sz) cs[j % sz] (List.getElem?_eq_getElem hm)
    rw [show j / sz * sz + j % sz = j from by rw [Nat.mul_comm]; exact Nat.div_add_mod j sz] at this
    rw [this] at hj ⊢
    simp at hj; rw [hj]
  · intro k x hx
    obtain ⟨cs, hl, hc, hr⟩ := hat k x hx
    have hk : k < xs.length := (List.getElem?_eq_some_iff.1 hx).1
    have hkk : (k + 1) * sz ≤ xs.length * sz := Nat.mul_le_mul_right sz hk
    rw [Nat.succ_mul] at hkk
    have e : ((((List.range (xs.length * sz)).map fun j => (w.cell? ⟨b, off + j, none⟩).getD undef).drop (k * sz)).take sz) = cs := by
      refine List.ext_getElem? fun j => ?_
      by_cases hj : j < sz
      · rw [List.getElem?_take_of_lt hj, List.getElem?_drop, List.getElem?_map, List.getElem?_range (by omega)]
        have hjc : cs[j]? = some (cs[j]'(by omega)) := List.getElem?_eq_getElem (by omega)
        rw [Option.map_some, hc j _ hjc, hjc]; rfl
      · rw [List.getElem?_eq_none (by simp; omega), List.getElem?_eq_none (by omega)]
    rw [e]; exact hr
theorem addr_add (b off j : Nat) : (⟨b, off, none⟩ : Addr).add j = ⟨b, off + j, none⟩ := by
  unfold Addr.add; split <;> simp_all
theorem Lo.grown {a b c : World} {row : Option Nat} (h : Lo a b) (hg : b.grownBy c row) (hr : ∀ k, row = some k → a.heap.size ≤ k) : Lo a c := Below.grown h hg h.size hr
theorem Lo.of_grown {a b : World} (hg : a.grownBy b none) : Lo a b := (Lo.refl a).grown hg (by simp)

end Go.Proofs.YtloippgblkoemaaGreatDoor.Mem

/- A region that draws its order and makes memory: each operation is shown once, in whatever state its predecessors allow; a tail whose order is forced goes last. -/
namespace Go.Proofs.YtloippgblkoemaaGreatDoor.Mem
set_option linter.unusedVariables false
set_option linter.unusedSimpArgs false
open Go.RowKit

def writer (ops : Array Oper) (s : Nat) : Option Nat := (List.range ops.size).find? fun i => decide (((ops[i]?).bind (·.dst)) = some s)
def frame (ops : Array Oper) (a0 : Act) (vals : Nat → Option Value) : Act :=
  { a0 with tmps := a0.tmps.mapIdx fun s old => match writer ops s with | some i => (vals i).getD old | none => old }
def setV (vals : Nat → Option Value) (i : Nat) (v : Value) : Nat → Option Value := fun j => if j = i then some v else vals j
theorem setV_same (vals : Nat → Option Value) (i : Nat) (v : Value) : setV vals i v i = some v := by simp [setV]
theorem setV_other (vals : Nat → Option Value) {i j : Nat} (h : j ≠ i) (v : Value) : setV vals i v j = vals j := by simp [setV, h]

theorem writer_spec {ops : Array Oper} {s i : Nat} (h : writer ops s = some i) : ((ops[i]?).bind (·.dst)) = some s := by
  unfold writer at h
  have := List.find?_some h
  simpa using this
theorem frame_put {ops : Array Oper} {a0 : Act} {vals : Nat → Option Value} {i d : Nat} (hw : writer ops d = some i) (v : Value) :
    (frame ops a0 vals).put (some d) v = frame ops a0 (setV vals i v) := by
  unfold frame Act.put
  simp only
  congr 1
  refine Array.ext (by simp) fun s h1 h2 => ?_
  simp only [Array.size_setIfInBounds, Array.size_mapIdx] at h1
  rw [Array.getElem_setIfInBounds (by simpa using h1)]
  simp only [Array.getElem_mapIdx]
  by_cases hs : d = s
  · subst hs
    simp [hw, setV]
  · rw [if_neg hs]
    cases hws : writer ops s with
    | none => rfl
    | some j =>
      have hj : j ≠ i := by
        rintro rfl
        have h1 := writer_spec hws
        have h2 := writer_spec hw
        rw [h1] at h2; injection h2 with h2; exact hs h2.symm
      simp [setV, hj]
theorem frame_put_none {ops : Array Oper} {a0 : Act} {vals : Nat → Option Value} {i : Nat} (hw : ∀ s, writer ops s ≠ some i) (v u : Value) :
    (frame ops a0 vals).put none u = frame ops a0 (setV vals i v) := by
  unfold frame Act.put
  simp only
  congr 1
  refine Array.ext (by simp) fun s h1 h2 => ?_
  simp only [Array.getElem_mapIdx]
  cases hws : writer ops s with
  | none => rfl
  | some j =>
    have hj : j ≠ i := by rintro rfl; exact hw s hws
    simp [setV, hj]

def isOn (listed : Array Bool) (i : Nat) : Bool := listed.getD i false

theorem wpAny_inv {P : Program} {md : Region.Mode} {ops : Array Oper} {Q : Exit → Act → World → Prop} (Inv : Array Bool → Act → World → Prop)
    (hstep : ∀ listed a w i, Inv listed a w → listed.size = ops.size → i ∈ Region.ready md ops listed → wpOp P ops Q i (fun a' w' => Inv (listed.setIfInBounds i true) a' w') a w)
    (hend : ∀ listed a w, Inv listed a w → Region.ready md ops listed = [] → Q .normal a w) :
    ∀ (fuel : Nat) (listed : Array Bool) (a : Act) (w : World), Inv listed a w → listed.size = ops.size → listed.toList.countP (fun b => !b) ≤ fuel → wpAny P md ops Q fuel listed a w
  | 0, listed, a, w, hI, hs, hc => by
    have hr : Region.ready md ops listed = [] := by
      unfold Region.ready
      rw [List.filter_eq_nil_iff]
      intro i hi
      rw [List.mem_range] at hi
      have hall : ∀ b ∈ listed.toList, ¬ (!b) = true := by
        have : listed.toList.countP (fun b => !b) = 0 := by omega
        rwa [List.countP_eq_zero] at this
      have hb := hall (listed[i]'(by omega)) (by simp)
      have : listed.getD i true = true := by
        rw [Array.getD_eq_getD_getElem?, Array.getElem?_eq_getElem (by omega)]
        simpa using hb
      simp [this]
    exact ⟨hr, hend _ _ _ hI hr⟩
  | fuel + 1, listed, a, w, hI, hs, hc => by
    refine ⟨fun hr => hend _ _ _ hI hr, fun i hi => ?_⟩
    have hi' := hi
    unfold Region.ready at hi'
    rw [List.mem_filter, List.mem_range] at hi'
    obtain ⟨hlt, hcond⟩ := hi'
    simp only [Bool.and_eq_true, Bool.not_eq_true'] at hcond
    have hf : listed[i]'(by omega) = false := by
      have := hcond.1
      rw [Array.getD_eq_getD_getElem?, Array.getElem?_eq_getElem (by omega)] at this
      simpa using this
    have hcount : (listed.setIfInBounds i true).toList.countP (fun b => !b) ≤ fuel := by
      have hil : i < listed.toList.length := by simp; omega
      have hsplit : listed.toList = listed.toList.take i ++ false :: listed.toList.drop (i + 1) := by
        have h1 := (List.take_append_drop i listed.toList).symm
        rw [List.drop_eq_getElem_cons hil] at h1
        have h2 : listed.toList[i] = false := by simpa using hf
        rw [h2] at h1
        exact h1
      have hset : (listed.setIfInBounds i true).toList = listed.toList.take i ++ true :: listed.toList.drop (i + 1) := by
        rw [Array.toList_setIfInBounds, List.set_eq_take_append_cons_drop, if_pos hil]
      rw [hset]
      rw [hsplit] at hc
      simp only [List.countP_append, List.countP_cons] at hc ⊢
      simp at hc ⊢
      omega
    exact wpOp_mono (fun a' w' h => wpAny_inv Inv hstep hend fuel _ a' w' h (by simp [hs]) hcount) (hstep listed a w i hI hs hi)

def deps (ops : Array Oper) (i : Nat) : List Nat := ((ops[i]?).map fun o => (o.after.toList.filter (Region.binds .any)).map (·.on)).getD []
def clos (ops : Array Oper) : Nat → Nat → List Nat
  | 0, _ => []
  | n + 1, i => (deps ops i).flatMap fun j => j :: clos ops n j
def forcedB (ops : Array Oper) (N : Nat) : Bool := (List.range ops.size).all fun k => ((deps ops k).all fun j => decide (j < k)) && (decide (k < N) || (List.range k).all fun j => (clos ops (ops.size + 1) k).contains j)
def Closed (ops : Array Oper) (listed : Array Bool) : Prop := ∀ i j, isOn listed i = true → j ∈ deps ops i → isOn listed j = true
theorem Closed.clos {ops : Array Oper} {listed : Array Bool} (h : Closed ops listed) : ∀ (n i j : Nat), (∀ k ∈ deps ops i, isOn listed k = true) → j ∈ Mem.clos ops n i → isOn listed j = true
  | 0, i, j, _, hj => by simp [Mem.clos] at hj
  | n + 1, i, j, hd, hj => by
    simp only [Mem.clos, List.mem_flatMap, List.mem_cons] at hj
    obtain ⟨k, hk, rfl | hj⟩ := hj
    · exact hd _ hk
    · exact Closed.clos h n k j (fun m hm => h k m (hd k hk) hm) hj
theorem ready_spec {ops : Array Oper} {listed : Array Bool} {i : Nat} (h : i ∈ Region.ready .any ops listed) : i < ops.size ∧ isOn listed i = false ∧ ∀ j ∈ deps ops i, isOn listed j = true := by
  unfold Region.ready at h
  rw [List.mem_filter, List.mem_range] at h
  obtain ⟨hlt, hc⟩ := h
  simp only [Bool.and_eq_true, Bool.not_eq_true'] at hc
  obtain ⟨h1, h2⟩ := hc
  refine ⟨hlt, ?_, ?_⟩
  · unfold isOn
    rw [Array.getD_eq_getD_getElem?] at h1 ⊢
    cases he : listed[i]? with
    | none => rfl
    | some b => rw [he] at h1; simpa using h1
  · intro j hj
    unfold deps at hj
    rw [Array.getElem?_eq_getElem hlt] at hj h2
    simp only [Option.map_some, Option.getD_some, List.mem_map, List.mem_filter] at hj h2
    obtain ⟨e, ⟨he, hb⟩, rfl⟩ := hj
    rw [Array.all_eq_true_iff_forall_mem] at h2
    have := h2 e (by simpa using he)
    simpa [hb, isOn] using this
theorem isOn_set {listed : Array Bool} {i j : Nat} (hi : i < listed.size) : isOn (listed.setIfInBounds i true) j = (decide (j = i) || isOn listed j) := by
  unfold isOn
  rw [Array.getD_eq_getD_getElem?, Array.getD_eq_getD_getElem?, Array.getElem?_setIfInBounds]
  by_cases h : i = j
  · subst h; simp [hi]
  · rw [if_neg h]
    have : ¬ j = i := fun e => h e.symm
    simp [this]

theorem wp_region_spec {P : Program} {id : Nat} {ops : Array Oper} {Q : Exit → Act → World → Prop} {a0 : Act} {w : World} (N : Nat) (Φ : Nat → Value → World → Prop)
    (hm : P.follows .mixedOrders = true) (hN : N ≤ ops.size) (hforced : forcedB ops N = true) (ha : frame ops a0 (fun _ => none) = a0)
    (hstable : ∀ i v w1 w2, Φ i v w1 → Lo w1 w2 → Φ i v w2)
    (hspec : ∀ i, i < N → ∀ vals w', Lo w w' → (∀ k, N ≤ k → vals k = none) → (∀ j ∈ deps ops i, ∃ v, vals j = some v ∧ Φ j v w') →
      wpOp P ops Q i (fun a' w'' => ∃ v, a' = frame ops a0 (setV vals i v) ∧ Lo w' w'' ∧ Φ i v w'') (frame ops a0 vals) w')
    (hfin : ∀ vals w', Lo w w' → (∀ i, i < N → ∃ v, vals i = some v ∧ Φ i v w') → (∀ i, N ≤ i → vals i = none) → wpOps P ops Q (List.range' N (ops.size - N)) (frame ops a0 vals) w') :
    (Code.region id ops true).wp P Q a0 w := by
  refine wp_region_any hm (wpAny_inv (fun listed a w' =>
      Closed ops listed ∧ listed.size = ops.size ∧
      ((∃ vals, a = frame ops a0 vals ∧ Lo w w' ∧ (∀ i, isOn listed i = (vals i).isSome) ∧ (∀ i v, i < N → vals i = some v → Φ i v w') ∧ (∀ i, N ≤ i → vals i = none)) ∨
       (∃ m, N ≤ m ∧ m ≤ ops.size ∧ (∀ i, isOn listed i = decide (i < m)) ∧ wpOps P ops Q (List.range' m (ops.size - m)) a w'))) ?_ ?_ _ _ _ _ ⟨?_, by simp, .inl ⟨fun _ => none, ha.symm, (Lo.refl w).drew, ?_, ?_, fun _ _ => rfl⟩⟩ (by simp) ?_)
  · rintro listed a w' i ⟨hcl, hsz, hI⟩ _ hr
    obtain ⟨hlt, hoff, hdeps⟩ := ready_spec hr
    have hcl' : Closed ops (listed.setIfInBounds i true) := by
      intro x y hx hy
      rw [isOn_set (by omega)] at hx ⊢
      by_cases hxi : x = i
      · subst hxi; rw [hdeps y hy]; simp
      · simp [hxi] at hx
        rw [hcl x y hx hy]; simp
    have htail : ∀ k, N ≤ k → k < ops.size → (∀ j ∈ deps ops k, isOn listed j = true) → ∀ j, j < k → isOn listed j = true := by
      intro k hk hks hd j hj
      unfold forcedB at hforced
      rw [List.all_eq_true] at hforced
      have h1 := hforced k (by simpa using hks)
      simp only [Bool.and_eq_true, Bool.or_eq_true, decide_eq_true_eq] at h1
      rcases h1.2 with h1 | h1
      · omega
      · rw [List.all_eq_true] at h1
        have h2 := h1 j (by simpa using hj)
        exact hcl.clos _ k j hd (by simpa using h2)
    rcases hI with ⟨vals, rfl, hlo, hon, hphi, hnone⟩ | ⟨m, hNm, hmn, hon, hwp⟩
    · by_cases hiN : i < N
      · have hd : ∀ j ∈ deps ops i, ∃ v, vals j = some v ∧ Φ j v w' := by
          intro j hj
          have h1 := hdeps j hj
          rw [hon j] at h1
          obtain ⟨v, hv⟩ := Option.isSome_iff_exists.1 h1
          have hjN : j < N := by
            rcases Nat.lt_or_ge j N with h | h
            · exact h
            · rw [hnone j h] at hv; cases hv
          exact ⟨v, hv, hphi j v hjN hv⟩
        refine wpOp_mono ?_ (hspec i hiN vals w' hlo hnone hd)
        rintro a' w'' ⟨v, rfl, hl, hp⟩
        refine ⟨hcl', by simpa using hsz, .inl ⟨setV vals i v, rfl, hlo.trans hl, ?_, ?_, ?_⟩⟩
        · intro x
          rw [isOn_set (by omega)]
          by_cases hx : x = i
          · subst hx; simp [setV]
          · simp [setV, hx, hon x]
        · intro x u hx hu
          by_cases hxi : x = i
          · subst hxi; simp [setV] at hu; subst hu; exact hp
          · simp [setV, hxi] at hu; exact hstable _ _ _ _ (hphi x u hx hu) hl
        · intro x hx
          have : x ≠ i := by omega
          simp [setV, this, hnone x hx]
      · have hall := htail i (by omega) hlt hdeps
        have hiN' : i = N := by
          rcases Nat.lt_or_ge N i with h | h
          · have := hall N h
            rw [hon N, hnone N (Nat.le_refl _)] at this; cases this
          · omega
        subst hiN'
        have hv : ∀ x, x < i → ∃ v, vals x = some v ∧ Φ x v w' := by
          intro x hx
          have h1 := hall x hx
          rw [hon x] at h1
          obtain ⟨v, hv⟩ := Option.isSome_iff_exists.1 h1
          exact ⟨v, hv, hphi x v hx hv⟩
        have hwp := hfin vals w' hlo hv hnone
        have hsplit : List.range' i (ops.size - i) = i :: List.range' (i + 1) (ops.size - (i + 1)) := by
          rw [show ops.size - i = (ops.size - (i + 1)) + 1 from by omega, List.range'_succ]
        rw [hsplit, wpOps_cons] at hwp
        refine wpOp_mono ?_ hwp
        intro a' w'' h
        refine ⟨hcl', by simpa using hsz, .inr ⟨i + 1, by omega, by omega, ?_, h⟩⟩
        intro x
        rw [isOn_set (by omega), hon x]
        by_cases hx : x = i
        · subst hx; simp
        · rcases Nat.lt_or_ge x i with h | h
          · obtain ⟨v, hv, _⟩ := hv x h
            simp [hv]; omega
          · rw [hnone x h]; simp [hx]; omega
    · have hm' : m = i := by
        have h1 := hon i
        rw [hoff] at h1
        have hmi : m ≤ i := by simpa using h1.symm
        rcases Nat.lt_or_ge m i with h | h
        · have := htail i (by omega) hlt hdeps m h
          rw [hon m] at this; simp at this
        · omega
      subst hm'
      have hsplit : List.range' m (ops.size - m) = m :: List.range' (m + 1) (ops.size - (m + 1)) := by
        rw [show ops.size - m = (ops.size - (m + 1)) + 1 from by omega, List.range'_succ]
      rw [hsplit, wpOps_cons] at hwp
      refine wpOp_mono ?_ hwp
      intro a' w'' h
      refine ⟨hcl', by simpa using hsz, .inr ⟨m + 1, by omega, by omega, ?_, h⟩⟩
      intro x
      rw [isOn_set (by omega), hon x, Bool.eq_iff_iff]
      simp; omega
  · rintro listed a w' ⟨hcl, hsz, hI⟩ hr
    have hall : ∀ k, ∀ i, i < k → i < ops.size → isOn listed i = true := by
      intro k
      induction k with
      | zero => intro i hi; omega
      | succ k ih =>
        intro i hi hs
        rcases Nat.lt_or_ge i k with h | h
        · exact ih i h hs
        · have hik : i = k := by omega
          subst hik
          rcases Bool.eq_false_or_eq_true (isOn listed i) with h1 | h1
          · exact h1
          · exfalso
            have hlt : ∀ j ∈ deps ops i, j < i := by
              unfold forcedB at hforced
              rw [List.all_eq_true] at hforced
              have h2 := hforced i (by simpa using hs)
              simp only [Bool.and_eq_true] at h2
              have h3 := h2.1
              rw [List.all_eq_true] at h3
              intro j hj; simpa using h3 j hj
            have hmem : i ∈ Region.ready .any ops listed := by
              unfold Region.ready
              rw [List.mem_filter, List.mem_range]
              refine ⟨hs, ?_⟩
              simp only [Bool.and_eq_true, Bool.not_eq_true']
              constructor
              · unfold isOn at h1
                rw [Array.getD_eq_getD_getElem?, Array.getElem?_eq_getElem (by omega)] at h1 ⊢
                simpa using h1
              · rw [Array.getElem?_eq_getElem hs]
                simp only [Option.map_some, Option.getD_some]
                rw [Array.all_eq_true_iff_forall_mem]
                intro e he
                rcases Bool.eq_false_or_eq_true (Region.binds .any e) with hb | hb
                · have hj : e.on ∈ deps ops i := by
                    unfold deps
                    rw [Array.getElem?_eq_getElem hs]
                    simp only [Option.map_some, Option.getD_some, List.mem_map, List.mem_filter]
                    exact ⟨e, ⟨by simpa using he, hb⟩, rfl⟩
                  have := ih e.on (hlt _ hj) (by have := hlt _ hj; omega)
                  unfold isOn at this
                  simp [this]
                · simp [hb]
            rw [hr] at hmem; cases hmem
    rcases hI with ⟨vals, rfl, hlo, hon, hphi, hnone⟩ | ⟨m, hNm, hmn, hon, hwp⟩
    · have hNs : N = ops.size := by
        rcases Nat.lt_or_ge N ops.size with h | h
        · have := hall (N + 1) N (by omega) h
          rw [hon N, hnone N (Nat.le_refl _)] at this; cases this
        · omega
      have hv : ∀ x, x < N → ∃ v, vals x = some v ∧ Φ x v w' := by
        intro x hx
        have h1 := hall (x + 1) x (by omega) (by omega)
        rw [hon x] at h1
        obtain ⟨v, hv⟩ := Option.isSome_iff_exists.1 h1
        exact ⟨v, hv, hphi x v hx hv⟩
      have := hfin vals w' hlo hv hnone
      rw [hNs] at this
      simpa [wpOps] using this
    · have hms : m = ops.size := by
        rcases Nat.lt_or_ge m ops.size with h | h
        · have := hall (m + 1) m (by omega) h
          rw [hon m] at this; simp at this
        · omega
      subst hms
      simpa [wpOps] using hwp
  · intro i j h
    unfold isOn at h
    rw [Array.getD_eq_getD_getElem?] at h
    simp only [Array.getElem?_replicate] at h
    split at h <;> cases h
  · intro i
    unfold isOn
    rw [Array.getD_eq_getD_getElem?]
    simp only [Array.getElem?_replicate]
    split <;> rfl
  · intro i v _ h; cases h
  · simp [List.countP_replicate]

theorem frame_none (ops : Array Oper) (a0 : Act) : frame ops a0 (fun _ => none) = a0 := by
  unfold frame
  have : (a0.tmps.mapIdx fun s old => match writer ops s with | some i => ((fun _ => none : Nat → Option Value) i).getD old | none => old) = a0.tmps := by
    refine Array.ext (by simp) fun s h1 h2 => ?_
    simp only [Array.getElem_mapIdx]
    cases writer ops s <;> rfl
  rw [this]
theorem frame_eval {ops : Array Oper} {a0 : Act} {vals : Nat → Option Value} {i t : Nat} {v : Value} (hw : writer ops t = some i) (hv : vals i = some v) (ht : t < a0.tmps.size) : (frame ops a0 vals).eval (.tmp t) = v := by
  show (frame ops a0 vals).tmps.getD t undef = v
  unfold frame
  simp only
  rw [Array.getD_eq_getD_getElem?, Array.getElem?_eq_getElem (by simpa using ht)]
  simp [hw, hv]
theorem frame_old {ops : Array Oper} {a0 : Act} {vals : Nat → Option Value} {t : Nat} (hw : writer ops t = none) : (frame ops a0 vals).eval (.tmp t) = a0.eval (.tmp t) := by
  show (frame ops a0 vals).tmps.getD t undef = a0.tmps.getD t undef
  unfold frame
  simp only
  rw [Array.getD_eq_getD_getElem?, Array.getD_eq_getD_getElem?, Array.getElem?_mapIdx]
  cases h : a0.tmps[t]? <;> simp [hw]
theorem frame_old' {ops : Array Oper} {a0 : Act} {vals : Nat → Option Value} {t N : Nat} (hw : ((writer ops t).all fun j => decide (N ≤ j)) = true) (hn : ∀ k, N ≤ k → vals k = none) : (frame ops a0 vals).eval (.tmp t) = a0.eval (.tmp t) := by
  cases h : writer ops t with
  | none => exact frame_old h
  | some j =>
    rw [h] at hw
    have hj : N ≤ j := by simpa using hw
    show (frame ops a0 vals).tmps.getD t undef = a0.tmps.getD t undef
    unfold frame
    simp only
    rw [Array.getD_eq_getD_getElem?, Array.getD_eq_getD_getElem?, Array.getElem?_mapIdx]
    cases h' : a0.tmps[t]? <;> simp [h, hn j hj]
def dstOf (ops : Array Oper) (i : Nat) : Option Tmp := (ops[i]?).bind (·.dst)
theorem foldl_frame {ops : Array Oper} {a0 : Act} {v : Nat → Value} (hu : ∀ i d, i < ops.size → dstOf ops i = some d → writer ops d = some i) : ∀ k, k ≤ ops.size →
    (List.range k).foldl (fun a i => a.put (dstOf ops i) (v i)) a0 = frame ops a0 (fun i => if i < k then some (v i) else none)
  | 0, _ => by simp [frame_none]
  | k + 1, hk => by
    rw [List.range_succ, List.foldl_append, foldl_frame hu k (by omega)]
    simp only [List.foldl_cons, List.foldl_nil]
    have e : setV (fun i => if i < k then some (v i) else none) k (v k) = fun i => if i < k + 1 then some (v i) else none := by
      funext j
      unfold setV
      by_cases h : j = k
      · subst h; simp
      · rw [if_neg h]
        show (if j < k then some (v j) else none) = _
        by_cases h2 : j < k
        · rw [if_pos h2, if_pos (by omega)]
        · rw [if_neg h2, if_neg (by omega)]
    cases hd : dstOf ops k with
    | some d => rw [frame_put (hu k d (by omega) hd), e]
    | none =>
      rw [frame_put_none (v := v k) (fun s hs => ?_) (v k), e]
      have := writer_spec hs
      unfold dstOf at hd
      rw [hd] at this; cases this

theorem wp_of_run {P : Program} {o : Oper} {a : Act} {w w' : World} {K : Act → World → Prop} {Q : Exit → Act → World → Prop} {v : Value} (hrun : (execOp a.eval o).run P w = .ok (.value v) w') (h : K (a.put o.dst v) w') : o.wp P a w K Q := by
  unfold Oper.wp; rw [hrun]; exact h
theorem run_append_nothing {P : Program} {w : World} (t ty e : TypeId) (i : TypeInfo) (ht : P.underlying t = some (.slice e)) (hi : P.info? e = some i) (ao ax : Option Addr) (n cap c : Nat) (h : n ≤ cap) :
    (Builtin.append_ #[t, t] ty #[.slice ao n cap, .slice ax 0 c]).run P w = .ok (.slice ao n cap) w := by
  cases ao <;> cases ax <;> simp [Builtin.append_, run_underlying ht, sizeOf, typeInfo, hi, Builtin.lenOf, Builtin.firstCells, h, storeCells, loadCells, loadCellsFrom]
theorem Lo.grownBy {a b : World} (h : Lo a b) (row : Option Nat) : a.grownBy b row := ⟨h.os, h.tape, h.output, h.size, fun i hi _ => Below.block h i hi⟩
theorem Lo.owns {a b : World} {base : Nat} {e : TypeId} {size : Nat} {v : Value} {n : Nat} {xs : List Value} (h : Lo a b) (ho : a.ownsRow base e size v n xs) : b.ownsRow base e size v n xs := by
  refine ho.kept (h.grownBy none) ?_
  cases hv : v.ownBlock with
  | none => exact .inl rfl
  | some g => exact .inr (by simp)
theorem Lo.block {a b : World} (h : Lo a b) {n : Nat} {o : Obj} (hn : a.heap[n]? = some o) : b.heap[n]? = some o := (Below.block h n (block_lt hn)).trans hn
end Go.Proofs.YtloippgblkoemaaGreatDoor.Mem

/- A region that draws its order and makes memory, guarded operations among them: each operation is shown once. -/
namespace Go.Proofs.YtloippgblkoemaaGreatDoor.Mem
set_option linter.unusedVariables false
set_option linter.unusedSimpArgs false
open Go.RowKit

theorem wanted_at {ops : Array Oper} {o : Oper} {a : Act} {j d : Nat} {want b : Bool} (hg : o.guard = some (j, want)) (hd : dstOf ops j = some d) (hv : a.eval (.tmp d) = .bool b) : Region.wanted o (yielded ops a.tmps) = (b == want) := by
  have hv' : a.tmps.getD d undef = .bool b := hv
  unfold Region.wanted
  rw [hg]
  simp only
  have : yielded ops a.tmps j = some b := by
    unfold yielded
    unfold dstOf at hd
    rw [hd]
    simp only [Option.bind_some]
    rw [Array.getD_eq_getD_getElem?] at hv'
    cases h : a.tmps[d]? with
    | none => rw [h] at hv'; cases hv'
    | some x => rw [h] at hv'; simp only [Option.getD_some] at hv'; rw [hv']
  rw [this]
  cases b <;> cases want <;> rfl
theorem wanted_free {o : Oper} {f : Nat → Option Bool} (hg : o.guard = none) : Region.wanted o f = true := by unfold Region.wanted; rw [hg]

theorem wp_call_of {P : Program} {o : Oper} {a : Act} {w : World} {K : Act → World → Prop} {Q : Exit → Act → World → Prop} {f : FuncId} {args : Array Value} {R : Ending → World → Prop}
    (hrun : (execOp a.eval o).run P w = .ok (.enter f args) w) (hc : Calls P f args w R) (h : ∀ e w', R e w' → ∃ v, e = .returned v ∧ K (a.put o.dst v) w') : o.wp P a w K Q := by
  unfold Oper.wp
  rw [hrun, Oper.upon_enter]
  refine hc.mono fun e w' hr => ?_
  obtain ⟨v, rfl, hk⟩ := h e w' hr
  exact hk

end Go.Proofs.YtloippgblkoemaaGreatDoor.Mem
