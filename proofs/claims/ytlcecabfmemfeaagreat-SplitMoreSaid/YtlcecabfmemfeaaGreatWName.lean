/- The walks of name: MayLabel, May, Print. -/
import Derived.Test.YtlcecabfmemfeaaGreatWMatch
import Derived.Laws.RangeAny
namespace Go.Proofs.YtlcecabfmemfeaaGreat.WName
set_option linter.unusedVariables false
set_option linter.unusedSimpArgs false
open Go.RowKit Mem BigFrame

/-- may a label's letter be c, the i-th of n? -/
def lcN (n i c : Nat) : Bool := decide (97 ≤ c ∧ c ≤ 122) || decide (48 ≤ c ∧ c ≤ 57) || (decide (c = 45) && decide (i ≠ 0 ∧ i + 1 ≠ n))
def lcs (s : ByteArray) (i : Nat) : Bool := lcN s.size i ((s.toList.getD i 0).toNat)
def label (s : ByteArray) : Bool := (List.range s.size).all (lcs s) && decide (1 ≤ s.size) && decide (s.size ≤ 20)
theorem label_bad {s : ByteArray} {i : Nat} (hi : i < s.size) (h : lcs s i = false) : label s = false := by
  have : (List.range s.size).all (lcs s) = false := by
    rw [List.all_eq_false]; exact ⟨i, by simpa using hi, by simp [h]⟩
  simp [label, this]
theorem lcs_at {s : ByteArray} {i : Nat} (hi : i < s.size) : lcs s i = lcN s.size i (s[i]'hi).toNat := by
  unfold lcs
  rw [List.getD_eq_getElem?_getD, toList_get s i hi]; rfl
theorem range_more {f : Nat → Bool} {i : Nat} (h : (List.range i).all f = true) (hi : f i = true) : (List.range (i + 1)).all f = true := by
  rw [List.range_succ, List.all_append, h]; simp [hi]

theorem edge_or {a b c : Int} (h : (a == 0) = true ∨ (b == c) = true) : a = 0 ∨ b = c := by simpa only [beq_iff_eq] using h
theorem edge_and {a b c : Int} (h : (a == 0) = false ∧ (b == c) = false) : ¬ a = 0 ∧ ¬ b = c := by simpa only [beq_eq_false_iff_ne, ne_eq] using h

set_option maxRecDepth 100000 in
set_option maxHeartbeats 1600000 in
theorem mayLabel (s : ByteArray) (w : World) (hs : s.size ≤ maxLen) : Calls Tryz.prog 132 #[.string s] w fun e w' => e = .returned (.bool (label s)) ∧ Lo w w' := by
  unfold maxLen at hs
  have hlo : ∀ pos, Lo w (w.iter s pos) := fun pos => (Lo.refl w).alloc _
  have HL := Lib.hid hlo
  clear hlo
  go_enter Tryz.func132, Tryz.ntmps132
  go_wp2
  go_loopw [3] (fun _ w' => ∃ pos : Nat, w' = w.iter s pos ∧ pos ≤ s.size ∧ Hid ((List.range pos).all (lcs s) = true)) (fun _ w' => s.size - w'.iterPos w.heap.size)
  case atStart => exact ⟨0, rfl, Nat.zero_le _, Lib.hid rfl⟩
  case round =>
    obtain ⟨pos, rfl, hle, hall⟩ := hrel
    by_cases hp : pos < s.size
    · have hat := lcs_at hp
      by_cases ha : (s[pos]'hp).toNat < 128
      · have hnx : ∀ ty, (Instr.next (.pointer (some ⟨w.heap.size, 0, none⟩)) true ty).run Tryz.prog (w.iter s pos) = _ := fun ty => run_next_ascii w s pos ty hp ha
        have HAT := Lib.hid hat
        clear hat
        generalize (s[pos]'hp).toNat = c at *
        go_wp2
        all_goals
          (try have q1 : (c : Int) = 45 := eq_of_beq (by assumption))
          (try have q2 : ¬ (c : Int) = 45 := ne_of_beq_false (by assumption))
          (try have q3 : (pos : Int) = 0 := eq_of_beq (by assumption))
          (try have q4 : ¬ (pos : Int) = 0 := ne_of_beq_false (by assumption))
          (try have q5 : (pos : Int) + 1 = s.size := eq_of_beq (by assumption))
          (try have q7 := edge_or (by assumption))
          (try have q8 := edge_and (by assumption))
          (try have q6 : ¬ (pos : Int) + 1 = s.size := ne_of_beq_false (by assumption))
          first
            | (go_ret
               exact ⟨ret_bool (label_bad hp (by rw [HAT.out]; unfold lcN; simp only [Bool.or_eq_false_iff, Bool.and_eq_false_iff, decide_eq_false_iff_not]; omega)).symm, HL.out _⟩)
            | (refine ⟨⟨pos + 1, by first | rfl | (congr 1; omega), by omega, Lib.hid (range_more hall.out (by rw [HAT.out]; unfold lcN; simp only [Bool.or_eq_true, Bool.and_eq_true, decide_eq_true_eq]; omega))⟩, by simp; omega⟩)
            | (exfalso; omega)
            | (exfalso; rename_i hl; simp at hl; omega)
      · have hdh := decode_high s pos hp (by omega)
        have hnx : ∀ ty, (Instr.next (.pointer (some ⟨w.heap.size, 0, none⟩)) true ty).run Tryz.prog (w.iter s pos) = _ := fun ty => run_next_any w s pos ty hp
        have hf : lcs s pos = false := by
          rw [hat]; unfold lcN; simp only [Bool.or_eq_false_iff, Bool.and_eq_false_iff, decide_eq_false_iff_not]; omega
        have HF := Lib.hid (label_bad hp hf)
        clear hat hf
        generalize (Utf8.decode s pos).1 = c at *
        generalize (Utf8.decode s pos).2 = d at *
        have hc2 : ((c : Int) == 45) = false := by rw [beq_eq_false_iff_ne]; omega
        go_wp2
        all_goals first
          | (exfalso; omega)
          | (go_ret
             exact ⟨ret_bool HF.out.symm, HL.out _⟩)
          | (exfalso; rename_i hl; simp at hl; omega)
    · have hnx : ∀ ty, (Instr.next (.pointer (some ⟨w.heap.size, 0, none⟩)) true ty).run Tryz.prog (w.iter s pos) = _ := fun ty => run_next_end w s pos ty hp
      have hpe : pos = s.size := by omega
      have hlb : label s = (decide (1 ≤ s.size) && decide (s.size ≤ 20)) := by
        have := hall.out
        rw [hpe] at this
        unfold label; rw [this]; rfl
      have HLB := Lib.hid hlb
      clear hlb hpe
      go_wp2
      all_goals
        go_ret
        exact ⟨ret_bool (by rw [HLB.out, Bool.eq_iff_iff]; simp only [Bool.and_eq_true, decide_eq_true_eq, Bool.false_eq_true, iff_false, false_iff, true_iff, iff_true]; omega), HL.out _⟩

def mayN (ns sa : ByteArray) : Bool := label ns && label sa
set_option maxHeartbeats 800000 in
theorem mayName (ns sa : ByteArray) (w : World) (zn : ns.size ≤ maxLen) (zs : sa.size ≤ maxLen) : Calls Tryz.prog 118 #[.agg #[.string ns, .string sa]] w fun e w' => e = .returned (.bool (mayN ns sa)) ∧ Lo w w' := by
  unfold mayN
  obtain ⟨x, hx⟩ : ∃ x, label ns = x := ⟨_, rfl⟩
  obtain ⟨y, hy⟩ : ∃ y, label sa = y := ⟨_, rfl⟩
  have C1 : ∀ W, Calls Tryz.prog 132 #[.string ns] W fun e w' => e = .returned (.bool x) ∧ Lo W w' := fun W => by rw [← hx]; exact mayLabel ns W zn
  have C2 : ∀ W, Calls Tryz.prog 132 #[.string sa] W fun e w' => e = .returned (.bool y) ∧ Lo W w' := fun W => by rw [← hy]; exact mayLabel sa W zs
  rw [hx, hy]
  have H1 := Lib.hid C1
  have H2 := Lib.hid C2
  clear C1 C2 hx hy
  cases x
  all_goals
    go_enter Tryz.func118, Tryz.ntmps118
    go_wp2_with (go_at_call 132; first
      | ((with_reducible refine (H1.out _).mono ?_); rintro e w1 ⟨rfl, hb⟩; obtain ⟨hc, hf, hz⟩ := hb.facts; have hz0 := hz w.heap.size (by first | assumption | (simp; done) | (simp; omega)); have hq0 := fun o => hc w.heap.size o (by first | assumption | (simp; done) | (simp; omega)))
      | ((with_reducible refine (H2.out _).mono ?_); rintro e w1 ⟨rfl, hb⟩; obtain ⟨hc, hf, hz⟩ := hb.facts; have hz0 := hz w.heap.size (by first | assumption | (simp; done) | (simp; omega)); have hq0 := fun o => hc w.heap.size o (by first | assumption | (simp; done) | (simp; omega))))
    go_ret
    exact ⟨ret_bool (by simp), (by repeat (first | exact Lo.refl _ | assumption | refine Lo.drew ?_ | refine Lo.alloc ?_ _ | refine Lo.setCell ?_ (by first | (dsimp only; omega) | (simp; omega) | (simp; done)) _ | refine Lo.trans ?_ (by assumption)))⟩

def pre1 : ByteArray := ⟨#[115, 112, 105, 102, 102, 101, 58, 47, 47, 109, 101, 115, 104, 47, 110, 115, 47]⟩
def pre2 : ByteArray := ⟨#[47, 115, 97, 47]⟩
/-- a name's text, none where it may not be -/
def nameText (ns sa : ByteArray) : ByteArray := if mayN ns sa then pre1 ++ ns ++ pre2 ++ sa else ⟨#[]⟩
theorem mayN_len {ns sa : ByteArray} (h : mayN ns sa = true) : ns.size ≤ 20 ∧ sa.size ≤ 20 := by
  simp [mayN, label] at h; omega
theorem nameText_len (ns sa : ByteArray) : (nameText ns sa).size ≤ 61 := by
  unfold nameText
  split
  · rename_i h
    have := mayN_len h
    have h1 : pre1.size = 17 := rfl
    have h2 : pre2.size = 4 := rfl
    simp [h1, h2]; omega
  · exact Nat.zero_le _
set_option maxHeartbeats 800000 in
theorem printName (ns sa : ByteArray) (w : World) (zn : ns.size ≤ maxLen) (zs : sa.size ≤ maxLen) : Calls Tryz.prog 90 #[.agg #[.string ns, .string sa]] w fun e w' => e = .returned (.tuple #[.string (nameText ns sa), .int .i64 (if mayN ns sa then 0 else 1)]) ∧ Lo w w' := by
  unfold nameText
  obtain ⟨x, hx⟩ : ∃ x, mayN ns sa = x := ⟨_, rfl⟩
  have C1 : ∀ W, Calls Tryz.prog 118 #[.agg #[.string ns, .string sa]] W fun e w' => e = .returned (.bool x) ∧ Lo W w' := fun W => by rw [← hx]; exact mayName ns sa W zn zs
  have H1 := Lib.hid C1
  rw [hx]
  cases x with
  | false =>
    clear C1 hx
    go_enter Tryz.func90, Tryz.ntmps90
    go_wp2_with (go_at_call 118; refine (H1.out _).mono ?_; rintro e w1 ⟨rfl, hb⟩; obtain ⟨hc, hf, hz⟩ := hb.facts; have hz0 := hz w.heap.size (by first | assumption | (simp; done) | (simp; omega)); have hq0 := fun o => hc w.heap.size o (by first | assumption | (simp; done) | (simp; omega)))
    go_ret2
    exact ⟨rfl, (by repeat (first | exact Lo.refl _ | assumption | refine Lo.drew ?_ | refine Lo.alloc ?_ _ | refine Lo.setCell ?_ (by first | (dsimp only; omega) | (simp; omega) | (simp; done)) _ | refine Lo.trans ?_ (by assumption)))⟩
  | true =>
    have hl := mayN_len hx
    have h1 : pre1.size = 17 := rfl
    have h2 : pre2.size = 4 := rfl
    clear C1 hx
    go_enter Tryz.func90, Tryz.ntmps90
    go_wp2_with (go_at_call 118; refine (H1.out _).mono ?_; rintro e w1 ⟨rfl, hb⟩; obtain ⟨hc, hf, hz⟩ := hb.facts; have hz0 := hz w.heap.size (by first | assumption | (simp; done) | (simp; omega)); have hq0 := fun o => hc w.heap.size o (by first | assumption | (simp; done) | (simp; omega)))
    go_ret2
    exact ⟨rfl, (by repeat (first | exact Lo.refl _ | assumption | refine Lo.drew ?_ | refine Lo.alloc ?_ _ | refine Lo.setCell ?_ (by first | (dsimp only; omega) | (simp; omega) | (simp; done)) _ | refine Lo.trans ?_ (by assumption)))⟩
end Go.Proofs.YtlcecabfmemfeaaGreat.WName
