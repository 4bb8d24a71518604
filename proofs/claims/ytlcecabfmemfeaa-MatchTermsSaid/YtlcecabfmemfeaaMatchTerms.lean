/- For every term, every row of terms and every text, the law MatchTerms returns true: the ways joined. -/
import Derived.Test.YtlcecabfmemfeaaTerms2
namespace Go.Proofs.Ytlcecabfmemfeaa.MatchTerms
set_option linter.unusedVariables false
set_option linter.unusedSimpArgs false
open Go.RowKit Mem BigFrame WMatch

set_option maxHeartbeats 1600000 in
theorem walk_l1 (A : Option Addr) (cap : Nat) (ts : List Pl.Term) (k : Int) (t s : ByteArray) (w : World) (hA : Terms w.heap.size w A ts) (hn : ts.length ≤ maxLen) (zt : t.size ≤ maxLen) (zs : s.size ≤ maxLen) (hl1 : Pl.longT s ts = true) :
    Calls Try.prog 7 #[.agg #[.int .i64 k, .string t], .slice A ts.length cap, .string s] w fun e w' => e = .returned (.bool true) ∧ Lo w w' := by
  have HL1 := Lib.hid hl1
  clear hl1
  go_enter Try.func7, Try.ntmps7
  go_wp2_with fail
  refine (long s _ cap ts _ ?_ zs hn).mono ?_
  · exact (hA.lo ((Lo.refl _).alloc _) (Nat.le_refl _)).keep TermR.kept (fun _ _ => rfl) (by simp)
  rw [HL1.out]
  rintro e w' ⟨rfl, rfl⟩
  go_wp2_with (go_at_call 17; refine (awake _).mono ?_; rintro e w4 ⟨rfl, hb⟩)
  go_ret
  exact ⟨rfl, (by repeat (first | exact Lo.refl _ | assumption | refine Lo.drew ?_ | refine Lo.alloc ?_ _ | refine Lo.setCell ?_ (by first | (dsimp only; omega) | (simp; omega) | (simp; done)) _ | refine Lo.trans ?_ (by assumption)))⟩
set_option maxHeartbeats 1600000 in
theorem walk_l2 (A : Option Addr) (cap : Nat) (ts : List Pl.Term) (k : Int) (t s : ByteArray) (w : World) (hA : Terms w.heap.size w A ts) (hn : ts.length ≤ maxLen) (zt : t.size ≤ maxLen) (zs : s.size ≤ maxLen) (hl1 : Pl.longT s ts = false) (hl2 : Pl.longT s [⟨k, t⟩] = true) :
    Calls Try.prog 7 #[.agg #[.int .i64 k, .string t], .slice A ts.length cap, .string s] w fun e w' => e = .returned (.bool true) ∧ Lo w w' := by
  have HL1 := Lib.hid hl1
  have HL2 := Lib.hid hl2
  clear hl1 hl2
  go_enter Try.func7, Try.ntmps7
  go_wp2_with fail
  refine (long s _ cap ts _ ?_ zs hn).mono ?_
  · exact (hA.lo ((Lo.refl _).alloc _) (Nat.le_refl _)).keep TermR.kept (fun _ _ => rfl) (by simp)
  rw [HL1.out]
  rintro e w' ⟨rfl, rfl⟩
  go_wp2_with fail
  refine (long s (some ⟨w.heap.size + 1, 0, none⟩) 1 [⟨k, t⟩] _ (Terms.of_new (ts := [⟨k, t⟩]) (heap_new_at (by simp)) (by simp [zt])) zs (by simp [maxLen])).mono ?_
  rw [HL2.out]
  rintro e w' ⟨rfl, rfl⟩
  go_wp2_with (go_at_call 17; refine (awake _).mono ?_; rintro e w4 ⟨rfl, hb⟩)
  go_ret
  exact ⟨rfl, (by repeat (first | exact Lo.refl _ | assumption | refine Lo.drew ?_ | refine Lo.alloc ?_ _ | refine Lo.setCell ?_ (by first | (dsimp only; omega) | (simp; omega) | (simp; done)) _ | refine Lo.trans ?_ (by assumption)))⟩
theorem walk (k : Int) (t : ByteArray) (A : Option Addr) (cap : Nat) (ts : List Pl.Term) (s : ByteArray) (w : World) (zt : t.size ≤ maxLen) (hA : Terms w.heap.size w A ts) (hn : ts.length ≤ maxLen) (zs : s.size ≤ maxLen) :
    Calls Try.prog 7 #[.agg #[.int .i64 k, .string t], .slice A ts.length cap, .string s] w fun e w' => e = .returned (.bool true) ∧ Lo w w' := by
  cases hl1 : Pl.longT s ts with
  | true => exact walk_l1 A cap ts k t s w hA hn zt zs hl1
  | false =>
    cases hl2 : Pl.longT s [⟨k, t⟩] with
    | true => exact walk_l2 A cap ts k t s w hA hn zt zs hl1 hl2
    | false =>
      cases ts with
      | nil =>
        cases hm : Pl.may k t.toList <;> cases hp : Pl.parse s.toList
        · exact walk_nil_f_n A cap k t s w zt zs hl1 hl2 hm hp
        · exact walk_nil_f_s A cap k t s w zt zs hl1 hl2 hm _ hp
        · exact walk_nil_t_n A cap k t s w zt zs hl1 hl2 hm hp
        · exact walk_nil_t_s A cap k t s w zt zs hl1 hl2 hm _ hp
      | cons x r =>
        obtain ⟨b, off, rfl, _⟩ := hA.at_ (k := 0) (by simp)
        have h60 : (x :: r).length ≤ 60 := by
          unfold Pl.longT at hl1
          simp only [Bool.or_eq_false_iff, decide_eq_false_iff_not] at hl1
          omega
        cases hm : Pl.may k t.toList <;> cases hp : Pl.parse s.toList
        · exact walk_some_f_n b off cap (x :: r) k t s w hA (by simp) zt zs h60 hl1 hl2 hm hp
        · exact walk_some_f_s b off cap (x :: r) k t s w hA (by simp) zt zs h60 hl1 hl2 hm _ hp
        · exact walk_some_t_n b off cap (x :: r) k t s w hA (by simp) zt zs h60 hl1 hl2 hm hp
        · exact walk_some_t_s b off cap (x :: r) k t s w hA (by simp) zt zs h60 hl1 hl2 hm _ hp
end Go.Proofs.Ytlcecabfmemfeaa.MatchTerms
