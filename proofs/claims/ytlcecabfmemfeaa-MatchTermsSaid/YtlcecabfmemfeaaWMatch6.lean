/- The walks of chapter 7's functions, sixth part: Beside as a whole, Implies, term, Print. -/
import Derived.Test.YtlcecabfmemfeaaWMatch5
namespace Go.Proofs.Ytlcecabfmemfeaa.WMatch
set_option linter.unusedVariables false
set_option linter.unusedSimpArgs false
open Go.RowKit Mem BigFrame

def besV (b : Option Pl.Bs) : Value := .tuple #[.string (bs (b.getD [])), .bool b.isSome]

theorem beside (ka : Int) (sa : ByteArray) (kb : Int) (sb : ByteArray) (w : World) (ha : sa.size ≤ maxLen) (hb : sb.size ≤ maxLen) :
    Calls Try.prog 19 #[.agg #[.int .i64 ka, .string sa], .agg #[.int .i64 kb, .string sb]] w fun e w' => e = .returned (besV (Pl.beside ka sa.toList kb sb.toList)) ∧ Lo w w' := by
  unfold Pl.beside
  cases hma : Pl.may ka sa.toList with
  | false => exact beside_no ka sa kb sb w ha hb hma
  | true =>
    rw [if_pos rfl]
    have hl := may_size hma
    have z1 : (⟨#[120]⟩ : ByteArray).size ≤ maxLen := by decide
    have z2 : (⟨#[121]⟩ : ByteArray).size ≤ maxLen := by decide
    have s1 : (⟨#[120]⟩ : ByteArray).size = 1 := rfl
    have s2 : (⟨#[121]⟩ : ByteArray).size = 1 := rfl
    rcases Pl.may_kinds hma with rfl | rfl | rfl | rfl
    · have hc : ∀ c, Pl.cand 1 sa.toList c = some sa.toList := fun c => rfl
      simp only [Pl.letters, Pl.besFind, hc]
      cases hm : Pl.matches_ kb sb.toList sa.toList with
      | false => have := beside_1_0 sa kb sb w ha hb hma hl hm ha; simpa [besV, bs0, toList_bs] using this
      | true => have := beside_1_3 sa kb sb w ha hb hma hl hm ha; simpa [besV, bs0] using this
    · have hc : ∀ c, Pl.cand 2 sa.toList c = some (sa.toList ++ c) := fun c => rfl
      simp only [Pl.letters, Pl.besFind, hc]
      have e0 : sa.toList ++ [] = (sa ++ (⟨#[]⟩ : ByteArray)).toList := by rw [app_nil]; simp
      have e1 : sa.toList ++ [120] = (sa ++ (⟨#[120]⟩ : ByteArray)).toList := by rw [toList_append, tl120]
      have e2 : sa.toList ++ [121] = (sa ++ (⟨#[121]⟩ : ByteArray)).toList := by rw [toList_append, tl121]
      rw [e0, e1, e2]
      have y0 : (sa ++ (⟨#[]⟩ : ByteArray)).size ≤ maxLen := by rw [app_nil]; exact ha
      have y1 : (sa ++ (⟨#[120]⟩ : ByteArray)).size ≤ maxLen := by rw [size_app, s1]; unfold maxLen; omega
      have y2 : (sa ++ (⟨#[121]⟩ : ByteArray)).size ≤ maxLen := by rw [size_app, s2]; unfold maxLen; omega
      cases hm0 : Pl.matches_ kb sb.toList (sa ++ (⟨#[]⟩ : ByteArray)).toList with
      | false => have := beside_2_0 sa kb sb w ha hb hma hl hm0 y0; simpa [besV, bs0, toList_bs] using this
      | true =>
        cases hm1 : Pl.matches_ kb sb.toList (sa ++ (⟨#[120]⟩ : ByteArray)).toList with
        | false => have := beside_2_1 sa kb sb w ha hb hma hl hm0 y0 hm1 y1; simpa [besV, bs0, toList_bs] using this
        | true =>
          cases hm2 : Pl.matches_ kb sb.toList (sa ++ (⟨#[121]⟩ : ByteArray)).toList with
          | false => have := beside_2_2 sa kb sb w ha hb hma hl hm0 y0 hm1 y1 hm2 y2; simpa [besV, bs0, toList_bs] using this
          | true => have := beside_2_3 sa kb sb w ha hb hma hl hm0 y0 hm1 y1 hm2 y2; simpa [besV, bs0, toList_bs] using this
    · have hc : ∀ c, Pl.cand 3 sa.toList c = some (c ++ sa.toList) := fun c => rfl
      simp only [Pl.letters, Pl.besFind, hc]
      have e0 : [] ++ sa.toList = ((⟨#[]⟩ : ByteArray) ++ sa).toList := by rw [nil_app]; simp
      have e1 : [120] ++ sa.toList = ((⟨#[120]⟩ : ByteArray) ++ sa).toList := by rw [toList_append, tl120]
      have e2 : [121] ++ sa.toList = ((⟨#[121]⟩ : ByteArray) ++ sa).toList := by rw [toList_append, tl121]
      rw [e0, e1, e2]
      have y0 : ((⟨#[]⟩ : ByteArray) ++ sa).size ≤ maxLen := by rw [nil_app]; exact ha
      have y1 : ((⟨#[120]⟩ : ByteArray) ++ sa).size ≤ maxLen := by rw [size_app, s1]; unfold maxLen; omega
      have y2 : ((⟨#[121]⟩ : ByteArray) ++ sa).size ≤ maxLen := by rw [size_app, s2]; unfold maxLen; omega
      cases hm0 : Pl.matches_ kb sb.toList ((⟨#[]⟩ : ByteArray) ++ sa).toList with
      | false => have := beside_3_0 sa kb sb w ha hb hma hl hm0 y0; simpa [besV, bs0, toList_bs] using this
      | true =>
        cases hm1 : Pl.matches_ kb sb.toList ((⟨#[120]⟩ : ByteArray) ++ sa).toList with
        | false => have := beside_3_1 sa kb sb w ha hb hma hl hm0 y0 hm1 y1; simpa [besV, bs0, toList_bs] using this
        | true =>
          cases hm2 : Pl.matches_ kb sb.toList ((⟨#[121]⟩ : ByteArray) ++ sa).toList with
          | false => have := beside_3_2 sa kb sb w ha hb hma hl hm0 y0 hm1 y1 hm2 y2; simpa [besV, bs0, toList_bs] using this
          | true => have := beside_3_3 sa kb sb w ha hb hma hl hm0 y0 hm1 y1 hm2 y2; simpa [besV, bs0, toList_bs] using this
    · simp only [Pl.letters, Pl.besFind, Pl.cand]
      have b1 : bs [120] = ⟨#[120]⟩ := rfl
      have b2 : bs [121] = ⟨#[121]⟩ := rfl
      cases hm1 : Pl.matches_ kb sb.toList [120] with
      | false => have := beside_4_1 sa kb sb w ha hb hma hl (by rw [tl120]; exact hm1) z1; simpa [besV, hm1, b1] using this
      | true =>
        cases hm2 : Pl.matches_ kb sb.toList [121] with
        | false => have := beside_4_2 sa kb sb w ha hb hma hl (by rw [tl120]; exact hm1) z1 (by rw [tl121]; exact hm2) z2; simpa [besV, hm1, hm2, b2] using this
        | true => have := beside_4_3 sa kb sb w ha hb hma hl (by rw [tl120]; exact hm1) z1 (by rw [tl121]; exact hm2) z2; simpa [besV, hm1, hm2, bs0] using this

theorem implies (ka : Int) (sa : ByteArray) (kb : Int) (sb : ByteArray) (w : World) (ha : sa.size ≤ maxLen) (hb : sb.size ≤ maxLen) :
    Calls Try.prog 20 #[.agg #[.int .i64 ka, .string sa], .agg #[.int .i64 kb, .string sb]] w fun e w' => e = .returned (.bool (Pl.implies ka sa.toList kb sb.toList)) ∧ Lo w w' := by
  go_enter Try.func20, Try.ntmps20
  go_wp2_with (go_at_call 19; refine (beside _ _ _ _ _ (by assumption) (by assumption)).mono ?_; unfold besV; rintro e w1 ⟨rfl, hb⟩; obtain ⟨hc, hf, hz⟩ := hb.facts; have hz0 := hz w.heap.size (by first | assumption | (simp; done) | (simp; omega)); have hq0 := fun o => hc w.heap.size o (by first | assumption | (simp; done) | (simp; omega)); have hz1 := hz (w.heap.size + 1) (by first | assumption | (simp; done) | (simp; omega)); have hq1 := fun o => hc (w.heap.size + 1) o (by first | assumption | (simp; done) | (simp; omega)))
  go_ret
  exact ⟨ret_bool (by unfold Pl.implies; simp), (by repeat (first | exact Lo.refl _ | assumption | refine Lo.drew ?_ | refine Lo.alloc ?_ _ | refine Lo.setCell ?_ (by first | (dsimp only; omega) | (simp; omega) | (simp; done)) _ | refine Lo.trans ?_ (by assumption)))⟩

theorem term (k : Int) (s : ByteArray) (w : World) :
    Calls Try.prog 60 #[.int .i64 k, .string s] w fun e w' => e = .returned (.agg #[.int .i64 k, .string s]) ∧ Lo w w' := by
  go_enter Try.func60, Try.ntmps60
  go_wp2
  exact bodyPost_ret (v := .agg #[.int .i64 k, .string s]) (by simp [results, Try.results60, go_sem]) rfl ⟨rfl, (by repeat (first | exact Lo.refl _ | assumption | refine Lo.drew ?_ | refine Lo.alloc ?_ _ | refine Lo.setCell ?_ (by first | (dsimp only; omega) | (simp; omega) | (simp; done)) _ | refine Lo.trans ?_ (by assumption)))⟩
end Go.Proofs.Ytlcecabfmemfeaa.WMatch
