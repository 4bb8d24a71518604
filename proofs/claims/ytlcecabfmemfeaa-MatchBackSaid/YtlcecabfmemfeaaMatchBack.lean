/- For every two terms and every text, the law MatchBack returns true: the ways joined. -/
import Derived.Test.YtlcecabfmemfeaaBack1
namespace Go.Proofs.Ytlcecabfmemfeaa.MatchBack
set_option linter.unusedVariables false
set_option linter.unusedSimpArgs false
open Go.RowKit Mem WMatch

theorem walk (ka : Int) (sa : ByteArray) (kb : Int) (sb : ByteArray) (s : ByteArray) (w : World) (za : sa.size ≤ maxLen) (zb : sb.size ≤ maxLen) (zs : s.size ≤ maxLen) :
    Calls Try.prog 5 #[.agg #[.int .i64 ka, .string sa], .agg #[.int .i64 kb, .string sb], .string s] w fun e w' => e = .returned (.bool true) ∧ Lo w w' := by
  cases hl : Pl.longT s [⟨ka, sa⟩, ⟨kb, sb⟩] with
  | true => exact walk_long ka sa kb sb s w za zb zs hl
  | false =>
    have hA : ∀ (k : Int) (s : ByteArray), s.size ≤ maxLen → Pl.may k s.toList = true → PrintTo k s (.tuple #[.string (bs (Pl.text k s.toList)), .int .i64 0]) := fun k s hs h => PrintTo.yes hs h (bs_toList _)
    have hX : ∀ (k : Int) (s : ByteArray), Pl.may k s.toList = true → ParseTo (bs (Pl.text k s.toList)) (.tuple #[.agg #[.int .i64 k, .string s], .int .i64 0]) := fun k s h =>
      ParseTo.yes (by rw [bs_size]; have := Pl.text_len h; unfold maxLen; omega) (by rw [bs_toList]; exact Pl.parse_text h)
    have hP : ∀ x : Int × Pl.Bs, Pl.parse s.toList = some x → ParseTo s (.tuple #[.agg #[.int .i64 x.1, .string (bs x.2)], .int .i64 0]) ∧ PrintTo x.1 (bs x.2) (.tuple #[.string s, .int .i64 0]) ∧ Pl.may x.1 (bs x.2).toList = true ∧ (bs x.2).size ≤ maxLen := by
      intro x hx
      obtain ⟨hm, ht⟩ := Pl.parse_some hx
      have hm' : Pl.may x.1 (bs x.2).toList = true := by rw [bs_toList]; exact hm
      have hz := Pl.may_len hm
      have hz' : (bs x.2).size ≤ maxLen := by rw [bs_size]; unfold maxLen; omega
      exact ⟨ParseTo.yes zs (by rw [bs_toList]; exact hx), PrintTo.yes hz' hm' (by rw [bs_toList, ht]), hm', hz'⟩
    cases hma : Pl.may ka sa.toList with
    | false =>
      cases hmb : Pl.may kb sb.toList with
      | false =>
        cases hs : Pl.parse s.toList with
        | none => exact walk_nn0n ka sa kb sb s w za zb zs hl (PrintTo.no za hma) (PrintTo.no zb hmb) (ParseTo.no zs hs)
        | some x => obtain ⟨h1, h2, h3, h4⟩ := hP x hs; exact walk_nn0y ka sa kb sb s w za zb zs x.1 (bs x.2) h4 hl (PrintTo.no za hma) (PrintTo.no zb hmb) h1 h2 h3
      | true =>
        cases hs : Pl.parse s.toList with
        | none => exact walk_ny0n ka sa kb sb s w za zb zs _ hl (PrintTo.no za hma) (hA kb sb zb hmb) (ParseTo.no zs hs)
        | some x => obtain ⟨h1, h2, h3, h4⟩ := hP x hs; exact walk_ny0y ka sa kb sb s w za zb zs _ x.1 (bs x.2) h4 hl (PrintTo.no za hma) (hA kb sb zb hmb) h1 h2 h3
    | true =>
      cases hmb : Pl.may kb sb.toList with
      | false =>
        cases hs : Pl.parse s.toList with
        | none => exact walk_yn0n ka sa kb sb s w za zb zs _ hl (hA ka sa za hma) (hX ka sa hma) (PrintTo.no zb hmb) (ParseTo.no zs hs)
        | some x => obtain ⟨h1, h2, h3, h4⟩ := hP x hs; exact walk_yn0y ka sa kb sb s w za zb zs _ x.1 (bs x.2) h4 hl (hA ka sa za hma) (hX ka sa hma) (PrintTo.no zb hmb) h1 h2 h3
      | true =>
        by_cases hk : ka = kb
        · subst hk
          by_cases he : sa.toList = sb.toList
          · obtain rfl := bs_inj he
            cases hs : Pl.parse s.toList with
            | none => exact walk_ye0n ka sa s w za zs _ hl (hA ka sa za hma) (hX ka sa hma) (ParseTo.no zs hs)
            | some x => obtain ⟨h1, h2, h3, h4⟩ := hP x hs; exact walk_ye0y ka sa s w za zs _ x.1 (bs x.2) h4 hl (hA ka sa za hma) (hX ka sa hma) h1 h2 h3
          · have hxy : ((bs (Pl.text ka sa.toList)).toList == (bs (Pl.text ka sb.toList)).toList) = false := by
              rw [bs_toList, bs_toList, beq_eq_false_iff_ne]
              intro h; exact he (Pl.text_inj hma hmb h).2
            have hab : (sa.toList == sb.toList) = false := by rw [beq_eq_false_iff_ne]; exact he
            cases hs : Pl.parse s.toList with
            | none => exact walk_yy2n ka sa ka sb s w za zb zs _ _ hl (hA ka sa za hma) (hX ka sa hma) (hA ka sb zb hmb) (ParseTo.no zs hs) hxy (by simp) hab
            | some x => obtain ⟨h1, h2, h3, h4⟩ := hP x hs; exact walk_yy2y ka sa ka sb s w za zb zs _ _ x.1 (bs x.2) h4 hl (hA ka sa za hma) (hX ka sa hma) (hA ka sb zb hmb) h1 h2 h3 hxy (by simp) hab
        · have hxy : ((bs (Pl.text ka sa.toList)).toList == (bs (Pl.text kb sb.toList)).toList) = false := by
            rw [bs_toList, bs_toList, beq_eq_false_iff_ne]
            intro h; exact hk (Pl.text_inj hma hmb h).1
          have hk' : (ka == kb) = false := by rw [beq_eq_false_iff_ne]; exact hk
          cases hs : Pl.parse s.toList with
          | none => exact walk_yy1n ka sa kb sb s w za zb zs _ _ hl (hA ka sa za hma) (hX ka sa hma) (hA kb sb zb hmb) (ParseTo.no zs hs) hxy hk'
          | some x => obtain ⟨h1, h2, h3, h4⟩ := hP x hs; exact walk_yy1y ka sa kb sb s w za zb zs _ _ x.1 (bs x.2) h4 hl (hA ka sa za hma) (hX ka sa hma) (hA kb sb zb hmb) h1 h2 h3 hxy hk'
end Go.Proofs.Ytlcecabfmemfeaa.MatchBack
