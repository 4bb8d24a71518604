/- For every three terms and every text, the law MatchGoesOn returns true: the ways joined. -/
import Derived.Test.YtlcecabfmemfeaaGoesOn1
namespace Go.Proofs.Ytlcecabfmemfeaa.MatchGoesOn
set_option linter.unusedVariables false
set_option linter.unusedSimpArgs false
open Go.RowKit Mem WMatch

theorem walk (ka : Int) (sa : ByteArray) (kb : Int) (sb : ByteArray) (kc : Int) (sc : ByteArray) (s : ByteArray) (w : World) (za : sa.size ≤ maxLen) (zb : sb.size ≤ maxLen) (zc : sc.size ≤ maxLen) (zs : s.size ≤ maxLen) :
    Calls Try.prog 4 #[.agg #[.int .i64 ka, .string sa], .agg #[.int .i64 kb, .string sb], .agg #[.int .i64 kc, .string sc], .string s] w fun e w' => e = .returned (.bool true) ∧ Lo w w' := by
  cases hl : Pl.longT s [⟨ka, sa⟩, ⟨kb, sb⟩, ⟨kc, sc⟩] with
  | true => exact walk_long ka sa kb sb kc sc s w za zb zc zs hl
  | false =>
    have haa := Pl.implies_refl ka sa.toList
    cases hab : Pl.implies ka sa.toList kb sb.toList with
    | false =>
      obtain ⟨t, ht⟩ : ∃ t, Pl.beside ka sa.toList kb sb.toList = some t := by
        unfold Pl.implies at hab
        cases h : Pl.beside ka sa.toList kb sb.toList with
        | none => rw [h] at hab; cases hab
        | some t => exact ⟨t, rfl⟩
      obtain ⟨hma, hm1, hm2⟩ := Pl.beside_some ht
      obtain ⟨hlen, _⟩ := Pl.beside_fit ht
      have zt : (bs t).size ≤ maxLen := by rw [bs_size]; unfold maxLen; omega
      have hbes : besV (Pl.beside ka sa.toList kb sb.toList) = .tuple #[.string (bs t), .bool true] := by rw [ht]; rfl
      rw [← bs_toList t] at hm1 hm2
      cases hmb : Pl.may kb sb.toList with
      | false => exact walk_f_tf ka sa kb sb kc sc s w za zb zc zs (bs t) zt hbes hm1 hm2 hl hab haa hma hmb
      | true => exact walk_f_tt ka sa kb sb kc sc s w za zb zc zs (bs t) zt hbes hm1 hm2 hl hab haa hma hmb
    | true =>
      have hbn : Pl.beside ka sa.toList kb sb.toList = none := by
        unfold Pl.implies at hab
        exact Option.isNone_iff_eq_none.1 hab
      have hbes : besV (Pl.beside ka sa.toList kb sb.toList) = .tuple #[.string ⟨#[]⟩, .bool false] := by rw [hbn]; rfl
      have hmbs : Pl.matches_ ka sa.toList s.toList = true → Pl.matches_ kb sb.toList s.toList = true := Pl.implies_iff.1 hab _
      have hac : Pl.implies kb sb.toList kc sc.toList = true → Pl.implies ka sa.toList kc sc.toList = true := Pl.implies_trans hab
      cases hmas : Pl.matches_ ka sa.toList s.toList with
      | true =>
        have hmbs' := hmbs hmas
        cases hbc : Pl.implies kb sb.toList kc sc.toList with
        | true =>
          have hac' := hac hbc
          cases hma : Pl.may ka sa.toList with
          | false => exact walk_t_tt_fxx ka sa kb sb kc sc s w za zb zc zs hbes hl hab hmas hmbs' hbc hac' haa hma
          | true =>
            cases hmb : Pl.may kb sb.toList with
            | false => exact walk_t_tt_tfx ka sa kb sb kc sc s w za zb zc zs hbes hl hab hmas hmbs' hbc hac' haa hma hmb
            | true =>
              cases hba : Pl.implies kb sb.toList ka sa.toList with
              | false => exact walk_t_tt_ttf ka sa kb sb kc sc s w za zb zc zs hbes hl hab hmas hmbs' hbc hac' haa hma hmb hba
              | true =>
                obtain ⟨rfl, he⟩ := Pl.implies_antisymm hma hmb hab hba
                obtain rfl := bs_inj he
                exact walk_e_tt ka sa kc sc s w za zc zs hbes hl hmas hbc haa hma
        | false =>
          cases hma : Pl.may ka sa.toList with
          | false => exact walk_t_tf_fxx ka sa kb sb kc sc s w za zb zc zs hbes hl hab hmas hmbs' hbc haa hma
          | true =>
            cases hmb : Pl.may kb sb.toList with
            | false => exact walk_t_tf_tfx ka sa kb sb kc sc s w za zb zc zs hbes hl hab hmas hmbs' hbc haa hma hmb
            | true =>
              cases hba : Pl.implies kb sb.toList ka sa.toList with
              | false => exact walk_t_tf_ttf ka sa kb sb kc sc s w za zb zc zs hbes hl hab hmas hmbs' hbc haa hma hmb hba
              | true =>
                obtain ⟨rfl, he⟩ := Pl.implies_antisymm hma hmb hab hba
                obtain rfl := bs_inj he
                exact walk_e_tf ka sa kc sc s w za zc zs hbes hl hmas hbc haa hma
      | false =>
        cases hbc : Pl.implies kb sb.toList kc sc.toList with
        | true =>
          have hac' := hac hbc
          cases hma : Pl.may ka sa.toList with
          | false => exact walk_t_ft_fxx ka sa kb sb kc sc s w za zb zc zs hbes hl hab hmas hbc hac' haa hma
          | true =>
            cases hmb : Pl.may kb sb.toList with
            | false => exact walk_t_ft_tfx ka sa kb sb kc sc s w za zb zc zs hbes hl hab hmas hbc hac' haa hma hmb
            | true =>
              cases hba : Pl.implies kb sb.toList ka sa.toList with
              | false => exact walk_t_ft_ttf ka sa kb sb kc sc s w za zb zc zs hbes hl hab hmas hbc hac' haa hma hmb hba
              | true =>
                obtain ⟨rfl, he⟩ := Pl.implies_antisymm hma hmb hab hba
                obtain rfl := bs_inj he
                exact walk_e_ft ka sa kc sc s w za zc zs hbes hl hmas hbc haa hma
        | false =>
          cases hma : Pl.may ka sa.toList with
          | false => exact walk_t_ff_fxx ka sa kb sb kc sc s w za zb zc zs hbes hl hab hmas hbc haa hma
          | true =>
            cases hmb : Pl.may kb sb.toList with
            | false => exact walk_t_ff_tfx ka sa kb sb kc sc s w za zb zc zs hbes hl hab hmas hbc haa hma hmb
            | true =>
              cases hba : Pl.implies kb sb.toList ka sa.toList with
              | false => exact walk_t_ff_ttf ka sa kb sb kc sc s w za zb zc zs hbes hl hab hmas hbc haa hma hmb hba
              | true =>
                obtain ⟨rfl, he⟩ := Pl.implies_antisymm hma hmb hab hba
                obtain rfl := bs_inj he
                exact walk_e_ff ka sa kc sc s w za zc zs hbes hl hmas hbc haa hma
end Go.Proofs.Ytlcecabfmemfeaa.MatchGoesOn
