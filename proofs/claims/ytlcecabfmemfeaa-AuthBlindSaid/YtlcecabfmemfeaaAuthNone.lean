/- For every row of policies, asker, port and request, the law AuthNone returns true. -/
import Derived.Test.YtlcecabfmemfeaaWAwake13
namespace Go.Proofs.Ytlcecabfmemfeaa.AuthNone
set_option linter.unusedVariables false
set_option linter.unusedSimpArgs false
open Go.RowKit Mem BigFrame WMatch WAuth Opn

/-- an asker and a request as values -/
abbrev whoV (a : Pl.Asker) : Value := .agg #[.string a.ns, .string a.sa, .int .u32 a.addr]
abbrev askedV (q : Pl.Req) (A : Option Addr) (cap : Nat) (tg qu : ByteArray) (bd : Value) : Value := .agg #[.string q.method, .string tg, .string q.path, .string qu, .string q.host, .slice A q.heads.length cap, bd]

set_option maxRecDepth 100000 in
set_option maxHeartbeats 4000000 in
theorem walk_long (l : List Pl.Policy) (A0 : Option Addr) (cap0 : Nat) (a : Pl.Asker) (port : Int) (q : Pl.Req) (A : Option Addr) (cap : Nat) (tg qu : ByteArray) (bd : Value) (hbd : bd.oneCell' = true) (w : World) (hA : SliceAt PolicyR 5 w.heap.size w A0 l) (hn : l.length ≤ maxLen) (hf : Fits0 w.heap.size w a q A) (hl : long13 l a q = true) :
    Calls Try.prog 11 #[.slice A0 l.length cap0, whoV a, .int .i64 port, askedV q A cap tg qu bd] w fun e w' => e = .returned (.bool true) ∧ Lo w w' := by
  have HC : Hid (∀ W, Lo w W → Calls Try.prog 34 #[.slice A0 l.length cap0, whoV a, askedV q A cap tg qu bd] W fun e w' => e = .returned (.bool true) ∧ Lo W w') := Lib.hid fun W hW => by
    have := long13_ l A0 cap0 a q A cap (.string tg) (.string qu) bd W hW.size (SliceAt.lo PolicyR.kept hA hW (Nat.le_refl _)) hn (hf.lo hW (Nat.le_refl _)) rfl rfl hbd
    rwa [hl] at this
  clear hl hA hf
  unfold whoV askedV at *
  generalize l.length = n at *
  generalize q.heads.length = n2 at *
  go_enter Try.func11, Try.ntmps11
  go_wp2_with fail
  refine (HC.out _ ?_).mono ?_
  · exact (by repeat (first | exact Lo.refl _ | assumption | refine Lo.drew ?_ | refine Lo.alloc ?_ _ | refine Lo.setCell ?_ (by first | (dsimp only; omega) | (simp; omega) | (simp; done)) _ | refine Lo.trans ?_ (by assumption)))
  rintro e w1 ⟨rfl, hb⟩
  go_wp2_with fail
  refine (awake13 _).mono ?_
  rintro e w2 ⟨rfl, hb2⟩
  go_wp2
  go_ret
  exact ⟨rfl, (by repeat (first | exact Lo.refl _ | assumption | refine Lo.drew ?_ | refine Lo.alloc ?_ _ | refine Lo.setCell ?_ (by first | (dsimp only; omega) | (simp; omega) | (simp; done)) _ | refine Lo.trans ?_ (by assumption)))⟩

/-- the policy that the law hands in by itself -/
def pol5 : Pl.Policy := ⟨5, ⟨#[]⟩, 0, 0, []⟩
theorem pol5R {B : Nat} {w : World} : PolicyR B w pol5 [.int .u64 5, .string ⟨#[]⟩, .int .u64 0, .int .i64 0, .slice none 0 0] :=
  ⟨_, _, _, _, _, rfl, ⟨rfl, by decide⟩, ⟨rfl, by decide⟩, ⟨rfl, by decide⟩, ⟨rfl, by decide⟩, nilC⟩

set_option maxRecDepth 100000 in
set_option maxHeartbeats 8000000 in
theorem walk_fit (l : List Pl.Policy) (A0 : Option Addr) (cap0 : Nat) (a : Pl.Asker) (port : Int) (q : Pl.Req) (A : Option Addr) (cap : Nat) (tg qu : ByteArray) (bd : Value) (hbd : bd.oneCell' = true) (w : World) (hA : SliceAt PolicyR 5 w.heap.size w A0 l) (hn : l.length ≤ maxLen) (hf : Fits0 w.heap.size w a q A) (hl : long13 l a q = false) :
    Calls Try.prog 11 #[.slice A0 l.length cap0, whoV a, .int .i64 port, askedV q A cap tg qu bd] w fun e w' => e = .returned (.bool true) ∧ Lo w w' := by
  have HC : Hid (∀ W, Lo w W → Calls Try.prog 34 #[.slice A0 l.length cap0, whoV a, askedV q A cap tg qu bd] W fun e w' => e = .returned (.bool false) ∧ Lo W w') := Lib.hid fun W hW => by
    have := long13_ l A0 cap0 a q A cap (.string tg) (.string qu) bd W hW.size (SliceAt.lo PolicyR.kept hA hW (Nat.le_refl _)) hn (hf.lo hW (Nat.le_refl _)) rfl rfl hbd
    rwa [hl] at this
  have hf2 := hf.fits hl
  have J0 : Hid (∀ W, Lo w W → Calls Try.prog 37 #[.slice none 0 0, whoV a, .int .i64 port, askedV q A cap tg qu bd] W fun e w' => e = .returned (.tuple #[.bool true, .int .u64 0]) ∧ Lo W w') := Lib.hid fun W hW =>
    judge [] none 0 a port q A cap tg qu bd W hW.size SliceAt.nil (by decide) (hf2.lo hW (Nat.le_refl _))
  have J5 : Hid (∀ (W : World) (n : Nat), Lo w W → W.heap[n]? = some (.cells #[.int .u64 5, .string ⟨#[]⟩, .int .u64 0, .int .i64 0, .slice none 0 0] 61 (0, 0)) → Calls Try.prog 37 #[.slice (some ⟨n, 0, none⟩) 1 1, whoV a, .int .i64 port, askedV q A cap tg qu bd] W fun e w' => e = .returned (.tuple #[.bool false, .int .u64 0]) ∧ Lo W w') := Lib.hid fun W n hW hh => by
    have := judge [pol5] (some ⟨n, 0, none⟩) 1 a port q A cap tg qu bd W (Nat.le_refl _) (SliceAt.one (cs := [_, _, _, _, _]) hh (block_lt hh) rfl pol5R) (by simp [maxLen]) ⟨hf2.ns, hf2.sa, hf2.method, hf2.path, hf2.host, SliceAt.keep HeadR.kept hf2.heads (hW.cells (Nat.le_refl _)) hW.size, hf2.few⟩
    have hv : judgeV (matchP a port q) [pol5] = .tuple #[.bool false, .int .u64 0] := by unfold judgeV; rw [Pl.judge_five _ _ rfl rfl]
    rwa [hv] at this
  obtain ⟨J, hJ⟩ : ∃ J, Pl.judgeP (matchP a port q) l = J := ⟨_, rfl⟩
  have J1 : Hid (∀ W, Lo w W → Calls Try.prog 37 #[.slice A0 l.length cap0, whoV a, .int .i64 port, askedV q A cap tg qu bd] W fun e w' => e = .returned (.tuple #[.bool J.1, .int .u64 J.2]) ∧ Lo W w') := Lib.hid fun W hW => by
    have := judge l A0 cap0 a port q A cap tg qu bd W hW.size (SliceAt.lo PolicyR.kept hA hW (Nat.le_refl _)) hn (hf2.lo hW (Nat.le_refl _))
    unfold judgeV at this
    rwa [hJ] at this
  have HE : Hid (J.2 ≠ 0 → ∃ p ∈ l, p.id = J.2 ∧ (p.deny == 1) = !J.1) := Lib.hid fun h => by rw [← hJ] at h ⊢; exact Pl.judge_by _ _ h
  clear hJ hf hf2 hl
  obtain ⟨yes, by_⟩ := J
  simp only at J1 HE
  unfold whoV askedV at *
  unfold maxLen at hn
  generalize q.heads.length = n2 at *
  by_cases h0 : by_ = 0
  · subst h0
    clear HE hA
    generalize l.length = n at *
    go_enter Try.func11, Try.ntmps11
    go_wp2_with fail
    refine (HC.out _ ?_).mono ?_
    · exact (by repeat (first | exact Lo.refl _ | assumption | refine Lo.drew ?_ | refine Lo.alloc ?_ _ | refine Lo.setCell ?_ (by first | (dsimp only; omega) | (simp; omega) | (simp; done)) _ | refine Lo.trans ?_ (by assumption)))
    rintro e w1 ⟨rfl, hb⟩; obtain ⟨hc, hf, hz⟩ := hb.facts; have hz0 := hz w.heap.size (by first | assumption | (simp; done) | (simp; omega)); have hq0 := fun o => hc w.heap.size o (by first | assumption | (simp; done) | (simp; omega)); have hz1 := hz (w.heap.size + 1) (by first | assumption | (simp; done) | (simp; omega)); have hq1 := fun o => hc (w.heap.size + 1) o (by first | assumption | (simp; done) | (simp; omega))
    go_wp2_with fail
    refine (J0.out _ ?_).mono ?_
    · exact (by repeat (first | exact Lo.refl _ | assumption | refine Lo.drew ?_ | refine Lo.alloc ?_ _ | refine Lo.setCell ?_ (by first | (dsimp only; omega) | (simp; omega) | (simp; done)) _ | refine Lo.trans ?_ (by assumption)))
    rintro e w2 ⟨rfl, hb⟩; obtain ⟨hc, hf, hz⟩ := hb.facts; have hz0 := hz w.heap.size (by first | assumption | (simp; done) | (simp; omega)); have hq0 := fun o => hc w.heap.size o (by first | assumption | (simp; done) | (simp; omega)); have hz1 := hz (w.heap.size + 1) (by first | assumption | (simp; done) | (simp; omega)); have hq1 := fun o => hc (w.heap.size + 1) o (by first | assumption | (simp; done) | (simp; omega))
    go_wp2_with fail
    refine (J5.out _ _ ?_ ?_).mono ?_
    · exact (by repeat (first | exact Lo.refl _ | assumption | refine Lo.drew ?_ | refine Lo.alloc ?_ _ | refine Lo.setCell ?_ (by first | (dsimp only; omega) | (simp; omega) | (simp; done)) _ | refine Lo.trans ?_ (by assumption)))
    · exact heap_new_at (by simp)
    rintro e w3 ⟨rfl, hb⟩; obtain ⟨hc, hf, hz⟩ := hb.facts; have hz0 := hz w.heap.size (by first | assumption | (simp; done) | (simp; omega)); have hq0 := fun o => hc w.heap.size o (by first | assumption | (simp; done) | (simp; omega)); have hz1 := hz (w.heap.size + 1) (by first | assumption | (simp; done) | (simp; omega)); have hq1 := fun o => hc (w.heap.size + 1) o (by first | assumption | (simp; done) | (simp; omega))
    go_wp2_with fail
    refine (J1.out _ ?_).mono ?_
    · exact (by repeat (first | exact Lo.refl _ | assumption | refine Lo.drew ?_ | refine Lo.alloc ?_ _ | refine Lo.setCell ?_ (by first | (dsimp only; omega) | (simp; omega) | (simp; done)) _ | refine Lo.trans ?_ (by assumption)))
    rintro e w4 ⟨rfl, hb⟩
    go_wp2_with fail
    refine (awake13 _).mono ?_
    rintro e w5 ⟨rfl, hb2⟩
    go_wp2
    go_ret
    exact ⟨rfl, (by repeat (first | exact Lo.refl _ | assumption | refine Lo.drew ?_ | refine Lo.alloc ?_ _ | refine Lo.setCell ?_ (by first | (dsimp only; omega) | (simp; omega) | (simp; done)) _ | refine Lo.trans ?_ (by assumption)))⟩
  · have hbe : (by_ == 0) = false := by simpa using h0
    go_enter Try.func11, Try.ntmps11
    go_wp2_with fail
    refine (HC.out _ ?_).mono ?_
    · exact (by repeat (first | exact Lo.refl _ | assumption | refine Lo.drew ?_ | refine Lo.alloc ?_ _ | refine Lo.setCell ?_ (by first | (dsimp only; omega) | (simp; omega) | (simp; done)) _ | refine Lo.trans ?_ (by assumption)))
    rintro e w1 ⟨rfl, hb⟩; obtain ⟨hc, hf, hz⟩ := hb.facts; have hz0 := hz w.heap.size (by first | assumption | (simp; done) | (simp; omega)); have hq0 := fun o => hc w.heap.size o (by first | assumption | (simp; done) | (simp; omega)); have hz1 := hz (w.heap.size + 1) (by first | assumption | (simp; done) | (simp; omega)); have hq1 := fun o => hc (w.heap.size + 1) o (by first | assumption | (simp; done) | (simp; omega))
    go_wp2_with fail
    refine (J0.out _ ?_).mono ?_
    · exact (by repeat (first | exact Lo.refl _ | assumption | refine Lo.drew ?_ | refine Lo.alloc ?_ _ | refine Lo.setCell ?_ (by first | (dsimp only; omega) | (simp; omega) | (simp; done)) _ | refine Lo.trans ?_ (by assumption)))
    rintro e w2 ⟨rfl, hb⟩; obtain ⟨hc, hf, hz⟩ := hb.facts; have hz0 := hz w.heap.size (by first | assumption | (simp; done) | (simp; omega)); have hq0 := fun o => hc w.heap.size o (by first | assumption | (simp; done) | (simp; omega)); have hz1 := hz (w.heap.size + 1) (by first | assumption | (simp; done) | (simp; omega)); have hq1 := fun o => hc (w.heap.size + 1) o (by first | assumption | (simp; done) | (simp; omega))
    go_wp2_with fail
    refine (J5.out _ _ ?_ ?_).mono ?_
    · exact (by repeat (first | exact Lo.refl _ | assumption | refine Lo.drew ?_ | refine Lo.alloc ?_ _ | refine Lo.setCell ?_ (by first | (dsimp only; omega) | (simp; omega) | (simp; done)) _ | refine Lo.trans ?_ (by assumption)))
    · exact heap_new_at (by simp)
    rintro e w3 ⟨rfl, hb⟩; obtain ⟨hc, hf, hz⟩ := hb.facts; have hz0 := hz w.heap.size (by first | assumption | (simp; done) | (simp; omega)); have hq0 := fun o => hc w.heap.size o (by first | assumption | (simp; done) | (simp; omega)); have hz1 := hz (w.heap.size + 1) (by first | assumption | (simp; done) | (simp; omega)); have hq1 := fun o => hc (w.heap.size + 1) o (by first | assumption | (simp; done) | (simp; omega))
    go_wp2_with fail
    refine (J1.out _ ?_).mono ?_
    · exact (by repeat (first | exact Lo.refl _ | assumption | refine Lo.drew ?_ | refine Lo.alloc ?_ _ | refine Lo.setCell ?_ (by first | (dsimp only; omega) | (simp; omega) | (simp; done)) _ | refine Lo.trans ?_ (by assumption)))
    rintro e w4 ⟨rfl, hb⟩
    have hlw : Lo w w4 := (by repeat (first | exact Lo.refl _ | assumption | refine Lo.drew ?_ | refine Lo.alloc ?_ _ | refine Lo.setCell ?_ (by first | (dsimp only; omega) | (simp; omega) | (simp; done)) _ | refine Lo.trans ?_ (by assumption)))
    have HG : Hid (l.any (fun p => p.id == by_ && (p.deny == 1) == !yes) = true) := Lib.hid (by
      obtain ⟨p, hp, h1, h2⟩ := HE.out h0
      rw [List.any_eq_true]
      exact ⟨p, hp, by simp [h1, h2]⟩)
    clear HE hb
    go_wp2
    go_loopw [15] (fun i wr => ∃ k : Nat, k ≤ l.length ∧ i = .int .i64 k ∧ Lo w wr ∧ Hid ((l.take k).any (fun p => p.id == by_ && (p.deny == 1) == !yes) = false)) (fun i _ => l.length - (intOf i).toNat)
    case atStart => exact ⟨0, Nat.zero_le _, rfl, hlw, Lib.hid rfl⟩
    case round =>
      obtain ⟨k, hk, rfl, hlo, hall⟩ := hrel
      by_cases hlt : k < l.length
      · obtain ⟨b, off, cs, rfl, hb, hl2, hc, hr⟩ := (SliceAt.lo PolicyR.kept hA hlo (Nat.le_refl _)) k l[k] (List.getElem?_eq_getElem hlt)
        obtain ⟨c0, c1, c2, c3, c4, rfl, ⟨e0, z0⟩, ⟨e1, z1⟩, ⟨e2, z2⟩, ⟨e3, z3⟩, hrest⟩ := hr
        injection e0 with e0; injection e3 with e3; subst e0 e3
        have hc0 : wr.cell? ⟨b, off + k * 5, none⟩ = _ := hc 0 _ rfl
        have hc3 : wr.cell? ⟨b, off + k * 5 + 3, none⟩ = _ := hc 3 _ rfl
        clear hc hl2 hrest
        cases g1 : (l[k].id == by_) <;> cases g2 : (l[k].deny == 1) <;> cases yes
        all_goals
          first
            | (have HN := Lib.hid (WIdxWhen.any_snoc' hall.out hlt (by simp [g1, g2]))
               go_wp2
               go_roundw
               case rel => exact ⟨k + 1, by omega, by go_num, (by repeat (first | exact Lo.refl _ | assumption | refine Lo.drew ?_ | refine Lo.alloc ?_ _ | refine Lo.setCell ?_ (by first | (dsimp only; omega) | (simp; omega) | (simp; done)) _ | refine Lo.trans ?_ (by assumption))), HN⟩
               case measure => simp [intOf]; omega)
            | (go_wp2_with fail
               refine (awake13 _).mono ?_
               rintro e w5 ⟨rfl, hb2⟩
               go_wp2
               go_ret
               exact ⟨rfl, (by repeat (first | exact Lo.refl _ | assumption | refine Lo.drew ?_ | refine Lo.alloc ?_ _ | refine Lo.setCell ?_ (by first | (dsimp only; omega) | (simp; omega) | (simp; done)) _ | refine Lo.trans ?_ (by assumption)))⟩)
      · exfalso
        have HF := hall.out
        rw [List.take_of_length_le (by omega)] at HF
        rw [HG.out] at HF
        cases HF
theorem walk (l : List Pl.Policy) (A0 : Option Addr) (cap0 : Nat) (a : Pl.Asker) (port : Int) (q : Pl.Req) (A : Option Addr) (cap : Nat) (tg qu : ByteArray) (bd : Value) (hbd : bd.oneCell' = true) (w : World) (hA : SliceAt PolicyR 5 w.heap.size w A0 l) (hn : l.length ≤ maxLen) (hf : Fits0 w.heap.size w a q A) :
    Calls Try.prog 11 #[.slice A0 l.length cap0, whoV a, .int .i64 port, askedV q A cap tg qu bd] w fun e w' => e = .returned (.bool true) ∧ Lo w w' := by
  cases hl : long13 l a q with
  | true => exact walk_long l A0 cap0 a port q A cap tg qu bd hbd w hA hn hf hl
  | false => exact walk_fit l A0 cap0 a port q A cap tg qu bd hbd w hA hn hf hl
end Go.Proofs.Ytlcecabfmemfeaa.AuthNone
