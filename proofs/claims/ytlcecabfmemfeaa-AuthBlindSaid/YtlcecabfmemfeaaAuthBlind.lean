/- For every row of policies, asker, port, two requests, a namespace and a service, the law AuthBlind returns true. -/
import Derived.Test.YtlcecabfmemfeaaWOf
import Derived.Test.YtlcecabfmemfeaaAuthNone
namespace Go.Proofs.Ytlcecabfmemfeaa.AuthBlind
set_option linter.unusedVariables false
set_option linter.unusedSimpArgs false
open Go.RowKit Mem BigFrame WMatch WAuth Opn
open AuthNone (whoV askedV)

theorem letsT_nil (s : ByteArray) : letsT s [] = true := rfl
theorem any_congr' {α : Type} {p q : α → Bool} : ∀ {l : List α}, (∀ x ∈ l, p x = q x) → l.any p = l.any q
  | [], _ => rfl
  | x :: r, h => by rw [List.any_cons, List.any_cons, h x (by simp), any_congr' fun y hy => h y (by simp [hy])]
theorem find_congr' {α : Type} {p q : α → Bool} : ∀ {l : List α}, (∀ x ∈ l, p x = q x) → l.find? p = l.find? q
  | [], _ => rfl
  | x :: r, h => by rw [List.find?_cons, List.find?_cons, h x (by simp), find_congr' fun y hy => h y (by simp [hy])]
/-- a rule that does not look at a request says the same of any two -/
theorem blind_rule (a : Pl.Asker) (port : Int) (q q' : Pl.Req) {r : Pl.Rule} (h : seventhP r = false) : matchP a port q r = matchP a port q' r := by
  unfold seventhP at h
  simp only [Bool.or_eq_false_iff, decide_eq_false_iff_not] at h
  have hw : r.when_ = [] := List.eq_nil_of_length_eq_zero (by omega)
  have ht : ∀ t ∈ r.to_, tgtP port q t = tgtP port q' t := by
    intro t ht
    have := any_no h.2 ht
    unfold looksT at this
    simp only [decide_eq_false_iff_not] at this
    have h1 : t.methods = [] := List.eq_nil_of_length_eq_zero (by omega)
    have h2 : t.paths = [] := List.eq_nil_of_length_eq_zero (by omega)
    have h3 : t.hosts = [] := List.eq_nil_of_length_eq_zero (by omega)
    unfold tgtP
    rw [h1, h2, h3]
    simp only [letsT_nil]
  unfold matchP
  rw [any_congr' ht, hw]
  rfl
theorem judge_congr {M M' : Pl.Rule → Bool} {l : List Pl.Policy} (h : ∀ p ∈ l, ∀ r ∈ p.rules, M r = M' r) : Pl.judgeP M l = Pl.judgeP M' l := by
  have hf : ∀ d, Pl.firstP M d l = Pl.firstP M' d l := by
    intro d
    unfold Pl.firstP
    exact find_congr' fun p hp => by rw [any_congr' (h p hp)]
  unfold Pl.judgeP
  rw [hf, hf]
theorem filter_idem {α : Type} (p : α → Bool) (l : List α) : (l.filter p).filter p = l.filter p := by simp

set_option maxRecDepth 100000 in
set_option maxHeartbeats 8000000 in
theorem walk_long (l : List Pl.Policy) (A0 : Option Addr) (cap0 : Nat) (a : Pl.Asker) (port : Int) (q : Pl.Req) (A : Option Addr) (cap : Nat) (tg qu : ByteArray) (bd : Value) (hbd : bd.oneCell' = true) (q' : Pl.Req) (A' : Option Addr) (cap' : Nat) (tg' qu' : ByteArray) (bd' : Value) (hbd' : bd'.oneCell' = true) (ns : ByteArray) (sv : Int) (zns : ns.size ≤ maxLen) (w : World)
    (hA : SliceAt PolicyR 5 w.heap.size w A0 l) (hn : l.length ≤ maxLen) (hf : Fits0 w.heap.size w a q A) (hf' : Fits0 w.heap.size w a q' A') (hl : long13 l a q = true ∨ (long13 l a q = false ∧ (long13 [] a q' = true ∨ (long13 [] a q' = false ∧ 600 < ns.size)))) :
    Calls Try.prog 13 #[.slice A0 l.length cap0, whoV a, .int .i64 port, askedV q A cap tg qu bd, askedV q' A' cap' tg' qu' bd', .string ns, .int .u64 sv] w fun e w' => e = .returned (.bool true) ∧ Lo w w' := by
  have HC : Hid (∀ W, Lo w W → Calls Try.prog 34 #[.slice A0 l.length cap0, whoV a, askedV q A cap tg qu bd] W fun e w' => e = .returned (.bool (long13 l a q)) ∧ Lo W w') := Lib.hid fun W hW =>
    long13_ l A0 cap0 a q A cap (.string tg) (.string qu) bd W hW.size (SliceAt.lo PolicyR.kept hA hW (Nat.le_refl _)) hn (hf.lo hW (Nat.le_refl _)) rfl rfl hbd
  have HC' : Hid (∀ W, Lo w W → Calls Try.prog 34 #[.slice none 0 0, whoV a, askedV q' A' cap' tg' qu' bd'] W fun e w' => e = .returned (.bool (long13 [] a q')) ∧ Lo W w') := Lib.hid fun W hW =>
    long13_ [] none 0 a q' A' cap' (.string tg') (.string qu') bd' W hW.size SliceAt.nil (by simp [maxLen]) (hf'.lo hW (Nat.le_refl _)) rfl rfl hbd'
  clear hA hf hf'
  unfold whoV askedV at *
  unfold maxLen at zns
  generalize l.length = n at *
  generalize q.heads.length = n2 at *
  generalize q'.heads.length = n3 at *
  generalize long13 l a q = y1 at *
  generalize long13 [] a q' = y2 at *
  rcases hl with rfl | ⟨rfl, rfl | ⟨rfl, h6⟩⟩
  · go_enter Try.func13, Try.ntmps13
    go_wp2_with fail
    refine (HC.out _ ?_).mono ?_
    · exact (by repeat (first | exact Lo.refl _ | assumption | refine Lo.drew ?_ | refine Lo.alloc ?_ _ | refine Lo.setCell ?_ (by first | (dsimp only; omega) | (simp; omega) | (simp; done)) _ | refine Lo.trans ?_ (by assumption)))
    rintro e w1 ⟨rfl, hb⟩
    go_wp2_with fail
    refine (awake13 _).mono ?_
    rintro e w2 ⟨rfl, hb2⟩
    go_wp2
    go_ret
    exact ⟨rfl, (by repeat (first | exact Lo.refl _ | assumption | refine Lo.drew ?_ | refine Lo.alloc ?_ _ | refine Lo.setCell ?_ (by first | (dsimp only; omega) | (simp; omega) | (simp; done)) _ | refine Lo.trans ?_ (by assumption)))⟩
  · go_enter Try.func13, Try.ntmps13
    go_wp2_with fail
    refine (HC.out _ ?_).mono ?_
    · exact (by repeat (first | exact Lo.refl _ | assumption | refine Lo.drew ?_ | refine Lo.alloc ?_ _ | refine Lo.setCell ?_ (by first | (dsimp only; omega) | (simp; omega) | (simp; done)) _ | refine Lo.trans ?_ (by assumption)))
    rintro e w1 ⟨rfl, hb⟩; obtain ⟨hc, hf, hz⟩ := hb.facts; have hz0 := hz w.heap.size (by first | assumption | (simp; done) | (simp; omega)); have hq0 := fun o => hc w.heap.size o (by first | assumption | (simp; done) | (simp; omega)); have hz1 := hz (w.heap.size + 1) (by first | assumption | (simp; done) | (simp; omega)); have hq1 := fun o => hc (w.heap.size + 1) o (by first | assumption | (simp; done) | (simp; omega)); have hz2 := hz (w.heap.size + 2) (by first | assumption | (simp; done) | (simp; omega)); have hq2 := fun o => hc (w.heap.size + 2) o (by first | assumption | (simp; done) | (simp; omega))
    go_wp2_with fail
    refine (HC'.out _ ?_).mono ?_
    · exact (by repeat (first | exact Lo.refl _ | assumption | refine Lo.drew ?_ | refine Lo.alloc ?_ _ | refine Lo.setCell ?_ (by first | (dsimp only; omega) | (simp; omega) | (simp; done)) _ | refine Lo.trans ?_ (by assumption)))
    rintro e w2 ⟨rfl, hb2⟩
    go_wp2_with fail
    refine (awake13 _).mono ?_
    rintro e w3 ⟨rfl, hb3⟩
    go_wp2
    go_ret
    exact ⟨rfl, (by repeat (first | exact Lo.refl _ | assumption | refine Lo.drew ?_ | refine Lo.alloc ?_ _ | refine Lo.setCell ?_ (by first | (dsimp only; omega) | (simp; omega) | (simp; done)) _ | refine Lo.trans ?_ (by assumption)))⟩
  · go_enter Try.func13, Try.ntmps13
    go_wp2_with fail
    refine (HC.out _ ?_).mono ?_
    · exact (by repeat (first | exact Lo.refl _ | assumption | refine Lo.drew ?_ | refine Lo.alloc ?_ _ | refine Lo.setCell ?_ (by first | (dsimp only; omega) | (simp; omega) | (simp; done)) _ | refine Lo.trans ?_ (by assumption)))
    rintro e w1 ⟨rfl, hb⟩; obtain ⟨hc, hf, hz⟩ := hb.facts; have hz0 := hz w.heap.size (by first | assumption | (simp; done) | (simp; omega)); have hq0 := fun o => hc w.heap.size o (by first | assumption | (simp; done) | (simp; omega)); have hz1 := hz (w.heap.size + 1) (by first | assumption | (simp; done) | (simp; omega)); have hq1 := fun o => hc (w.heap.size + 1) o (by first | assumption | (simp; done) | (simp; omega)); have hz2 := hz (w.heap.size + 2) (by first | assumption | (simp; done) | (simp; omega)); have hq2 := fun o => hc (w.heap.size + 2) o (by first | assumption | (simp; done) | (simp; omega))
    go_wp2_with fail
    refine (HC'.out _ ?_).mono ?_
    · exact (by repeat (first | exact Lo.refl _ | assumption | refine Lo.drew ?_ | refine Lo.alloc ?_ _ | refine Lo.setCell ?_ (by first | (dsimp only; omega) | (simp; omega) | (simp; done)) _ | refine Lo.trans ?_ (by assumption)))
    rintro e w2 ⟨rfl, hb2⟩
    go_wp2_with fail
    refine (awake13 _).mono ?_
    rintro e w3 ⟨rfl, hb3⟩
    go_wp2
    go_ret
    exact ⟨rfl, (by repeat (first | exact Lo.refl _ | assumption | refine Lo.drew ?_ | refine Lo.alloc ?_ _ | refine Lo.setCell ?_ (by first | (dsimp only; omega) | (simp; omega) | (simp; done)) _ | refine Lo.trans ?_ (by assumption)))⟩

set_option maxRecDepth 100000 in
set_option maxHeartbeats 16000000 in
theorem walk_fit (l : List Pl.Policy) (A0 : Option Addr) (cap0 : Nat) (a : Pl.Asker) (port : Int) (q : Pl.Req) (A : Option Addr) (cap : Nat) (tg qu : ByteArray) (bd : Value) (hbd : bd.oneCell' = true) (q' : Pl.Req) (A' : Option Addr) (cap' : Nat) (tg' qu' : ByteArray) (bd' : Value) (hbd' : bd'.oneCell' = true) (ns : ByteArray) (sv : Int) (zns : ns.size ≤ maxLen) (w : World)
    (hA : SliceAt PolicyR 5 w.heap.size w A0 l) (hn : l.length ≤ maxLen) (hf : Fits0 w.heap.size w a q A) (hf' : Fits0 w.heap.size w a q' A') (hl : long13 l a q = false) (hl' : long13 [] a q' = false) (h6 : ¬ 600 < ns.size) :
    Calls Try.prog 13 #[.slice A0 l.length cap0, whoV a, .int .i64 port, askedV q A cap tg qu bd, askedV q' A' cap' tg' qu' bd', .string ns, .int .u64 sv] w fun e w' => e = .returned (.bool true) ∧ Lo w w' := by
  have HC : Hid (∀ W, Lo w W → Calls Try.prog 34 #[.slice A0 l.length cap0, whoV a, askedV q A cap tg qu bd] W fun e w' => e = .returned (.bool false) ∧ Lo W w') := Lib.hid fun W hW => by
    have := long13_ l A0 cap0 a q A cap (.string tg) (.string qu) bd W hW.size (SliceAt.lo PolicyR.kept hA hW (Nat.le_refl _)) hn (hf.lo hW (Nat.le_refl _)) rfl rfl hbd
    rwa [hl] at this
  have HC' : Hid (∀ W, Lo w W → Calls Try.prog 34 #[.slice none 0 0, whoV a, askedV q' A' cap' tg' qu' bd'] W fun e w' => e = .returned (.bool false) ∧ Lo W w') := Lib.hid fun W hW => by
    have := long13_ [] none 0 a q' A' cap' (.string tg') (.string qu') bd' W hW.size SliceAt.nil (by simp [maxLen]) (hf'.lo hW (Nat.le_refl _)) rfl rfl hbd'
    rwa [hl'] at this
  have hF := hf.fits hl
  have hF' := hf'.fits hl'
  have hll : l.any longPol = false ∧ l.length ≤ 30 := by
    unfold long13 at hl
    simp only [Bool.or_eq_false_iff, decide_eq_false_iff_not] at hl
    exact ⟨hl.2, by omega⟩
  obtain ⟨hlp, h30⟩ := hll
  have HO : Hid (∀ W, Lo w W → Calls Try.prog 50 #[.slice A0 l.length cap0, .string ns, .int .u64 sv] W fun e w' => ∃ v, e = .returned v ∧ Lo W w' ∧ RowF (fun b => W.heap.size ≤ b) PolicyR 61 5 W.heap.size w' v (l.filter (holdsP ns sv))) := Lib.hid fun W hW =>
    of_ l ns sv A0 cap0 W hW.size (SliceAt.lo PolicyR.kept hA hW (Nat.le_refl _)) hlp (by omega)
  obtain ⟨O, hO⟩ : ∃ O, l.filter (holdsP ns sv) = O := ⟨_, rfl⟩
  have hOO : O.filter (holdsP ns sv) = O := by rw [← hO]; exact filter_idem _ _
  have hOh : ∀ p ∈ O, holdsP ns sv p = true := by intro p hp; rw [← hO, List.mem_filter] at hp; exact hp.2
  have hOl : O.any longPol = false := by
    rw [List.any_eq_false] at hlp ⊢
    intro p hp
    rw [← hO, List.mem_filter] at hp
    exact hlp p hp.1
  have hO30 : O.length ≤ 30 := by
    have := List.length_filter_le (holdsP ns sv) l
    rw [hO] at this; omega
  have HA : Hid (∀ (W : World) (A1 : Option Addr) (cap1 : Nat) (B : Nat), B ≤ W.heap.size → SliceAt PolicyR 5 B W A1 O → Calls Try.prog 50 #[.slice A1 O.length cap1, .string ns, .int .u64 sv] W fun e w' => ∃ v, e = .returned v ∧ Lo W w' ∧ RowF (fun b => W.heap.size ≤ b) PolicyR 61 5 W.heap.size w' v O) := Lib.hid fun W A1 cap1 B hB hA1 => by
    have := of_ O ns sv A1 cap1 W hB hA1 hOl (by omega)
    rwa [hOO] at this
  rw [hO] at HO
  obtain ⟨J, hJ⟩ : ∃ J, Pl.judgeP (matchP a port q) O = J := ⟨_, rfl⟩
  have J1 : Hid (∀ (W : World) (A1 : Option Addr) (cap1 : Nat) (B : Nat), Lo w W → B ≤ W.heap.size → SliceAt PolicyR 5 B W A1 O → Calls Try.prog 37 #[.slice A1 O.length cap1, whoV a, .int .i64 port, askedV q A cap tg qu bd] W fun e w' => e = .returned (.tuple #[.bool J.1, .int .u64 J.2]) ∧ Lo W w') := Lib.hid fun W A1 cap1 B hW hB hA1 => by
    have := judge O A1 cap1 a port q A cap tg qu bd W (Nat.le_refl _) (SliceAt.keep PolicyR.kept hA1 (fun _ _ => rfl) hB) (by unfold maxLen; omega) ⟨hF.ns, hF.sa, hF.method, hF.path, hF.host, SliceAt.keep HeadR.kept hF.heads (hW.cells (Nat.le_refl _)) hW.size, hF.few⟩
    unfold judgeV at this
    rwa [hJ] at this
  have J2 : Hid ((O.any fun p => p.rules.any seventhP) = false → ∀ (W : World) (A1 : Option Addr) (cap1 : Nat) (B : Nat), Lo w W → B ≤ W.heap.size → SliceAt PolicyR 5 B W A1 O → Calls Try.prog 37 #[.slice A1 O.length cap1, whoV a, .int .i64 port, askedV q' A' cap' tg' qu' bd'] W fun e w' => e = .returned (.tuple #[.bool J.1, .int .u64 J.2]) ∧ Lo W w') := Lib.hid fun h7 W A1 cap1 B hW hB hA1 => by
    have := judge O A1 cap1 a port q' A' cap' tg' qu' bd' W (Nat.le_refl _) (SliceAt.keep PolicyR.kept hA1 (fun _ _ => rfl) hB) (by unfold maxLen; omega) ⟨hF'.ns, hF'.sa, hF'.method, hF'.path, hF'.host, SliceAt.keep HeadR.kept hF'.heads (hW.cells (Nat.le_refl _)) hW.size, hF'.few⟩
    unfold judgeV at this
    rw [judge_congr (M' := matchP a port q) fun p hp r hr => blind_rule a port q' q (any_no (any_no h7 hp) hr), hJ] at this
    exact this
  have HOh := Lib.hid hOh
  have HOl := Lib.hid hOl
  clear hJ hF hF' hf hf' hl hl' hA hO hOO hlp hOh hOl
  obtain ⟨yes, by_⟩ := J
  simp only at J1 J2
  unfold whoV askedV at *
  unfold maxLen at zns
  generalize l.length = n at *
  generalize q.heads.length = n2 at *
  generalize q'.heads.length = n3 at *
  obtain ⟨no, hno⟩ : ∃ m, O.length = m := ⟨_, rfl⟩
  go_enter Try.func13, Try.ntmps13
  go_wp2_with fail
  refine (HC.out _ ?_).mono ?_
  · exact (by repeat (first | exact Lo.refl _ | assumption | refine Lo.drew ?_ | refine Lo.alloc ?_ _ | refine Lo.setCell ?_ (by first | (dsimp only; omega) | (simp; omega) | (simp; done)) _ | refine Lo.trans ?_ (by assumption)))
  rintro e w1 ⟨rfl, hb⟩; obtain ⟨hc, hf, hz⟩ := hb.facts; have hz0 := hz w.heap.size (by first | assumption | (simp; done) | (simp; omega)); have hq0 := fun o => hc w.heap.size o (by first | assumption | (simp; done) | (simp; omega)); have hz1 := hz (w.heap.size + 1) (by first | assumption | (simp; done) | (simp; omega)); have hq1 := fun o => hc (w.heap.size + 1) o (by first | assumption | (simp; done) | (simp; omega)); have hz2 := hz (w.heap.size + 2) (by first | assumption | (simp; done) | (simp; omega)); have hq2 := fun o => hc (w.heap.size + 2) o (by first | assumption | (simp; done) | (simp; omega))
  go_wp2_with fail
  refine (HC'.out _ ?_).mono ?_
  · exact (by repeat (first | exact Lo.refl _ | assumption | refine Lo.drew ?_ | refine Lo.alloc ?_ _ | refine Lo.setCell ?_ (by first | (dsimp only; omega) | (simp; omega) | (simp; done)) _ | refine Lo.trans ?_ (by assumption)))
  rintro e w2 ⟨rfl, hb⟩; obtain ⟨hc, hf, hz⟩ := hb.facts; have hz0 := hz w.heap.size (by first | assumption | (simp; done) | (simp; omega)); have hq0 := fun o => hc w.heap.size o (by first | assumption | (simp; done) | (simp; omega)); have hz1 := hz (w.heap.size + 1) (by first | assumption | (simp; done) | (simp; omega)); have hq1 := fun o => hc (w.heap.size + 1) o (by first | assumption | (simp; done) | (simp; omega)); have hz2 := hz (w.heap.size + 2) (by first | assumption | (simp; done) | (simp; omega)); have hq2 := fun o => hc (w.heap.size + 2) o (by first | assumption | (simp; done) | (simp; omega))
  go_wp2_with fail
  refine (HO.out _ ?_).mono ?_
  · exact (by repeat (first | exact Lo.refl _ | assumption | refine Lo.drew ?_ | refine Lo.alloc ?_ _ | refine Lo.setCell ?_ (by first | (dsimp only; omega) | (simp; omega) | (simp; done)) _ | refine Lo.trans ?_ (by assumption)))
  rintro e w3 ⟨v, rfl, hb, hrow⟩; obtain ⟨hc, hf, hz⟩ := hb.facts; have hz0 := hz w.heap.size (by first | assumption | (simp; done) | (simp; omega)); have hq0 := fun o => hc w.heap.size o (by first | assumption | (simp; done) | (simp; omega)); have hz1 := hz (w.heap.size + 1) (by first | assumption | (simp; done) | (simp; omega)); have hq1 := fun o => hc (w.heap.size + 1) o (by first | assumption | (simp; done) | (simp; omega)); have hz2 := hz (w.heap.size + 2) (by first | assumption | (simp; done) | (simp; omega)); have hq2 := fun o => hc (w.heap.size + 2) o (by first | assumption | (simp; done) | (simp; omega))
  have hlw3 : Lo w w3 := (by repeat (first | exact Lo.refl _ | assumption | refine Lo.drew ?_ | refine Lo.alloc ?_ _ | refine Lo.setCell ?_ (by first | (dsimp only; omega) | (simp; omega) | (simp; done)) _ | refine Lo.trans ?_ (by assumption)))
  obtain ⟨A1, cap1, rfl, hA1, hc1, hm1⟩ := hrow.at
  rw [hno]
  clear hrow hb HC HC' HO hc hf hz
  go_wp2
  go_loopw [16] (fun i wr => ∃ k : Nat, k ≤ no ∧ i = .int .i64 k ∧ Lo w3 wr) (fun i _ => no - (intOf i).toNat)
  case atStart => exact ⟨0, Nat.zero_le _, rfl, Lo.refl _⟩
  case round =>
    obtain ⟨k, hk, rfl, hlo⟩ := hrel
    have hb := hlo
    obtain ⟨hc, hf, hz⟩ := hb.facts; have hz0 := hz w.heap.size (by first | assumption | (simp; done) | (simp; omega)); have hq0 := fun o => hc w.heap.size o (by first | assumption | (simp; done) | (simp; omega)); have hz1 := hz (w.heap.size + 1) (by first | assumption | (simp; done) | (simp; omega)); have hq1 := fun o => hc (w.heap.size + 1) o (by first | assumption | (simp; done) | (simp; omega)); have hz2 := hz (w.heap.size + 2) (by first | assumption | (simp; done) | (simp; omega)); have hq2 := fun o => hc (w.heap.size + 2) o (by first | assumption | (simp; done) | (simp; omega))
    clear hb hc hf hz
    by_cases hlt : k < no
    · obtain ⟨b, off, cs, rfl, hb, hl2, hc', hr⟩ := (SliceAt.lo PolicyR.kept hA1 hlo (Nat.le_refl _)) k O[k] (List.getElem?_eq_getElem (by omega))
      obtain ⟨xa, xk, rfl⟩ := policyShape _ _ _ _ hr
      have hc0 : wr.cell? ⟨b, off + k * 5, none⟩ = _ := hc' 0 _ rfl
      have hc1 : wr.cell? ⟨b, off + k * 5 + 1, none⟩ = _ := hc' 1 _ rfl
      have hc2 : wr.cell? ⟨b, off + k * 5 + 2, none⟩ = _ := hc' 2 _ rfl
      have hc3 : wr.cell? ⟨b, off + k * 5 + 3, none⟩ = _ := hc' 3 _ rfl
      have hc4 : wr.cell? ⟨b, off + k * 5 + 4, none⟩ = _ := hc' 4 _ rfl
      have hp := HOh.out O[k] (List.getElem_mem (by omega))
      have HH : Hid (∀ W, Calls Try.prog 52 #[.agg #[.int .u64 O[k].id, .string O[k].ns, .int .u64 O[k].service, .int .i64 O[k].deny, .slice xa O[k].rules.length xk], .string ns, .int .u64 sv] W fun e w' => e = .returned (.bool true) ∧ Lo W w') := Lib.hid fun W => by
        have := holds O[k] ns sv xa O[k].rules.length xk W
        rwa [hp] at this
      clear hc' hl2 hr hp
      go_wp2_with fail
      refine (HH.out _).mono ?_
      rintro e w4 ⟨rfl, hb4⟩
      go_wp2
      go_roundw
      case rel => exact ⟨k + 1, by omega, by go_num, (by repeat (first | exact Lo.refl _ | assumption | refine Lo.drew ?_ | refine Lo.alloc ?_ _ | refine Lo.setCell ?_ (by first | (dsimp only; omega) | (simp; omega) | (simp; done)) _ | refine Lo.trans ?_ (by assumption)))⟩
      case measure => simp [intOf]; omega
    · obtain ⟨wa, rfl⟩ : ∃ wa : World, wa = wr := ⟨_, rfl⟩
      have hA2 := SliceAt.lo PolicyR.kept hA1 hlo (Nat.le_refl _)
      have hsa := hlo.size
      have hlwa := hlw3.trans hlo
      have HA1 := Lib.hid (HA.out wa A1 cap1 _ hsa hA2)
      rw [hno] at HA1
      go_wp2_with fail
      refine (HA1.out).mono ?_
      rintro e w4 ⟨v, rfl, hb, hrow⟩; obtain ⟨hc, hf, hz⟩ := hb.facts; have hz0 := hz w.heap.size (by first | assumption | (simp; done) | (simp; omega)); have hq0 := fun o => hc w.heap.size o (by first | assumption | (simp; done) | (simp; omega)); have hz1 := hz (w.heap.size + 1) (by first | assumption | (simp; done) | (simp; omega)); have hq1 := fun o => hc (w.heap.size + 1) o (by first | assumption | (simp; done) | (simp; omega)); have hz2 := hz (w.heap.size + 2) (by first | assumption | (simp; done) | (simp; omega)); have hq2 := fun o => hc (w.heap.size + 2) o (by first | assumption | (simp; done) | (simp; omega))
      obtain ⟨A2, cap2, rfl, hB1, hc2, hm2⟩ := hrow.at
      have hlw4 := hlwa.trans hb
      have hA3 := SliceAt.lo PolicyR.kept hA2 hb hsa
      have hB4 := Nat.le_trans hsa hb.size
      clear hrow hb HA1 hc hf hz
      rw [hno]
      have K1 := Lib.hid (J1.out w4 A1 cap1 _ hlw4 hB4 hA3)
      rw [hno] at K1
      go_wp2_with fail
      refine (K1.out).mono ?_
      rintro e w5 ⟨rfl, hb⟩; obtain ⟨hc, hf, hz⟩ := hb.facts; have hz0 := hz w.heap.size (by first | assumption | (simp; done) | (simp; omega)); have hq0 := fun o => hc w.heap.size o (by first | assumption | (simp; done) | (simp; omega)); have hz1 := hz (w.heap.size + 1) (by first | assumption | (simp; done) | (simp; omega)); have hq1 := fun o => hc (w.heap.size + 1) o (by first | assumption | (simp; done) | (simp; omega)); have hz2 := hz (w.heap.size + 2) (by first | assumption | (simp; done) | (simp; omega)); have hq2 := fun o => hc (w.heap.size + 2) o (by first | assumption | (simp; done) | (simp; omega))
      have hlw5 := hlw4.trans hb
      have hA4 := SliceAt.lo PolicyR.kept hA3 hb hB4
      have hB5 := Nat.le_trans hB4 hb.size
      have K2 := Lib.hid (J1.out w5 A2 cap2 _ hlw5 hb.size (SliceAt.lo PolicyR.kept hB1 hb (Nat.le_refl _)))
      rw [hno] at K2
      clear hb K1 hc hf hz
      go_wp2_with fail
      refine (K2.out).mono ?_
      rintro e w6 ⟨rfl, hb⟩; obtain ⟨hc, hf, hz⟩ := hb.facts; have hz0 := hz w.heap.size (by first | assumption | (simp; done) | (simp; omega)); have hq0 := fun o => hc w.heap.size o (by first | assumption | (simp; done) | (simp; omega)); have hz1 := hz (w.heap.size + 1) (by first | assumption | (simp; done) | (simp; omega)); have hq1 := fun o => hc (w.heap.size + 1) o (by first | assumption | (simp; done) | (simp; omega)); have hz2 := hz (w.heap.size + 2) (by first | assumption | (simp; done) | (simp; omega)); have hq2 := fun o => hc (w.heap.size + 2) o (by first | assumption | (simp; done) | (simp; omega))
      have hlw6 := hlw5.trans hb
      have hA5 := SliceAt.lo PolicyR.kept hA4 hb hB5
      have hB6 := Nat.le_trans hB5 hb.size
      clear hb K2 hA2 hA3 hA4 hc hf hz
      cases yes
      all_goals
        go_wp2
        go_loopw [22, 23] (fun i _ wr => ∃ k : Nat, k ≤ no ∧ i = .int .i64 k ∧ Lo w6 wr ∧ Hid ((O.take k).any (fun p => p.rules.any seventhP) = false)) (fun i _ _ => no - (intOf i).toNat)
        case atStart => exact ⟨0, Nat.zero_le _, rfl, Lo.refl _, Lib.hid rfl⟩
        case round =>
          obtain ⟨k, hk, rfl, hlo2, hall⟩ := hrel
          obtain ⟨wo, rfl⟩ : ∃ wo : World, wo = wr := ⟨_, rfl⟩
          by_cases hlt : k < no
          · obtain ⟨b, off, cs, rfl, hb, hl2, hc', hr⟩ := (SliceAt.lo PolicyR.kept hA5 hlo2 hB6) k O[k] (List.getElem?_eq_getElem (by omega))
            obtain ⟨_, _, _, _, _, rfl, -, -, -, -, ⟨A4, p4, e4, h4, l4, m4⟩⟩ := hr
            injection e4 with e4; subst e4
            have hc4 : wo.cell? ⟨b, off + k * 5 + 4, none⟩ = _ := hc' 4 _ rfl
            have hpl : longPol O[k] = false := any_no HOl.out (List.getElem_mem (by omega))
            simp only [longPol, Bool.or_eq_false_iff] at hpl
            have HRL := Lib.hid hpl.2
            have HY : Hid (O[k].rules.any seventhP = false → (O.take (k + 1)).any (fun p => p.rules.any seventhP) = false) := Lib.hid fun h => WIdxWhen.any_snoc' (p := fun p : Pl.Policy => p.rules.any seventhP) hall.out (by omega) h
            clear hc' hl2 hpl
            generalize O[k].rules = rs at *
            have hns : rs.length ≤ 9223372036854775807 := by unfold maxLen at m4; omega
            have hBo := Nat.le_trans hB6 hlo2.size
            go_wp2
            go_loopw [23] (fun i wr => ∃ j : Nat, j ≤ rs.length ∧ i = .int .i64 j ∧ Lo wo wr ∧ Hid ((rs.take j).any seventhP = false)) (fun i _ => rs.length - (intOf i).toNat)
            case atStart => exact ⟨0, Nat.zero_le _, rfl, Lo.refl _, Lib.hid rfl⟩
            case round =>
              obtain ⟨j, hj, rfl, hlo3, hall3⟩ := hrel
              have hc4' := lo_keep hlo3 hc4
              by_cases hjl : j < rs.length
              · obtain ⟨b2, off2, cs2, rfl, hb2, hl3, hd', hr2⟩ := (SliceAt.lo RuleR.kept h4 hlo3 hBo) j rs[j] (List.getElem?_eq_getElem hjl)
                obtain ⟨d0, d1, d2, rfl⟩ : ∃ d0 d1 d2, cs2 = [d0, d1, d2] := by
                  match cs2, hl3 with
                  | [d0, d1, d2], _ => exact ⟨d0, d1, d2, rfl⟩
                have hd0 : wr.cell? ⟨b2, off2 + j * 3, none⟩ = _ := hd' 0 _ rfl
                have hd1 : wr.cell? ⟨b2, off2 + j * 3 + 1, none⟩ = _ := hd' 1 _ rfl
                have hd2 : wr.cell? ⟨b2, off2 + j * 3 + 2, none⟩ = _ := hd' 2 _ rfl
                have hrl : longRule rs[j] = false := any_no HRL.out (List.getElem_mem hjl)
                simp only [longRule, Bool.or_eq_false_iff] at hrl
                have HC := Lib.hid (seventh rs[j] d0 d1 d2 wr (Nat.le_trans hBo hlo3.size) hr2 hrl.1.2)
                clear hd' hl3 hr2 hrl
                cases hM : seventhP rs[j]
                · have HM := Lib.hid hM
                  have HN := Lib.hid (WIdxWhen.any_snoc' hall3.out hjl hM)
                  clear hM
                  go_wp2_with fail
                  refine (HC.out).mono ?_
                  rw [HM.out]
                  rintro e w7 ⟨rfl, hb7⟩
                  go_wp2
                  go_roundw
                  case rel => exact ⟨j + 1, by omega, by go_num, (by repeat (first | exact Lo.refl _ | assumption | refine Lo.drew ?_ | refine Lo.alloc ?_ _ | refine Lo.setCell ?_ (by first | (dsimp only; omega) | (simp; omega) | (simp; done)) _ | refine Lo.trans ?_ (by assumption))), HN⟩
                  case measure => simp [intOf]; omega
                · have HM := Lib.hid hM
                  clear hM
                  go_wp2_with fail
                  refine (HC.out).mono ?_
                  rw [HM.out]
                  rintro e w7 ⟨rfl, hb7⟩
                  go_wp2_with fail
                  refine (awake13 _).mono ?_
                  rintro e w8 ⟨rfl, hb8⟩
                  go_wp2
                  go_ret
                  exact ⟨rfl, (by repeat (first | exact Lo.refl _ | assumption | refine Lo.drew ?_ | refine Lo.alloc ?_ _ | refine Lo.setCell ?_ (by first | (dsimp only; omega) | (simp; omega) | (simp; done)) _ | refine Lo.trans ?_ (by assumption)))⟩
              · have HF := hall3.out
                rw [List.take_of_length_le (by omega)] at HF
                have HZ := Lib.hid (HY.out HF)
                clear HF
                go_wp2
                go_roundw
                case rel => exact ⟨k + 1, by omega, by go_num, (by repeat (first | exact Lo.refl _ | assumption | refine Lo.drew ?_ | refine Lo.alloc ?_ _ | refine Lo.setCell ?_ (by first | (dsimp only; omega) | (simp; omega) | (simp; done)) _ | refine Lo.trans ?_ (by assumption))), HZ⟩
                case measure => simp [intOf]; omega
          · have HF := hall.out
            rw [List.take_of_length_le (by omega)] at HF
            have hb := hlo2
            obtain ⟨hc, hf, hz⟩ := hb.facts; have hz0 := hz w.heap.size (by first | assumption | (simp; done) | (simp; omega)); have hq0 := fun o => hc w.heap.size o (by first | assumption | (simp; done) | (simp; omega)); have hz1 := hz (w.heap.size + 1) (by first | assumption | (simp; done) | (simp; omega)); have hq1 := fun o => hc (w.heap.size + 1) o (by first | assumption | (simp; done) | (simp; omega)); have hz2 := hz (w.heap.size + 2) (by first | assumption | (simp; done) | (simp; omega)); have hq2 := fun o => hc (w.heap.size + 2) o (by first | assumption | (simp; done) | (simp; omega))
            have K3 := Lib.hid (J2.out HF wo A1 cap1 _ (hlw6.trans hlo2) (Nat.le_trans hB6 hlo2.size) (SliceAt.lo PolicyR.kept hA5 hlo2 hB6))
            rw [hno] at K3
            clear HF hb hc hf hz
            go_wp2_with fail
            refine (K3.out).mono ?_
            rintro e w7 ⟨rfl, hb7⟩
            go_wp2_with fail
            refine (awake13 _).mono ?_
            rintro e w8 ⟨rfl, hb8⟩
            go_wp2
            go_ret
            exact ⟨rfl, (by repeat (first | exact Lo.refl _ | assumption | refine Lo.drew ?_ | refine Lo.alloc ?_ _ | refine Lo.setCell ?_ (by first | (dsimp only; omega) | (simp; omega) | (simp; done)) _ | refine Lo.trans ?_ (by assumption)))⟩
theorem walk (l : List Pl.Policy) (A0 : Option Addr) (cap0 : Nat) (a : Pl.Asker) (port : Int) (q : Pl.Req) (A : Option Addr) (cap : Nat) (tg qu : ByteArray) (bd : Value) (hbd : bd.oneCell' = true) (q' : Pl.Req) (A' : Option Addr) (cap' : Nat) (tg' qu' : ByteArray) (bd' : Value) (hbd' : bd'.oneCell' = true) (ns : ByteArray) (sv : Int) (zns : ns.size ≤ maxLen) (w : World)
    (hA : SliceAt PolicyR 5 w.heap.size w A0 l) (hn : l.length ≤ maxLen) (hf : Fits0 w.heap.size w a q A) (hf' : Fits0 w.heap.size w a q' A') :
    Calls Try.prog 13 #[.slice A0 l.length cap0, whoV a, .int .i64 port, askedV q A cap tg qu bd, askedV q' A' cap' tg' qu' bd', .string ns, .int .u64 sv] w fun e w' => e = .returned (.bool true) ∧ Lo w w' := by
  by_cases h : long13 l a q = false ∧ long13 [] a q' = false ∧ ¬ 600 < ns.size
  · exact walk_fit l A0 cap0 a port q A cap tg qu bd hbd q' A' cap' tg' qu' bd' hbd' ns sv zns w hA hn hf hf' h.1 h.2.1 h.2.2
  · refine walk_long l A0 cap0 a port q A cap tg qu bd hbd q' A' cap' tg' qu' bd' hbd' ns sv zns w hA hn hf hf' ?_
    cases h1 : long13 l a q
    · right
      refine ⟨rfl, ?_⟩
      cases h2 : long13 [] a q'
      · right
        refine ⟨rfl, ?_⟩
        rw [h1, h2] at h
        simpa using h
      · exact .inl rfl
    · exact .inl rfl
end Go.Proofs.Ytlcecabfmemfeaa.AuthBlind
