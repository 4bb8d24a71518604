/- The walk of chapter 7's reference Parse. -/
import Derived.Test.YtlcecabfmemfeaaWRef7
import Derived.Test.YtlcecabfmemfeaaWTerm
import Derived.Test.YtlcecabfmemfeaaMem2
import Derived.Deep.RegionLawGrows
namespace Go.Proofs.Ytlcecabfmemfeaa.WMatch
set_option linter.unusedVariables false
set_option linter.unusedSimpArgs false
open Go.RowKit Mem BigFrame

theorem Try.infoTerm7 : (Try.prog.info? 23).map (fun i => (i.zero, i.size, i.bytes)) = some (some (.agg #[.int .i64 0, .string ⟨#[]⟩]), 2, 24) := by kernel_rfl
def refCandsT (s : ByteArray) : List Pl.Term := if s.size = 0 then [⟨4, ⟨#[]⟩⟩, ⟨1, s⟩] else [⟨4, ⟨#[]⟩⟩, ⟨1, s⟩, ⟨2, s.extract 0 (s.size - 1)⟩, ⟨3, s.extract 1 s.size⟩]
def fitT (s : ByteArray) (t : Pl.Term) : Bool := Pl.may t.k t.s.toList && decide (textB t.k t.s = s)
/-- what the reference's Parse gives -/
def refParW : Option Pl.Term → Value
  | some t => .tuple #[.agg #[.int .i64 t.k, .string t.s], .bool true]
  | none => .tuple #[.agg #[.int .i64 0, .string ⟨#[]⟩], .bool false]
theorem find_at {α : Type} {l : List α} {p : α → Bool} {n : Nat} (h : (l.take n).any p = false) (hn : n < l.length) (hp : p l[n] = true) : l.find? p = some l[n] := by
  have h1 : l.find? p = ((l.take n) ++ l.drop n).find? p := by rw [List.take_append_drop]
  rw [h1, List.find?_append, List.find?_eq_none.2 (by simpa using h), List.drop_eq_getElem_cons hn, List.find?_cons_of_pos hp]; rfl
theorem news7 {w : World} {n : Nat} {xs : List Value} (h : w.heap[n]? = some (.cells xs.toArray 23 (0, 0))) : ∀ (j : Nat) u, xs[j]? = some u → w.cell? ((⟨n, 0, none⟩ : Addr).add j) = some u := by
  intro j u hj
  rw [addr_add]
  simp only [World.cell?, h]
  simpa using hj
theorem Terms.of_owns7 {w : World} {base g n cap : Nat} {ts : List Pl.Term} (h : w.ownsRow base 23 2 (.slice (some ⟨g, 0, none⟩) n cap) n (ts.flatMap termCells)) (hz : ∀ t ∈ ts, t.s.size ≤ maxLen) : Terms w.heap.size w (some ⟨g, 0, none⟩) ts := by
  obtain ⟨hl, ⟨h0, _⟩ | ⟨g', cap', cur, hv, _, hh, _, _, _, ht⟩⟩ := h
  · cases h0
  · injection hv with h1 h2 h3
    injection h1 with h1; injection h1 with h1; subst h1
    refine Terms.of_block hh (fun i v hi => ?_) hz
    rw [← ht, List.getElem?_take] at hi
    split at hi
    · simpa using hi
    · cases hi
theorem find_none {α : Type} {l : List α} {p : α → Bool} (h : l.any p = false) : l.find? p = none := List.find?_eq_none.2 (by simpa using h)
theorem fit_size {s : ByteArray} {t : Pl.Term} (hz : t.s.size ≤ maxLen) (hm : Pl.may t.k t.s.toList = true) : t.s.size < maxLen := by
  have := Pl.may_len hm
  rw [toList_len] at this
  unfold maxLen; omega

set_option maxRecDepth 100000 in
set_option maxHeartbeats 2000000 in
theorem refParse_none (s : ByteArray) (w : World) (hs : s.size ≤ maxLen) (h0 : s.size = 0) :
    Calls Try.prog 33 #[.string s] w fun e w' => e = .returned (refParW ((refCandsT s).find? (fitT s))) ∧ Lo w w' := by
  have hcs : refCandsT s = [⟨4, ⟨#[]⟩⟩, ⟨1, s⟩] := by unfold refCandsT; rw [if_pos h0]
  obtain ⟨cs, hcs'⟩ : ∃ cs, cs = refCandsT s := ⟨_, rfl⟩
  rw [← hcs']
  rw [hcs] at hcs'
  clear hcs
  have HCS := Lib.hid hcs'
  clear hcs'
  have hz0' : (⟨#[]⟩ : ByteArray).size ≤ maxLen := by decide
  have HS := Lib.hid hs
  unfold maxLen at hs
  obtain ⟨i0, hi, hz0, hz1, hz2⟩ := info_parts Try.infoTerm7
  go_enter Try.func33, Try.ntmps33
  go_wp2
  have hcs := HCS.out
  have hT : Terms (w.heap.size + 2) ((w.alloc (.cells #[.int .i64 0, .string ⟨#[]⟩] 23)).alloc (.cells #[.int .i64 4, .string ⟨#[]⟩, .int .i64 1, .string s] 23)) (some ⟨w.heap.size + 1, 0, none⟩) cs := by
    subst hcs
    have := Terms.of_new (w := (w.alloc (.cells #[.int .i64 0, .string ⟨#[]⟩] 23)).alloc (.cells #[.int .i64 4, .string ⟨#[]⟩, .int .i64 1, .string s] 23)) (b := w.heap.size + 1) (ts := [⟨4, ⟨#[]⟩⟩, ⟨1, s⟩]) (heap_new_at (by simp)) (by simp [HS.out, hz0'])
    simpa using this
  have hlen : cs.length = 2 := by subst hcs; rfl
  clear hcs
  obtain ⟨w2, hw2⟩ : ∃ w2, w2 = ((w.alloc (.cells #[.int .i64 0, .string ⟨#[]⟩] 23)).alloc (.cells #[.int .i64 4, .string ⟨#[]⟩, .int .i64 1, .string s] 23)) := ⟨_, rfl⟩
  rw [← hw2] at hT ⊢
  have hlo2 : Lo w w2 := by
    subst hw2
    exact (by repeat (first | exact Lo.refl _ | assumption | refine Lo.drew ?_ | refine Lo.alloc ?_ _ | refine Lo.setCell ?_ (by first | (dsimp only; omega) | (simp; omega) | (simp; done)) _ | refine Lo.trans ?_ (by assumption)))
  have hcz : w2.heap[w.heap.size]? = some (.cells #[.int .i64 0, .string ⟨#[]⟩] 23 (0, 0)) := by
    subst hw2
    exact ((Lo.refl _).alloc _).block (heap_new_at rfl)
  have hB : w.heap.size + 2 ≤ w2.heap.size := by subst hw2; simp
  have hlw2 : w.heap.size < w2.heap.size := by omega
  have g0 : w2.cell? ⟨w.heap.size, 0, none⟩ = some (.int .i64 0) := by simp [World.cell?, hcz]
  have g1 : w2.cell? ⟨w.heap.size, 1, none⟩ = some (.string ⟨#[]⟩) := by simp [World.cell?, hcz]
  have fz : ∀ o, w2.frozen? ⟨w.heap.size, o, none⟩ = false := fun o => by simp [World.frozen?, hcz]
  clear hw2 hcz
  go_loopw [5] (fun i wr => ∃ k : Nat, k ≤ cs.length ∧ i = .int .i64 k ∧ Lo w2 wr ∧ Hid ((cs.take k).any (fitT s) = false)) (fun i _ => cs.length - (intOf i).toNat)
  case atStart => exact ⟨0, Nat.zero_le _, rfl, Lo.refl _, Lib.hid rfl⟩
  case round =>
    obtain ⟨k, hk, rfl, hlo, hall⟩ := hrel
    have hlw := hlo2.trans hlo
    have fr : ∀ o, wr.frozen? ⟨w.heap.size, o, none⟩ = false := fun o => by rw [hlo.facts.2.1 _ _ hlw2]; exact fz o
    have hsz1 := hlw.size
    have hsz2 := hlo.size
    by_cases hlt : k < cs.length
    · obtain ⟨b, off, hA, hbb, hc0, hc1, hz⟩ := (hT.lo hlo (by omega)).at_ hlt
      have hlt' := hlt
      rw [hlen] at hlt'
      injection hA with hA; injection hA with e1 e2; subst e1 e2
      simp only [Nat.zero_add] at hc0 hc1
      have hbr := World.block_lt_of_cell? wr _ hc0
      have hzr : w.heap.size < wr.heap.size := by omega
      have j0 := lo_keep hlo g0
      have j1 := lo_keep hlo g1
      cases hm : Pl.may cs[k].k cs[k].s.toList with
      | false =>
        have hf : fitT s cs[k] = false := by unfold fitT; rw [hm]; rfl
        have HF := Lib.hid hf
        have HM := Lib.hid hm
        clear hf hm
        go_wp2_with (go_at_call 28; refine (refMay _ _ _ (by assumption)).mono ?_; rintro e w1 ⟨rfl, hb1⟩; rw [HM.out])
        go_roundw
        case rel => exact ⟨k + 1, by omega, by go_num, (by repeat (first | exact Lo.refl _ | assumption | refine Lo.drew ?_ | refine Lo.alloc ?_ _ | refine Lo.setCell ?_ (by first | (dsimp only; omega) | (simp; omega) | (simp; done)) _ | refine Lo.trans ?_ (by assumption))), Lib.hid (any_snoc hall.out hlt HF.out)⟩
        case measure => simp [intOf]; omega
      | true =>
        have hz' : cs[k].s.size < maxLen := fit_size (s := s) hz hm
        by_cases hx : textB cs[k].k cs[k].s = s
        · have hf : fitT s cs[k] = true := by unfold fitT; rw [hm, hx]; simp
          have hfin : refParW (cs.find? (fitT s)) = .tuple #[.agg #[.int .i64 cs[k].k, .string cs[k].s], .bool true] := by rw [find_at hall.out hlt hf]; rfl
          have HFIN := Lib.hid hfin
          have HM := Lib.hid hm
          have HX := Lib.hid hx
          clear hf hm hx hfin
          go_wp2_with (first
            | (go_at_call 28; refine (refMay _ _ _ (by assumption)).mono ?_; rintro e w1 ⟨rfl, hb⟩; (have k0 := lo_keep hb hc0); (have k1 := lo_keep hb hc1); (have j2 := lo_keep hb j0); (have j3 := lo_keep hb j1); (have fr2 := fun o => (hb.facts.2.1 w.heap.size o hzr).trans (fr o)); (have hz2 := hb.facts.2.2 _ hzr); rw [HM.out])
            | (go_at_call 32; refine (refPrint _ _ _ (by assumption)).mono ?_; rintro e w3 ⟨rfl, hb⟩; (have k2 := lo_keep hb k0); (have k3 := lo_keep hb k1); (have j4 := lo_keep hb j2); (have j5 := lo_keep hb j3); (have fr3 := fun o => (hb.facts.2.1 w.heap.size o hz2).trans (fr2 o)); (have hz3 := hb.facts.2.2 _ hz2); rw [HX.out]))
          exact bodyPost_ret (v := .tuple #[.agg #[.int .i64 cs[k].k, .string cs[k].s], .bool true]) (by simp [results, Try.results33, go_sem, j4, j5]) rfl ⟨congrArg _ HFIN.out.symm, (by repeat (first | exact Lo.refl _ | assumption | refine Lo.drew ?_ | refine Lo.alloc ?_ _ | refine Lo.setCell ?_ (by first | (dsimp only; omega) | (simp; omega) | (simp; done)) _ | refine Lo.trans ?_ (by assumption)))⟩
        · have hf : fitT s cs[k] = false := by unfold fitT; rw [hm]; simpa using hx
          have HF := Lib.hid hf
          have HM := Lib.hid hm
          have hx2 : ((textB cs[k].k cs[k].s).toList == s.toList) = false := by rw [beq_eq_false_iff_ne]; exact fun h => hx (bs_inj h)
          clear hf hm
          go_wp2_with (first
            | (go_at_call 28; refine (refMay _ _ _ (by assumption)).mono ?_; rintro e w1 ⟨rfl, hb⟩; (have k0 := lo_keep hb hc0); (have k1 := lo_keep hb hc1); (have j2 := lo_keep hb j0); (have j3 := lo_keep hb j1); (have fr2 := fun o => (hb.facts.2.1 w.heap.size o hzr).trans (fr o)); (have hz2 := hb.facts.2.2 _ hzr); rw [HM.out])
            | (go_at_call 32; refine (refPrint _ _ _ (by assumption)).mono ?_; rintro e w3 ⟨rfl, hb⟩; (have k2 := lo_keep hb k0); (have k3 := lo_keep hb k1); (have j4 := lo_keep hb j2); (have j5 := lo_keep hb j3); (have fr3 := fun o => (hb.facts.2.1 w.heap.size o hz2).trans (fr2 o)); (have hz3 := hb.facts.2.2 _ hz2)))
          all_goals first
            | (exact absurd (show ((textB cs[k].k cs[k].s).toList == s.toList) = true by assumption) (by rw [hx2]; exact Bool.false_ne_true))
            | (go_roundw
               case rel => exact ⟨k + 1, by omega, by go_num, (by repeat (first | exact Lo.refl _ | assumption | refine Lo.drew ?_ | refine Lo.alloc ?_ _ | refine Lo.setCell ?_ (by first | (dsimp only; omega) | (simp; omega) | (simp; done)) _ | refine Lo.trans ?_ (by assumption))), Lib.hid (any_snoc hall.out hlt HF.out)⟩
               case measure => simp [intOf]; omega)
    · have hlt' : ¬ k < cs.length := hlt
      rw [hlen] at hlt'
      have HF := hall.out
      rw [List.take_of_length_le (by omega)] at HF
      have hfin : refParW (cs.find? (fitT s)) = .tuple #[.agg #[.int .i64 0, .string ⟨#[]⟩], .bool false] := by rw [find_none HF]; rfl
      have HFIN := Lib.hid hfin
      clear hfin HF
      have j0 := lo_keep hlo g0
      have j1 := lo_keep hlo g1
      go_wp2
      exact bodyPost_ret (v := .tuple #[.agg #[.int .i64 0, .string ⟨#[]⟩], .bool false]) (by simp [results, Try.results33, go_sem, j0, j1]) rfl ⟨congrArg _ HFIN.out.symm, (by repeat (first | exact Lo.refl _ | assumption | refine Lo.drew ?_ | refine Lo.alloc ?_ _ | refine Lo.setCell ?_ (by first | (dsimp only; omega) | (simp; omega) | (simp; done)) _ | refine Lo.trans ?_ (by assumption)))⟩

set_option maxRecDepth 100000 in
set_option maxHeartbeats 2000000 in
theorem refParse_some (s : ByteArray) (w : World) (hs : s.size ≤ maxLen) (h0 : 0 < s.size) :
    Calls Try.prog 33 #[.string s] w fun e w' => e = .returned (refParW ((refCandsT s).find? (fitT s))) ∧ Lo w w' := by
  have hcs : refCandsT s = [⟨4, ⟨#[]⟩⟩, ⟨1, s⟩, ⟨2, s.extract 0 (s.size - 1)⟩, ⟨3, s.extract 1 s.size⟩] := by unfold refCandsT; rw [if_neg (by omega)]
  obtain ⟨cs, hcs'⟩ : ∃ cs, cs = refCandsT s := ⟨_, rfl⟩
  rw [← hcs']
  rw [hcs] at hcs'
  clear hcs
  have HCS := Lib.hid hcs'
  clear hcs'
  have hz0' : (⟨#[]⟩ : ByteArray).size ≤ maxLen := by decide
  have HS := Lib.hid hs
  unfold maxLen at hs
  obtain ⟨i0, hi, hz0, hz1, hz2⟩ := info_parts Try.infoTerm7
  go_enter Try.func33, Try.ntmps33
  have hw1 : IntKind.i64.wrap ((s.size : Int) - 1) = (s.size : Int) - 1 := by
    rw [IntKind.wrap_i64]; omega
  go_wp2
  obtain ⟨cs0, hcs0⟩ : ∃ cs0 : Array Value, cs0 = #[.int .i64 4, .string ⟨#[]⟩, .int .i64 1, .string s] := ⟨_, rfl⟩
  rw [← hcs0]
  obtain ⟨wz, hwz⟩ : ∃ wz, wz = ((w.alloc (.cells #[.int .i64 0, .string ⟨#[]⟩] 23)).alloc (.cells cs0 23)) := ⟨_, rfl⟩
  rw [← hwz]
  have hlo : Lo w wz := by
    subst hwz
    exact (by repeat (first | exact Lo.refl _ | assumption | refine Lo.drew ?_ | refine Lo.alloc ?_ _ | refine Lo.setCell ?_ (by first | (dsimp only; omega) | (simp; omega) | (simp; done)) _ | refine Lo.trans ?_ (by assumption)))
  have hcz : wz.heap[w.heap.size]? = some (.cells #[.int .i64 0, .string ⟨#[]⟩] 23 (0, 0)) := by
    subst hwz
    exact ((Lo.refl _).alloc _).block (heap_new_at rfl)
  have hsz : wz.heap.size = w.heap.size + 2 := by subst hwz; simp
  have hown : wz.ownsRow (w.heap.size + 1) 23 2 (.slice (some ⟨w.heap.size + 1, 0, none⟩) 2 2) 2 cs0.toList := by
    subst hwz hcs0
    have := World.ownsRow_lit (base := w.heap.size + 1) (e := 23) (size := 2) (w.alloc (.cells #[.int .i64 0, .string ⟨#[]⟩] 23)) #[.int .i64 4, .string ⟨#[]⟩, .int .i64 1, .string s] 2 (by simp) (by simp [maxLen]) rfl
    simpa using this
  clear hwz
  refine wp_region_each 11 50 (fun i v w' => match i with
      | 0 => v = .slice (some ⟨w.heap.size + 1, 0, none⟩) 2 2
      | 1 => v = .string s
      | 2 => v = .string s
      | 3 => v = .int .i64 s.size
      | 4 => v = .int .i64 (s.size - 1)
      | 5 => v = .string (s.extract 0 (s.size - 1))
      | 6 => v = .agg #[.int .i64 2, .string (s.extract 0 (s.size - 1))]
      | 7 => v = .string s
      | 8 => v = .string (s.extract 1 s.size)
      | 9 => v = .agg #[.int .i64 3, .string (s.extract 1 s.size)]
      | 10 => ∃ n, v = .slice (some ⟨n, 0, none⟩) 2 2 ∧ w'.heap[n]? = some (.cells #[.int .i64 2, .string (s.extract 0 (s.size - 1)), .int .i64 3, .string (s.extract 1 s.size)] 23 (0, 0))
      | _ => True) (by kernel_rfl) rfl (by kernel_rfl) ?_ ?_ ?_
  · intro i v w1 w2 h hl
    match i, h with
    | 0, h => exact h
    | 1, h => exact h
    | 2, h => exact h
    | 3, h => exact h
    | 4, h => exact h
    | 5, h => exact h
    | 6, h => exact h
    | 7, h => exact h
    | 8, h => exact h
    | 9, h => exact h
    | 10, ⟨n, hv, hn⟩ => exact ⟨n, hv, hl.block hn⟩
    | _ + 11, _ => trivial
  · intro i o hiN ho a w' hl hd hold
    match i, hiN with
    | 0, _ =>
      injection ho with ho; subst ho
      have h0 := hold 4 (by kernel_rfl)
      simp [Act.eval] at h0
      refine wp_of_run (v := .slice (some ⟨w.heap.size + 1, 0, none⟩) 2 2) (w' := w') (by simp [go_sem, h0]) ⟨_, rfl, Lo.refl _, rfl⟩
    | 1, _ =>
      injection ho with ho; subst ho
      have h0 := hold 0 (by kernel_rfl)
      simp [Act.eval] at h0
      refine wp_of_run (v := .string s) (w' := w') (by simp [go_sem, h0]) ⟨_, rfl, Lo.refl _, rfl⟩
    | 2, _ =>
      injection ho with ho; subst ho
      have h0 := hold 0 (by kernel_rfl)
      simp [Act.eval] at h0
      refine wp_of_run (v := .string s) (w' := w') (by simp [go_sem, h0]) ⟨_, rfl, Lo.refl _, rfl⟩
    | 3, _ =>
      injection ho with ho; subst ho
      have h2 := hd 2 (by kernel_rfl) 15 (by kernel_rfl)
      simp [Act.eval] at h2
      refine wp_of_run (v := .int .i64 s.size) (w' := w') (by simp [go_sem, h2]) ⟨_, rfl, Lo.refl _, rfl⟩
    | 4, _ =>
      injection ho with ho; subst ho
      have h3 := hd 3 (by kernel_rfl) 16 (by kernel_rfl)
      simp [Act.eval] at h3
      refine wp_of_run (v := .int .i64 (s.size - 1)) (w' := w') (by simp [go_sem, h3, hw1]) ⟨_, rfl, Lo.refl _, rfl⟩
    | 5, _ =>
      injection ho with ho; subst ho
      have h1 := hd 1 (by kernel_rfl) 14 (by kernel_rfl)
      simp [Act.eval] at h1
      have h4 := hd 4 (by kernel_rfl) 17 (by kernel_rfl)
      simp [Act.eval] at h4
      refine wp_of_run (v := .string (s.extract 0 (s.size - 1))) (w' := w') (by simp [go_sem, h1, h4]; intros; omega) ⟨_, rfl, Lo.refl _, rfl⟩
    | 6, _ =>
      injection ho with ho; subst ho
      have h5 := hd 5 (by kernel_rfl) 18 (by kernel_rfl)
      simp [Act.eval] at h5
      refine wp_of_run (v := .agg #[.int .i64 2, .string (s.extract 0 (s.size - 1))]) (w' := w') (by simp [go_sem, h5]) ⟨_, rfl, Lo.refl _, rfl⟩
    | 7, _ =>
      injection ho with ho; subst ho
      have h0 := hold 0 (by kernel_rfl)
      simp [Act.eval] at h0
      refine wp_of_run (v := .string s) (w' := w') (by simp [go_sem, h0]) ⟨_, rfl, Lo.refl _, rfl⟩
    | 8, _ =>
      injection ho with ho; subst ho
      have h7 := hd 7 (by kernel_rfl) 20 (by kernel_rfl)
      simp [Act.eval] at h7
      refine wp_of_run (v := .string (s.extract 1 s.size)) (w' := w') (by simp [go_sem, h7]; intros; omega) ⟨_, rfl, Lo.refl _, rfl⟩
    | 9, _ =>
      injection ho with ho; subst ho
      have h8 := hd 8 (by kernel_rfl) 21 (by kernel_rfl)
      simp [Act.eval] at h8
      refine wp_of_run (v := .agg #[.int .i64 3, .string (s.extract 1 s.size)]) (w' := w') (by simp [go_sem, h8]) ⟨_, rfl, Lo.refl _, rfl⟩
    | 10, _ =>
      injection ho with ho; subst ho
      have h6 := hd 6 (by kernel_rfl) 19 (by kernel_rfl)
      have h9 := hd 9 (by kernel_rfl) 22 (by kernel_rfl)
      simp [Act.eval] at h6 h9
      refine wp_of_run (v := .slice (some ⟨w'.heap.size, 0, none⟩) 2 2) (w' := w'.alloc (.cells #[.int .i64 2, .string (s.extract 0 (s.size - 1)), .int .i64 3, .string (s.extract 1 s.size)] 23)) (by simp [go_sem, h6, h9]) ⟨_, rfl, (Lo.refl _).alloc _, _, rfl, heap_new_at rfl⟩
  · intro v w' hl hp
    have p0 := hp 0 (by omega)
    have p1 := hp 1 (by omega)
    have p2 := hp 2 (by omega)
    have p3 := hp 3 (by omega)
    have p4 := hp 4 (by omega)
    have p5 := hp 5 (by omega)
    have p6 := hp 6 (by omega)
    have p7 := hp 7 (by omega)
    have p8 := hp 8 (by omega)
    have p9 := hp 9 (by omega)
    have p10 := hp 10 (by omega)
    clear hp
    simp only [List.range_succ, List.range_zero, List.nil_append, List.cons_append, List.foldl_cons, List.foldl_nil, List.drop_succ_cons, List.drop_zero, dstOf, List.getElem?_toArray, List.getElem?_cons_zero, List.getElem?_cons_succ, Option.bind_some, Act.put, List.setIfInBounds_toArray, List.set_cons_zero, List.set_cons_succ]
    generalize v 0 = v0 at *
    generalize v 1 = v1 at *
    generalize v 2 = v2 at *
    generalize v 3 = v3 at *
    generalize v 4 = v4 at *
    generalize v 5 = v5 at *
    generalize v 6 = v6 at *
    generalize v 7 = v7 at *
    generalize v 8 = v8 at *
    generalize v 9 = v9 at *
    generalize v 10 = v10 at *
    subst p0 p1 p2 p3 p4 p5 p6 p7 p8 p9
    obtain ⟨n0, rfl, hn0⟩ := p10
    have hown' := hl.owns hown
    have hlo' := hlo.trans hl
    have hcz' := hl.block hcz
    have hszl := hl.size
    clear hl hcz hlo hown
    subst hcs0
    refine wpList_append_own _ rfl (.tmp 13) (.tmp 23) 38 rfl (w.heap.size + 1) 23 i0 _ 2 24 Try.underlying38 hi hz0 hz1 hz2 rfl (by omega) (.slice (some ⟨w.heap.size + 1, 0, none⟩) 2 2) 2 _ rfl hown'
      ⟨n0, 0, none⟩ 2 2 [.int .i64 2, .string (s.extract 0 (s.size - 1)), .int .i64 3, .string (s.extract 1 s.size)] rfl rfl (news7 hn0) (by simp [Value.oneCell']) (by simp [maxLen]) (by omega) (by omega) ?_
    intro vm w2 hown2 hgr2 _
    change w'.grownBy w2 (some (w.heap.size + 1)) at hgr2
    obtain ⟨g, cp, rfl, hgm⟩ := owns_form hown2 (by omega)
    have hlo2 : Lo w w2 := hlo'.grown hgr2 (by intro k' hk; injection hk with hk; subst hk; omega)
    have g0 : w2.cell? ⟨w.heap.size, 0, none⟩ = some (.int .i64 0) := hgr2.cell (by simp [World.cell?, hcz']) (by simp)
    have g1 : w2.cell? ⟨w.heap.size, 1, none⟩ = some (.string ⟨#[]⟩) := hgr2.cell (by simp [World.cell?, hcz']) (by simp)
    have hcz2 := (hgr2.block w.heap.size (by omega) (by simp)).trans hcz'
    have fz : ∀ o, w2.frozen? ⟨w.heap.size, o, none⟩ = false := fun o => by simp [World.frozen?, hcz2]
    clear hcz2
    have hB : w.heap.size + 2 ≤ w2.heap.size := by have := hgr2.size; omega
    have hlw2 : w.heap.size < w2.heap.size := by omega
    clear hgr2 hcz' hlo' hown' hn0
    have hcs := HCS.out
    have hT : Terms w2.heap.size w2 (some ⟨g, 0, none⟩) cs := by
      subst hcs
      refine Terms.of_owns7 (n := 4) (base := w.heap.size + 1) (cap := cp) (by simpa [termCells] using hown2) ?_
      have z1 := HS.out
      have z2 : (s.extract 0 (s.size - 1)).size ≤ maxLen := by rw [← toList_len, extract_list]; simp [toList_len]; unfold maxLen; omega
      have z3 : (s.extract 1 s.size).size ≤ maxLen := by rw [← toList_len, extract_list]; simp [toList_len]; unfold maxLen; omega
      intro t ht
      simp only [List.mem_cons, List.not_mem_nil, or_false] at ht
      rcases ht with rfl | rfl | rfl | rfl
      · exact hz0'
      · exact z1
      · exact z2
      · exact z3
    have hlen : cs.length = 4 := by subst hcs; rfl
    clear hcs hown2
    go_wp2
    go_loopw [5] (fun i wr => ∃ k : Nat, k ≤ cs.length ∧ i = .int .i64 k ∧ Lo w2 wr ∧ Hid ((cs.take k).any (fitT s) = false)) (fun i _ => cs.length - (intOf i).toNat)
    case atStart => exact ⟨0, Nat.zero_le _, rfl, Lo.refl _, Lib.hid rfl⟩
    case round =>
      obtain ⟨k, hk, rfl, hlo, hall⟩ := hrel
      have hlw := hlo2.trans hlo
      have fr : ∀ o, wr.frozen? ⟨w.heap.size, o, none⟩ = false := fun o => by rw [hlo.facts.2.1 _ _ hlw2]; exact fz o
      have hsz1 := hlw.size
      have hsz2 := hlo.size
      by_cases hlt : k < cs.length
      · obtain ⟨b, off, hA, hbb, hc0, hc1, hz⟩ := (hT.lo hlo (by omega)).at_ hlt
        have hlt' := hlt
        rw [hlen] at hlt'
        injection hA with hA; injection hA with e1 e2; subst e1 e2
        simp only [Nat.zero_add] at hc0 hc1
        have hbr := World.block_lt_of_cell? wr _ hc0
        have hzr : w.heap.size < wr.heap.size := by omega
        have j0 := lo_keep hlo g0
        have j1 := lo_keep hlo g1
        cases hm : Pl.may cs[k].k cs[k].s.toList with
        | false =>
          have hf : fitT s cs[k] = false := by unfold fitT; rw [hm]; rfl
          have HF := Lib.hid hf
          have HM := Lib.hid hm
          clear hf hm
          go_wp2_with (go_at_call 28; refine (refMay _ _ _ (by assumption)).mono ?_; rintro e w1 ⟨rfl, hb1⟩; rw [HM.out])
          go_roundw
          case rel => exact ⟨k + 1, by omega, by go_num, (by repeat (first | exact Lo.refl _ | assumption | refine Lo.drew ?_ | refine Lo.alloc ?_ _ | refine Lo.setCell ?_ (by first | (dsimp only; omega) | (simp; omega) | (simp; done)) _ | refine Lo.trans ?_ (by assumption))), Lib.hid (any_snoc hall.out hlt HF.out)⟩
          case measure => simp [intOf]; omega
        | true =>
          have hz' : cs[k].s.size < maxLen := fit_size (s := s) hz hm
          by_cases hx : textB cs[k].k cs[k].s = s
          · have hf : fitT s cs[k] = true := by unfold fitT; rw [hm, hx]; simp
            have hfin : refParW (cs.find? (fitT s)) = .tuple #[.agg #[.int .i64 cs[k].k, .string cs[k].s], .bool true] := by rw [find_at hall.out hlt hf]; rfl
            have HFIN := Lib.hid hfin
            have HM := Lib.hid hm
            have HX := Lib.hid hx
            clear hf hm hx hfin
            go_wp2_with (first
              | (go_at_call 28; refine (refMay _ _ _ (by assumption)).mono ?_; rintro e w1 ⟨rfl, hb⟩; (have k0 := lo_keep hb hc0); (have k1 := lo_keep hb hc1); (have j2 := lo_keep hb j0); (have j3 := lo_keep hb j1); (have fr2 := fun o => (hb.facts.2.1 w.heap.size o hzr).trans (fr o)); (have hz2 := hb.facts.2.2 _ hzr); rw [HM.out])
              | (go_at_call 32; refine (refPrint _ _ _ (by assumption)).mono ?_; rintro e w3 ⟨rfl, hb⟩; (have k2 := lo_keep hb k0); (have k3 := lo_keep hb k1); (have j4 := lo_keep hb j2); (have j5 := lo_keep hb j3); (have fr3 := fun o => (hb.facts.2.1 w.heap.size o hz2).trans (fr2 o)); (have hz3 := hb.facts.2.2 _ hz2); rw [HX.out]))
            exact bodyPost_ret (v := .tuple #[.agg #[.int .i64 cs[k].k, .string cs[k].s], .bool true]) (by simp [results, Try.results33, go_sem, j4, j5]) rfl ⟨congrArg _ HFIN.out.symm, (by repeat (first | exact Lo.refl _ | assumption | refine Lo.drew ?_ | refine Lo.alloc ?_ _ | refine Lo.setCell ?_ (by first | (dsimp only; omega) | (simp; omega) | (simp; done)) _ | refine Lo.trans ?_ (by assumption)))⟩
          · have hf : fitT s cs[k] = false := by unfold fitT; rw [hm]; simpa using hx
            have HF := Lib.hid hf
            have HM := Lib.hid hm
            have hx2 : ((textB cs[k].k cs[k].s).toList == s.toList) = false := by rw [beq_eq_false_iff_ne]; exact fun h => hx (bs_inj h)
            clear hf hm
            go_wp2_with (first
              | (go_at_call 28; refine (refMay _ _ _ (by assumption)).mono ?_; rintro e w1 ⟨rfl, hb⟩; (have k0 := lo_keep hb hc0); (have k1 := lo_keep hb hc1); (have j2 := lo_keep hb j0); (have j3 := lo_keep hb j1); (have fr2 := fun o => (hb.facts.2.1 w.heap.size o hzr).trans (fr o)); (have hz2 := hb.facts.2.2 _ hzr); rw [HM.out])
              | (go_at_call 32; refine (refPrint _ _ _ (by assumption)).mono ?_; rintro e w3 ⟨rfl, hb⟩; (have k2 := lo_keep hb k0); (have k3 := lo_keep hb k1); (have j4 := lo_keep hb j2); (have j5 := lo_keep hb j3); (have fr3 := fun o => (hb.facts.2.1 w.heap.size o hz2).trans (fr2 o)); (have hz3 := hb.facts.2.2 _ hz2)))
            all_goals first
              | (exact absurd (show ((textB cs[k].k cs[k].s).toList == s.toList) = true by assumption) (by rw [hx2]; exact Bool.false_ne_true))
              | (go_roundw
                 case rel => exact ⟨k + 1, by omega, by go_num, (by repeat (first | exact Lo.refl _ | assumption | refine Lo.drew ?_ | refine Lo.alloc ?_ _ | refine Lo.setCell ?_ (by first | (dsimp only; omega) | (simp; omega) | (simp; done)) _ | refine Lo.trans ?_ (by assumption))), Lib.hid (any_snoc hall.out hlt HF.out)⟩
                 case measure => simp [intOf]; omega)
      · have hlt' : ¬ k < cs.length := hlt
        rw [hlen] at hlt'
        have HF := hall.out
        rw [List.take_of_length_le (by omega)] at HF
        have hfin : refParW (cs.find? (fitT s)) = .tuple #[.agg #[.int .i64 0, .string ⟨#[]⟩], .bool false] := by rw [find_none HF]; rfl
        have HFIN := Lib.hid hfin
        clear hfin HF
        have j0 := lo_keep hlo g0
        have j1 := lo_keep hlo g1
        go_wp2
        exact bodyPost_ret (v := .tuple #[.agg #[.int .i64 0, .string ⟨#[]⟩], .bool false]) (by simp [results, Try.results33, go_sem, j0, j1]) rfl ⟨congrArg _ HFIN.out.symm, (by repeat (first | exact Lo.refl _ | assumption | refine Lo.drew ?_ | refine Lo.alloc ?_ _ | refine Lo.setCell ?_ (by first | (dsimp only; omega) | (simp; omega) | (simp; done)) _ | refine Lo.trans ?_ (by assumption)))⟩

theorem refCandsT_eq (s : ByteArray) : refCandsT s = (Pl.refCands s.toList).map fun x => ⟨x.1, bs x.2⟩ := by
  unfold refCandsT Pl.refCands
  have hl := toList_len s
  by_cases h : s.size = 0
  · have he : s.toList = [] := List.eq_nil_of_length_eq_zero (by omega)
    have hs : s = ⟨#[]⟩ := bs_inj (by rw [he]; exact tl0.symm)
    subst hs
    rw [if_pos h, he]
    rfl
  · rw [if_neg h]
    have he : s.toList.isEmpty = false := by cases hc : s.toList with
      | nil => rw [hc] at hl; simp at hl; omega
      | cons _ _ => rfl
    have e2 : s.extract 0 (s.size - 1) = bs (s.toList.take (s.toList.length - 1)) := bs_inj (by rw [bs_toList, extract_list, hl]; simp)
    have e3 : s.extract 1 s.size = bs (s.toList.drop 1) := bs_inj (by rw [bs_toList, extract_list]; rw [List.take_of_length_le (by simp; omega)])
    rw [he, e2, e3]
    simp [toList_bs]
    rfl
theorem fitT_eq (s : ByteArray) : (fitT s ∘ fun x : Int × Pl.Bs => (⟨x.1, bs x.2⟩ : Pl.Term)) = Pl.fits s.toList := by
  funext x
  show (Pl.may x.1 (bs x.2).toList && decide (textB x.1 (bs x.2) = s)) = (Pl.may x.1 x.2 && (Pl.text x.1 x.2 == s.toList))
  rw [bs_toList, Bool.eq_iff_iff]
  simp only [Bool.and_eq_true, decide_eq_true_eq, beq_iff_eq]
  have hb : textB x.1 (bs x.2) = s ↔ Pl.text x.1 x.2 = s.toList := by
    have := textB_list x.1 (bs x.2)
    rw [bs_toList] at this
    rw [← this]
    exact ⟨fun h => by rw [h], fun h => bs_inj h⟩
  rw [hb]
theorem refParse_find (s : ByteArray) : (refCandsT s).find? (fitT s) = (Pl.parse s.toList).map fun x => ⟨x.1, bs x.2⟩ := by
  rw [refCandsT_eq, List.find?_map, fitT_eq, ← Pl.refParse_eq]; rfl
theorem refParse (s : ByteArray) (w : World) (hs : s.size ≤ maxLen) :
    Calls Try.prog 33 #[.string s] w fun e w' => e = .returned (refParW ((Pl.parse s.toList).map fun x => ⟨x.1, bs x.2⟩)) ∧ Lo w w' := by
  rw [← refParse_find]
  by_cases h : s.size = 0
  · exact refParse_none s w hs h
  · exact refParse_some s w hs (by omega)
end Go.Proofs.Ytlcecabfmemfeaa.WMatch
