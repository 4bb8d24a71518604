/- Merged by bundles.py: WLong2. -/
import Derived.Test.YtnclifgiakmmoaaGreatH21
import Derived.Test.YtnclifgiakmmoaaGreatH0
/- The walks of gatepostlaw12.LongRule. -/
namespace Go.Proofs.YtnclifgiakmmoaaGreat.WAuth
set_option linter.unusedVariables false
set_option linter.unusedSimpArgs false
open Go.RowKit Mem BigFrame WMatch WAddr WName Opn

def srcLong (s : Pl.Source) : Bool := termsB [s.names, s.spaces] || decide (20 < s.nets.length)
def tgtLong (t : Pl.Target) : Bool := termsB [t.methods, t.paths, t.hosts] || decide (20 < t.ports.length)
def whenLong (x : Pl.When) : Bool := termsB [x.terms] || decide (300 < x.head.size)
def longRule (r : Pl.Rule) : Bool := decide (12 < r.from_.length) || decide (12 < r.to_.length) || decide (12 < r.when_.length) || r.from_.any srcLong || r.to_.any tgtLong || r.when_.any whenLong

/-- terms of rows that have just been put one behind the other -/
theorem termsNew {rows : List (List Pl.Term)} {cells : List Value} {B n cap : Nat} {w W : World} {t : TypeId} {fr : Nat × Nat} (hB : B ≤ w.heap.size) (hW : Lo w W) (hl : cells.length = rows.length) (hm : rows.length ≤ maxLen)
    (h : ∀ (k : Nat) r, rows[k]? = some r → ∃ A c, cells[k]? = some (.slice A r.length c) ∧ SliceAt TermR 2 B w A r ∧ r.length ≤ c ∧ c ≤ maxLen) (hh : W.heap[n]? = some (.cells cells.toArray t fr)) :
    Calls Tryz.prog 21 #[.slice (some ⟨n, 0, none⟩) rows.length cap] W fun e w' => e = .returned (.bool (termsB rows)) ∧ Lo W w' := by
  refine terms rows _ cap W (Nat.le_refl _) ?_ hm
  intro k r hr
  obtain ⟨A, c, hc, hA, h1, h2⟩ := h k r hr
  refine ⟨n, 0, [.slice A r.length c], rfl, block_lt hh, rfl, ?_, A, c, rfl, SliceAt.keep TermR.kept hA (hW.cells hB) (Nat.le_trans hB hW.size), h1, h2⟩
  intro j v hj
  match j, hj with
  | 0, hj =>
    simp at hj; subst hj
    simp only [World.cell?, hh]
    simpa using hc

set_option maxRecDepth 100000 in
set_option maxHeartbeats 16000000 in
theorem longRule_ (r : Pl.Rule) (c0 c1 c2 : Value) {B : Nat} (w : World) (hB : B ≤ w.heap.size) (hr : RuleR B w r [c0, c1, c2]) :
    Calls Tryz.prog 5 #[.agg #[c0, c1, c2]] w fun e w' => e = .returned (.bool (longRule r)) ∧ Lo w w' := by
  obtain ⟨d0, d1, d2, he, ⟨A0, p0, e0, h0, l0, m0⟩, ⟨A1, p1, e1, h1, l1, m1⟩, ⟨A2, p2, e2, h2, l2, m2⟩⟩ := hr
  injection he with q0 he; injection he with q1 he; injection he with q2 he
  subst q0 q1 q2
  injection e0 with e0; injection e1 with e1; injection e2 with e2
  subst e0 e1 e2
  unfold maxLen at m0 m1 m2
  have hL : longRule r = (decide (12 < r.from_.length) || decide (12 < r.to_.length) || decide (12 < r.when_.length) || r.from_.any srcLong || r.to_.any tgtLong || r.when_.any whenLong) := rfl
  have HL := Lib.hid hL
  clear hL
  by_cases g0 : 12 < r.from_.length
  · go_enter Tryz.func5, Tryz.ntmps5
    go_wp2
    go_ret
    exact ⟨ret_bool (by rw [HL.out]; simp [g0]), (by repeat (first | exact Lo.refl _ | assumption | refine Lo.drew ?_ | refine Lo.alloc ?_ _ | refine Lo.setCell ?_ (by first | (dsimp only; omega) | (simp; omega) | (simp; done)) _ | refine Lo.trans ?_ (by assumption)))⟩
  by_cases g1 : 12 < r.to_.length
  · go_enter Tryz.func5, Tryz.ntmps5
    go_wp2
    go_ret
    exact ⟨ret_bool (by rw [HL.out]; simp [g1]), (by repeat (first | exact Lo.refl _ | assumption | refine Lo.drew ?_ | refine Lo.alloc ?_ _ | refine Lo.setCell ?_ (by first | (dsimp only; omega) | (simp; omega) | (simp; done)) _ | refine Lo.trans ?_ (by assumption)))⟩
  by_cases g2 : 12 < r.when_.length
  · go_enter Tryz.func5, Tryz.ntmps5
    go_wp2
    go_ret
    exact ⟨ret_bool (by rw [HL.out]; simp [g2]), (by repeat (first | exact Lo.refl _ | assumption | refine Lo.drew ?_ | refine Lo.alloc ?_ _ | refine Lo.setCell ?_ (by first | (dsimp only; omega) | (simp; omega) | (simp; done)) _ | refine Lo.trans ?_ (by assumption)))⟩
  have HL2 : Hid (longRule r = (r.from_.any srcLong || r.to_.any tgtLong || r.when_.any whenLong)) := Lib.hid (by rw [HL.out]; simp [g0, g1, g2])
  clear HL
  go_enter Tryz.func5, Tryz.ntmps5
  go_wp2
  go_loopw [3] (fun i wr => ∃ k : Nat, k ≤ r.from_.length ∧ i = .int .i64 k ∧ Lo w wr ∧ BoxAt wr w.heap.size [.slice A0 r.from_.length p0, .slice A1 r.to_.length p1, .slice A2 r.when_.length p2] ∧ Hid ((r.from_.take k).any srcLong = false)) (fun i _ => r.from_.length - (intOf i).toNat)
  case atStart => exact ⟨0, Nat.zero_le _, rfl, (by repeat (first | exact Lo.refl _ | assumption | refine Lo.drew ?_ | refine Lo.alloc ?_ _ | refine Lo.setCell ?_ (by first | (dsimp only; omega) | (simp; omega) | (simp; done)) _ | refine Lo.trans ?_ (by assumption))), BoxAt.new _ _ _, Lib.hid rfl⟩
  case round =>
    obtain ⟨k, hk, rfl, hlo, hbx, hall⟩ := hrel
    have hb0 := hbx 0 _ rfl
    have hb1 := hbx 1 _ rfl
    have hb2 := hbx 2 _ rfl
    by_cases hlt : k < r.from_.length
    · obtain ⟨b, off, cs, rfl, hb, hl2, hc, hr⟩ := (SliceAt.lo SourceR.kept h0 hlo hB) k r.from_[k] (List.getElem?_eq_getElem hlt)
      obtain ⟨d0, d1, d2, rfl, ⟨S0, k0, f0, u0, v0, x0⟩, ⟨S1, k1, f1, u1, v1, x1⟩, ⟨S2, k2, f2, u2, v2, x2⟩⟩ := hr
      injection f0 with f0; injection f1 with f1; injection f2 with f2; subst f0 f1 f2
      clear u2
      have hc0 : wr.cell? ⟨b, off + k * 3, none⟩ = _ := hc 0 _ rfl
      have hc1 : wr.cell? ⟨b, off + k * 3 + 1, none⟩ = _ := hc 1 _ rfl
      have hc2 : wr.cell? ⟨b, off + k * 3 + 2, none⟩ = _ := hc 2 _ rfl
      clear hc hl2
      have HT : Hid (∀ (W : World) (n : Nat), Lo wr W → W.heap[n]? = some (.cells #[.slice S0 r.from_[k].names.length k0, .slice S1 r.from_[k].spaces.length k1] 58 (0, 0)) →
          Calls Tryz.prog 21 #[.slice (some ⟨n, 0, none⟩) 2 2] W fun e w' => e = .returned (.bool (termsB [r.from_[k].names, r.from_[k].spaces])) ∧ Lo W w') := Lib.hid fun W n hW hh =>
        termsNew (rows := [r.from_[k].names, r.from_[k].spaces]) (B := B) (w := wr) (Nat.le_trans hB hlo.size) hW rfl (by simp [maxLen]) (by
          intro j x hj
          match j, hj with
          | 0, hj => simp at hj; subst hj; exact ⟨S0, k0, rfl, u0, v0, x0⟩
          | 1, hj => simp at hj; subst hj; exact ⟨S1, k1, rfl, u1, v1, x1⟩) hh
      have hp : srcLong r.from_[k] = (termsB [r.from_[k].names, r.from_[k].spaces] || decide (20 < r.from_[k].nets.length)) := rfl
      have HYt : Hid (termsB [r.from_[k].names, r.from_[k].spaces] = true → longRule r = true) := Lib.hid fun h => by rw [HL2.out, any_yes (p := srcLong) hlt (by rw [hp, h]; rfl)]; simp
      have HYn : Hid ((20 : Int) < (r.from_[k].nets.length : Nat) → longRule r = true) := Lib.hid fun h => by rw [HL2.out, any_yes (p := srcLong) hlt (by rw [hp]; simp; omega)]; simp
      have HNn : Hid (termsB [r.from_[k].names, r.from_[k].spaces] = false → ¬ (20 : Int) < (r.from_[k].nets.length : Nat) → (r.from_.take (k + 1)).any srcLong = false) := Lib.hid fun h1 h => WIdxWhen.any_snoc' hall.out hlt (by rw [hp, h1]; simp; omega)
      clear hp u0 u1
      have j0 : (0 : Int) ≤ (k : Int) := Int.natCast_nonneg _
      have j1 : (k : Int) < (r.from_.length : Int) := by omega
      generalize termsB [r.from_[k].names, r.from_[k].spaces] = y at *
      cases y
      · go_wp2
        first | (go_region_held3 (fun w' => w'.cell? ⟨w.heap.size, 0, none⟩ = some (.slice (some ⟨b, off, none⟩) r.from_.length p0) ∧ w'.cell? ⟨b, off + k * 3, none⟩ = some (.slice S0 r.from_[k].names.length k0) ∧ w'.cell? ⟨b, off + k * 3 + 1, none⟩ = some (.slice S1 r.from_[k].spaces.length k1) ∧ w'.cell? ⟨b, off + k * 3 + 2, none⟩ = some (.slice S2 r.from_[k].nets.length k2)) (first | go_keep | (go_split_ands; refine ⟨lo_keep hb (by assumption), lo_keep hb (by assumption), lo_keep hb (by assumption), lo_keep hb (by assumption)⟩)) ((first | (go_at_call 21; refine (HT.out _ _ ?_ ?_).mono ?_; (exact (by repeat (first | exact Lo.refl _ | assumption | refine Lo.drew ?_ | refine Lo.alloc ?_ _ | refine Lo.setCell ?_ (by first | (dsimp only; omega) | (simp; omega) | (simp; done)) _ | refine Lo.trans ?_ (by assumption)))); (exact heap_new_at (by simp)); rintro e w2 ⟨rfl, hb⟩)))) | fail
        all_goals
          go_wp2
          all_goals
            first
              | (go_ret; exact ⟨ret_bool (HYn.out (by omega)).symm, (by repeat (first | exact Lo.refl _ | assumption | refine Lo.drew ?_ | refine Lo.alloc ?_ _ | refine Lo.setCell ?_ (by first | (dsimp only; omega) | (simp; omega) | (simp; done)) _ | refine Lo.trans ?_ (by assumption)))⟩)
              | (go_roundw; (case rel => exact ⟨k + 1, by omega, by go_num, (by repeat (first | exact Lo.refl _ | assumption | refine Lo.drew ?_ | refine Lo.alloc ?_ _ | refine Lo.setCell ?_ (by first | (dsimp only; omega) | (simp; omega) | (simp; done)) _ | refine Lo.trans ?_ (by assumption))), (hbx.lo ((Lo.refl _).drew.alloc _ |>.trans hb)), Lib.hid (HNn.out (by first | rfl | trivial) (by omega))⟩); (case measure => (simp [intOf]; omega)))
      · go_wp2
        refine wp_region_all 115 (fun i v w' => match i with
              | 0 => v = .pointer (some ⟨w.heap.size, 0, none⟩)
              | 1 => v = .slice (some ⟨b, off, none⟩) r.from_.length p0
              | 2 => v = .int .i64 k
              | 3 => v = .pointer (some ⟨b, off + k * 3, none⟩)
              | 4 => v = .pointer (some ⟨b, off + k * 3, none⟩)
              | 5 => v = .slice S0 r.from_[k].names.length k0
              | 6 => v = .pointer (some ⟨w.heap.size, 0, none⟩)
              | 7 => v = .slice (some ⟨b, off, none⟩) r.from_.length p0
              | 8 => v = .int .i64 k
              | 9 => v = .pointer (some ⟨b, off + k * 3, none⟩)
              | 10 => v = .pointer (some ⟨b, off + k * 3 + 1, none⟩)
              | 11 => v = .slice S1 r.from_[k].spaces.length k1
              | 12 => ∃ n, v = .slice (some ⟨n, 0, none⟩) 2 2 ∧ w'.heap[n]? = some (.cells #[.slice S0 r.from_[k].names.length k0, .slice S1 r.from_[k].spaces.length k1] 58 (0, 0))
              | 13 => v = .bool true
              | 14 => v = .bool true
              | 15 => True
              | 16 => True
              | 17 => True
              | 18 => True
              | 19 => True
              | 20 => True
              | 21 => True
              | 22 => True
              | 23 => v = .bool true
              | _ => True) (by kernel_rfl) rfl (by kernel_rfl) ?_ ?_ ?_
        · intro i v w1 w2 h hl12
          match i, h with
          | 0, h => exact h
          | 1, h => exact h
          | 2, h => exact h
          | 3, h => exact h
          | 4, h => exact h
          | 5, h => exact h
          | 6, h => exact h
          | 7, h => exact h
          | 8, h => exact h
          | 9, h => exact h
          | 10, h => exact h
          | 11, h => exact h
          | 12, ⟨n, hv, hn⟩ => exact ⟨n, hv, hl12.block hn⟩
          | 13, h => exact h
          | 14, h => exact h
          | 15, h => exact h
          | 16, h => exact h
          | 17, h => exact h
          | 18, h => exact h
          | 19, h => exact h
          | 20, h => exact h
          | 21, h => exact h
          | 22, h => exact h
          | 23, h => exact h
          | _ + 24, _ => trivial
        · intro i o hiN ho a w' hl hd hold
          match i, hiN with
          | 0, _ =>
            injection ho with ho; subst ho
            have h1 : a.eval (.tmp 1) = .pointer (some ⟨w.heap.size, 0, none⟩) := hold 1 (by kernel_rfl)
            simp [Act.eval] at h1
            exact ⟨fun _ => wp_of_run (v := .pointer (some ⟨w.heap.size, 0, none⟩)) (w' := w') (by simp [go_sem, h1]) ⟨_, rfl, Lo.refl _, rfl⟩, fun h => by rw [wanted_free rfl] at h; cases h⟩
          | 1, _ =>
            injection ho with ho; subst ho
            have h29 : a.eval (.tmp 29) = .pointer (some ⟨w.heap.size, 0, none⟩) := hd 0 (by kernel_rfl) 29 (by kernel_rfl)
            have hc := lo_keep hl hb0
            simp [Act.eval] at h29
            exact ⟨fun _ => wp_of_run (v := .slice (some ⟨b, off, none⟩) r.from_.length p0) (w' := w') (by simp [go_sem, h29, hc]) ⟨_, rfl, Lo.refl _, rfl⟩, fun h => by rw [wanted_free rfl] at h; cases h⟩
          | 2, _ =>
            injection ho with ho; subst ho
            have h3 : a.eval (.tmp 3) = .int .i64 k := hold 3 (by kernel_rfl)
            simp [Act.eval] at h3
            exact ⟨fun _ => wp_of_run (v := .int .i64 k) (w' := w') (by simp [go_sem, h3]) ⟨_, rfl, Lo.refl _, rfl⟩, fun h => by rw [wanted_free rfl] at h; cases h⟩
          | 3, _ =>
            injection ho with ho; subst ho
            have h30 : a.eval (.tmp 30) = .slice (some ⟨b, off, none⟩) r.from_.length p0 := hd 1 (by kernel_rfl) 30 (by kernel_rfl)
            have h31 : a.eval (.tmp 31) = .int .i64 k := hd 2 (by kernel_rfl) 31 (by kernel_rfl)
            simp [Act.eval] at h30 h31
            exact ⟨fun _ => wp_of_run (v := .pointer (some ⟨b, off + k * 3, none⟩)) (w' := w') (by simp [go_sem, h30, h31, Nat.not_le_of_lt hlt]) ⟨_, rfl, Lo.refl _, rfl⟩, fun h => by rw [wanted_free rfl] at h; cases h⟩
          | 4, _ =>
            injection ho with ho; subst ho
            have h32 : a.eval (.tmp 32) = .pointer (some ⟨b, off + k * 3, none⟩) := hd 3 (by kernel_rfl) 32 (by kernel_rfl)
            simp [Act.eval] at h32
            exact ⟨fun _ => wp_of_run (v := .pointer (some ⟨b, off + k * 3, none⟩)) (w' := w') (by simp [go_sem, h32]) ⟨_, rfl, Lo.refl _, rfl⟩, fun h => by rw [wanted_free rfl] at h; cases h⟩
          | 5, _ =>
            injection ho with ho; subst ho
            have h33 : a.eval (.tmp 33) = .pointer (some ⟨b, off + k * 3, none⟩) := hd 4 (by kernel_rfl) 33 (by kernel_rfl)
            have hc := lo_keep hl hc0
            simp [Act.eval] at h33
            exact ⟨fun _ => wp_of_run (v := .slice S0 r.from_[k].names.length k0) (w' := w') (by simp [go_sem, h33, hc]) ⟨_, rfl, Lo.refl _, rfl⟩, fun h => by rw [wanted_free rfl] at h; cases h⟩
          | 6, _ =>
            injection ho with ho; subst ho
            have h1 : a.eval (.tmp 1) = .pointer (some ⟨w.heap.size, 0, none⟩) := hold 1 (by kernel_rfl)
            simp [Act.eval] at h1
            exact ⟨fun _ => wp_of_run (v := .pointer (some ⟨w.heap.size, 0, none⟩)) (w' := w') (by simp [go_sem, h1]) ⟨_, rfl, Lo.refl _, rfl⟩, fun h => by rw [wanted_free rfl] at h; cases h⟩
          | 7, _ =>
            injection ho with ho; subst ho
            have h35 : a.eval (.tmp 35) = .pointer (some ⟨w.heap.size, 0, none⟩) := hd 6 (by kernel_rfl) 35 (by kernel_rfl)
            have hc := lo_keep hl hb0
            simp [Act.eval] at h35
            exact ⟨fun _ => wp_of_run (v := .slice (some ⟨b, off, none⟩) r.from_.length p0) (w' := w') (by simp [go_sem, h35, hc]) ⟨_, rfl, Lo.refl _, rfl⟩, fun h => by rw [wanted_free rfl] at h; cases h⟩
          | 8, _ =>
            injection ho with ho; subst ho
            have h3 : a.eval (.tmp 3) = .int .i64 k := hold 3 (by kernel_rfl)
            simp [Act.eval] at h3
            exact ⟨fun _ => wp_of_run (v := .int .i64 k) (w' := w') (by simp [go_sem, h3]) ⟨_, rfl, Lo.refl _, rfl⟩, fun h => by rw [wanted_free rfl] at h; cases h⟩
          | 9, _ =>
            injection ho with ho; subst ho
            have h36 : a.eval (.tmp 36) = .slice (some ⟨b, off, none⟩) r.from_.length p0 := hd 7 (by kernel_rfl) 36 (by kernel_rfl)
            have h37 : a.eval (.tmp 37) = .int .i64 k := hd 8 (by kernel_rfl) 37 (by kernel_rfl)
            simp [Act.eval] at h36 h37
            exact ⟨fun _ => wp_of_run (v := .pointer (some ⟨b, off + k * 3, none⟩)) (w' := w') (by simp [go_sem, h36, h37, Nat.not_le_of_lt hlt]) ⟨_, rfl, Lo.refl _, rfl⟩, fun h => by rw [wanted_free rfl] at h; cases h⟩
          | 10, _ =>
            injection ho with ho; subst ho
            have h38 : a.eval (.tmp 38) = .pointer (some ⟨b, off + k * 3, none⟩) := hd 9 (by kernel_rfl) 38 (by kernel_rfl)
            simp [Act.eval] at h38
            exact ⟨fun _ => wp_of_run (v := .pointer (some ⟨b, off + k * 3 + 1, none⟩)) (w' := w') (by simp [go_sem, h38]) ⟨_, rfl, Lo.refl _, rfl⟩, fun h => by rw [wanted_free rfl] at h; cases h⟩
          | 11, _ =>
            injection ho with ho; subst ho
            have h39 : a.eval (.tmp 39) = .pointer (some ⟨b, off + k * 3 + 1, none⟩) := hd 10 (by kernel_rfl) 39 (by kernel_rfl)
            have hc := lo_keep hl hc1
            simp [Act.eval] at h39
            exact ⟨fun _ => wp_of_run (v := .slice S1 r.from_[k].spaces.length k1) (w' := w') (by simp [go_sem, h39, hc]) ⟨_, rfl, Lo.refl _, rfl⟩, fun h => by rw [wanted_free rfl] at h; cases h⟩
          | 12, _ =>
            injection ho with ho; subst ho
            have h34 : a.eval (.tmp 34) = .slice S0 r.from_[k].names.length k0 := hd 5 (by kernel_rfl) 34 (by kernel_rfl)
            have h40 : a.eval (.tmp 40) = .slice S1 r.from_[k].spaces.length k1 := hd 11 (by kernel_rfl) 40 (by kernel_rfl)
            simp [Act.eval] at h34 h40
            exact ⟨fun _ => wp_of_run (v := .slice (some ⟨w'.heap.size, 0, none⟩) 2 2) (w' := w'.alloc (.cells #[.slice S0 r.from_[k].names.length k0, .slice S1 r.from_[k].spaces.length k1] 58)) (by simp [go_sem, h34, h40]) ⟨_, rfl, (Lo.refl _).alloc _, _, rfl, heap_new_at rfl⟩, fun h => by rw [wanted_free rfl] at h; cases h⟩
          | 13, _ =>
            injection ho with ho; subst ho
            obtain ⟨n, hv, hn⟩ := hd 12 (by kernel_rfl) 41 (by kernel_rfl)
            refine ⟨fun _ => ?_, fun h => by rw [wanted_free rfl] at h; cases h⟩
            simp [Act.eval] at hv
            refine wp_call_of (f := 21) (args := #[.slice (some ⟨n, 0, none⟩) 2 2]) (by simp [go_sem, hv]) (HT.out w' n hl hn) ?_
            rintro e w2 ⟨rfl, hb⟩
            exact ⟨_, rfl, _, rfl, hb, rfl⟩
          | 14, _ =>
            injection ho with ho; subst ho
            have h42 : a.eval (.tmp 42) = .bool true := hd 13 (by kernel_rfl) 42 (by kernel_rfl)
            simp [Act.eval] at h42
            exact ⟨fun _ => wp_of_run (v := .bool true) (w' := w') (by simp [go_sem, h42]) ⟨_, rfl, Lo.refl _, rfl⟩, fun h => by rw [wanted_free rfl] at h; cases h⟩
          | 15, _ =>
            injection ho with ho; subst ho
            have hg : a.eval (.tmp 43) = .bool true := hd 14 (by kernel_rfl) 43 (by kernel_rfl)
            exact ⟨fun h => (by rw [wanted_at rfl rfl hg] at h; cases h), fun _ => trivial⟩
          | 16, _ =>
            injection ho with ho; subst ho
            have hg : a.eval (.tmp 43) = .bool true := hd 14 (by kernel_rfl) 43 (by kernel_rfl)
            exact ⟨fun h => (by rw [wanted_at rfl rfl hg] at h; cases h), fun _ => trivial⟩
          | 17, _ =>
            injection ho with ho; subst ho
            have hg : a.eval (.tmp 43) = .bool true := hd 14 (by kernel_rfl) 43 (by kernel_rfl)
            exact ⟨fun h => (by rw [wanted_at rfl rfl hg] at h; cases h), fun _ => trivial⟩
          | 18, _ =>
            injection ho with ho; subst ho
            have hg : a.eval (.tmp 43) = .bool true := hd 14 (by kernel_rfl) 43 (by kernel_rfl)
            exact ⟨fun h => (by rw [wanted_at rfl rfl hg] at h; cases h), fun _ => trivial⟩
          | 19, _ =>
            injection ho with ho; subst ho
            have hg : a.eval (.tmp 43) = .bool true := hd 14 (by kernel_rfl) 43 (by kernel_rfl)
            exact ⟨fun h => (by rw [wanted_at rfl rfl hg] at h; cases h), fun _ => trivial⟩
          | 20, _ =>
            injection ho with ho; subst ho
            have hg : a.eval (.tmp 43) = .bool true := hd 14 (by kernel_rfl) 43 (by kernel_rfl)
            exact ⟨fun h => (by rw [wanted_at rfl rfl hg] at h; cases h), fun _ => trivial⟩
          | 21, _ =>
            injection ho with ho; subst ho
            have hg : a.eval (.tmp 43) = .bool true := hd 14 (by kernel_rfl) 43 (by kernel_rfl)
            exact ⟨fun h => (by rw [wanted_at rfl rfl hg] at h; cases h), fun _ => trivial⟩
          | 22, _ =>
            injection ho with ho; subst ho
            have hg : a.eval (.tmp 43) = .bool true := hd 14 (by kernel_rfl) 43 (by kernel_rfl)
            exact ⟨fun h => (by rw [wanted_at rfl rfl hg] at h; cases h), fun _ => trivial⟩
          | 23, _ =>
            injection ho with ho; subst ho
            have h43 : a.eval (.tmp 43) = .bool true := hd 14 (by kernel_rfl) 43 (by kernel_rfl)
            simp [Act.eval] at h43
            exact ⟨fun _ => wp_of_run (v := .bool true) (w' := w') (by simp [go_sem, h43]) ⟨_, rfl, Lo.refl _, rfl⟩, fun h => by rw [wanted_free rfl] at h; cases h⟩
        · intro v w2 hb hp
          have p23 := hp 23 (by simp)
          clear hp
          simp only [List.length_cons, List.length_nil, Nat.zero_add, Nat.reduceAdd, List.range_succ, List.range_zero, List.nil_append, List.cons_append, List.foldl_cons, List.foldl_nil, dstOf, List.getElem?_toArray, List.getElem?_cons_zero, List.getElem?_cons_succ, Option.bind_some, Act.put, List.setIfInBounds_toArray, List.set_cons_zero, List.set_cons_succ]
          generalize v 23 = vl at *
          subst p23
          go_wp2
          go_ret
          exact ⟨ret_bool (HYt.out (by first | rfl | trivial)).symm, (by repeat (first | exact Lo.refl _ | assumption | refine Lo.drew ?_ | refine Lo.alloc ?_ _ | refine Lo.setCell ?_ (by first | (dsimp only; omega) | (simp; omega) | (simp; done)) _ | refine Lo.trans ?_ (by assumption)))⟩
    · have HF := hall.out
      rw [List.take_of_length_le (by omega)] at HF
      have HG3 := Lib.hid HF
      clear HF hall
      go_wp2
      go_loopw [4] (fun i wr => ∃ k : Nat, k ≤ r.to_.length ∧ i = .int .i64 k ∧ Lo w wr ∧ BoxAt wr w.heap.size [.slice A0 r.from_.length p0, .slice A1 r.to_.length p1, .slice A2 r.when_.length p2] ∧ Hid ((r.to_.take k).any tgtLong = false)) (fun i _ => r.to_.length - (intOf i).toNat)
      case atStart => exact ⟨0, Nat.zero_le _, rfl, by first | assumption | exact (by repeat (first | exact Lo.refl _ | assumption | refine Lo.drew ?_ | refine Lo.alloc ?_ _ | refine Lo.setCell ?_ (by first | (dsimp only; omega) | (simp; omega) | (simp; done)) _ | refine Lo.trans ?_ (by assumption))), hbx, Lib.hid rfl⟩
      case round =>
        obtain ⟨k, hk, rfl, hlo, hbx, hall⟩ := hrel
        have hb0 := hbx 0 _ rfl
        have hb1 := hbx 1 _ rfl
        have hb2 := hbx 2 _ rfl
        by_cases hlt : k < r.to_.length
        · obtain ⟨b, off, cs, rfl, hb, hl2, hc, hr⟩ := (SliceAt.lo TargetR.kept h1 hlo hB) k r.to_[k] (List.getElem?_eq_getElem hlt)
          obtain ⟨d0, d1, d2, d3, rfl, ⟨S0, k0, f0, u0, v0, x0⟩, ⟨S1, k1, f1, u1, v1, x1⟩, ⟨S2, k2, f2, u2, v2, x2⟩, ⟨S3, k3, f3, u3, v3, x3⟩⟩ := hr
          injection f0 with f0; injection f1 with f1; injection f2 with f2; injection f3 with f3; subst f0 f1 f2 f3
          clear u0
          have hc0 : wr.cell? ⟨b, off + k * 4, none⟩ = _ := hc 0 _ rfl
          have hc1 : wr.cell? ⟨b, off + k * 4 + 1, none⟩ = _ := hc 1 _ rfl
          have hc2 : wr.cell? ⟨b, off + k * 4 + 2, none⟩ = _ := hc 2 _ rfl
          have hc3 : wr.cell? ⟨b, off + k * 4 + 3, none⟩ = _ := hc 3 _ rfl
          clear hc hl2
          have HT : Hid (∀ (W : World) (n : Nat), Lo wr W → W.heap[n]? = some (.cells #[.slice S1 r.to_[k].methods.length k1, .slice S2 r.to_[k].paths.length k2, .slice S3 r.to_[k].hosts.length k3] 58 (0, 0)) →
              Calls Tryz.prog 21 #[.slice (some ⟨n, 0, none⟩) 3 3] W fun e w' => e = .returned (.bool (termsB [r.to_[k].methods, r.to_[k].paths, r.to_[k].hosts])) ∧ Lo W w') := Lib.hid fun W n hW hh =>
            termsNew (rows := [r.to_[k].methods, r.to_[k].paths, r.to_[k].hosts]) (B := B) (w := wr) (Nat.le_trans hB hlo.size) hW rfl (by simp [maxLen]) (by
              intro j x hj
              match j, hj with
              | 0, hj => simp at hj; subst hj; exact ⟨S1, k1, rfl, u1, v1, x1⟩
              | 1, hj => simp at hj; subst hj; exact ⟨S2, k2, rfl, u2, v2, x2⟩
              | 2, hj => simp at hj; subst hj; exact ⟨S3, k3, rfl, u3, v3, x3⟩) hh
          have hp : tgtLong r.to_[k] = (termsB [r.to_[k].methods, r.to_[k].paths, r.to_[k].hosts] || decide (20 < r.to_[k].ports.length)) := rfl
          have HYt : Hid (termsB [r.to_[k].methods, r.to_[k].paths, r.to_[k].hosts] = true → longRule r = true) := Lib.hid fun h => by rw [HL2.out, any_yes (p := tgtLong) hlt (by rw [hp, h]; rfl)]; simp
          have HYn : Hid ((20 : Int) < (r.to_[k].ports.length : Nat) → longRule r = true) := Lib.hid fun h => by rw [HL2.out, any_yes (p := tgtLong) hlt (by rw [hp]; simp; omega)]; simp
          have HNn : Hid (termsB [r.to_[k].methods, r.to_[k].paths, r.to_[k].hosts] = false → ¬ (20 : Int) < (r.to_[k].ports.length : Nat) → (r.to_.take (k + 1)).any tgtLong = false) := Lib.hid fun h1 h => WIdxWhen.any_snoc' hall.out hlt (by rw [hp, h1]; simp; omega)
          clear hp u1 u2 u3
          have j0 : (0 : Int) ≤ (k : Int) := Int.natCast_nonneg _
          have j1 : (k : Int) < (r.to_.length : Int) := by omega
          generalize termsB [r.to_[k].methods, r.to_[k].paths, r.to_[k].hosts] = y at *
          cases y
          · go_wp2
            first | (go_region_held3 (fun w' => w'.cell? ⟨w.heap.size, 1, none⟩ = some (.slice (some ⟨b, off, none⟩) r.to_.length p1) ∧ w'.cell? ⟨b, off + k * 4, none⟩ = some (.slice S0 r.to_[k].ports.length k0) ∧ w'.cell? ⟨b, off + k * 4 + 1, none⟩ = some (.slice S1 r.to_[k].methods.length k1) ∧ w'.cell? ⟨b, off + k * 4 + 2, none⟩ = some (.slice S2 r.to_[k].paths.length k2) ∧ w'.cell? ⟨b, off + k * 4 + 3, none⟩ = some (.slice S3 r.to_[k].hosts.length k3)) (first | go_keep | (go_split_ands; refine ⟨lo_keep hb (by assumption), lo_keep hb (by assumption), lo_keep hb (by assumption), lo_keep hb (by assumption), lo_keep hb (by assumption)⟩)) ((first | (go_at_call 21; refine (HT.out _ _ ?_ ?_).mono ?_; (exact (by repeat (first | exact Lo.refl _ | assumption | refine Lo.drew ?_ | refine Lo.alloc ?_ _ | refine Lo.setCell ?_ (by first | (dsimp only; omega) | (simp; omega) | (simp; done)) _ | refine Lo.trans ?_ (by assumption)))); (exact heap_new_at (by simp)); rintro e w2 ⟨rfl, hb⟩)))) | fail
            all_goals
              go_wp2
              all_goals
                first
                  | (go_ret; exact ⟨ret_bool (HYn.out (by omega)).symm, (by repeat (first | exact Lo.refl _ | assumption | refine Lo.drew ?_ | refine Lo.alloc ?_ _ | refine Lo.setCell ?_ (by first | (dsimp only; omega) | (simp; omega) | (simp; done)) _ | refine Lo.trans ?_ (by assumption)))⟩)
                  | (go_roundw; (case rel => exact ⟨k + 1, by omega, by go_num, (by repeat (first | exact Lo.refl _ | assumption | refine Lo.drew ?_ | refine Lo.alloc ?_ _ | refine Lo.setCell ?_ (by first | (dsimp only; omega) | (simp; omega) | (simp; done)) _ | refine Lo.trans ?_ (by assumption))), (hbx.lo ((Lo.refl _).drew.alloc _ |>.trans hb)), Lib.hid (HNn.out (by first | rfl | trivial) (by omega))⟩); (case measure => (simp [intOf]; omega)))
          · go_wp2
            refine wp_region_all 115 (fun i v w' => match i with
                  | 0 => v = .pointer (some ⟨w.heap.size, 1, none⟩)
                  | 1 => v = .slice (some ⟨b, off, none⟩) r.to_.length p1
                  | 2 => v = .int .i64 k
                  | 3 => v = .pointer (some ⟨b, off + k * 4, none⟩)
                  | 4 => v = .pointer (some ⟨b, off + k * 4 + 1, none⟩)
                  | 5 => v = .slice S1 r.to_[k].methods.length k1
                  | 6 => v = .pointer (some ⟨w.heap.size, 1, none⟩)
                  | 7 => v = .slice (some ⟨b, off, none⟩) r.to_.length p1
                  | 8 => v = .int .i64 k
                  | 9 => v = .pointer (some ⟨b, off + k * 4, none⟩)
                  | 10 => v = .pointer (some ⟨b, off + k * 4 + 2, none⟩)
                  | 11 => v = .slice S2 r.to_[k].paths.length k2
                  | 12 => v = .pointer (some ⟨w.heap.size, 1, none⟩)
                  | 13 => v = .slice (some ⟨b, off, none⟩) r.to_.length p1
                  | 14 => v = .int .i64 k
                  | 15 => v = .pointer (some ⟨b, off + k * 4, none⟩)
                  | 16 => v = .pointer (some ⟨b, off + k * 4 + 3, none⟩)
                  | 17 => v = .slice S3 r.to_[k].hosts.length k3
                  | 18 => ∃ n, v = .slice (some ⟨n, 0, none⟩) 3 3 ∧ w'.heap[n]? = some (.cells #[.slice S1 r.to_[k].methods.length k1, .slice S2 r.to_[k].paths.length k2, .slice S3 r.to_[k].hosts.length k3] 58 (0, 0))
                  | 19 => v = .bool true
                  | 20 => v = .bool true
                  | 21 => True
                  | 22 => True
                  | 23 => True
                  | 24 => True
                  | 25 => True
                  | 26 => True
                  | 27 => True
                  | 28 => True
                  | 29 => v = .bool true
                  | _ => True) (by kernel_rfl) rfl (by kernel_rfl) ?_ ?_ ?_
            · intro i v w1 w2 h hl12
              match i, h with
              | 0, h => exact h
              | 1, h => exact h
              | 2, h => exact h
              | 3, h => exact h
              | 4, h => exact h
              | 5, h => exact h
              | 6, h => exact h
              | 7, h => exact h
              | 8, h => exact h
              | 9, h => exact h
              | 10, h => exact h
              | 11, h => exact h
              | 12, h => exact h
              | 13, h => exact h
              | 14, h => exact h
              | 15, h => exact h
              | 16, h => exact h
              | 17, h => exact h
              | 18, ⟨n, hv, hn⟩ => exact ⟨n, hv, hl12.block hn⟩
              | 19, h => exact h
              | 20, h => exact h
              | 21, h => exact h
              | 22, h => exact h
              | 23, h => exact h
              | 24, h => exact h
              | 25, h => exact h
              | 26, h => exact h
              | 27, h => exact h
              | 28, h => exact h
              | 29, h => exact h
              | _ + 30, _ => trivial
            · intro i o hiN ho a w' hl hd hold
              match i, hiN with
              | 0, _ =>
                injection ho with ho; subst ho
                have h1 : a.eval (.tmp 1) = .pointer (some ⟨w.heap.size, 0, none⟩) := hold 1 (by kernel_rfl)
                simp [Act.eval] at h1
                exact ⟨fun _ => wp_of_run (v := .pointer (some ⟨w.heap.size, 1, none⟩)) (w' := w') (by simp [go_sem, h1]) ⟨_, rfl, Lo.refl _, rfl⟩, fun h => by rw [wanted_free rfl] at h; cases h⟩
              | 1, _ =>
                injection ho with ho; subst ho
                have h60 : a.eval (.tmp 60) = .pointer (some ⟨w.heap.size, 1, none⟩) := hd 0 (by kernel_rfl) 60 (by kernel_rfl)
                have hc := lo_keep hl hb1
                simp [Act.eval] at h60
                exact ⟨fun _ => wp_of_run (v := .slice (some ⟨b, off, none⟩) r.to_.length p1) (w' := w') (by simp [go_sem, h60, hc]) ⟨_, rfl, Lo.refl _, rfl⟩, fun h => by rw [wanted_free rfl] at h; cases h⟩
              | 2, _ =>
                injection ho with ho; subst ho
                have h4 : a.eval (.tmp 4) = .int .i64 k := hold 4 (by kernel_rfl)
                simp [Act.eval] at h4
                exact ⟨fun _ => wp_of_run (v := .int .i64 k) (w' := w') (by simp [go_sem, h4]) ⟨_, rfl, Lo.refl _, rfl⟩, fun h => by rw [wanted_free rfl] at h; cases h⟩
              | 3, _ =>
                injection ho with ho; subst ho
                have h61 : a.eval (.tmp 61) = .slice (some ⟨b, off, none⟩) r.to_.length p1 := hd 1 (by kernel_rfl) 61 (by kernel_rfl)
                have h62 : a.eval (.tmp 62) = .int .i64 k := hd 2 (by kernel_rfl) 62 (by kernel_rfl)
                simp [Act.eval] at h61 h62
                exact ⟨fun _ => wp_of_run (v := .pointer (some ⟨b, off + k * 4, none⟩)) (w' := w') (by simp [go_sem, h61, h62, Nat.not_le_of_lt hlt]) ⟨_, rfl, Lo.refl _, rfl⟩, fun h => by rw [wanted_free rfl] at h; cases h⟩
              | 4, _ =>
                injection ho with ho; subst ho
                have h63 : a.eval (.tmp 63) = .pointer (some ⟨b, off + k * 4, none⟩) := hd 3 (by kernel_rfl) 63 (by kernel_rfl)
                simp [Act.eval] at h63
                exact ⟨fun _ => wp_of_run (v := .pointer (some ⟨b, off + k * 4 + 1, none⟩)) (w' := w') (by simp [go_sem, h63]) ⟨_, rfl, Lo.refl _, rfl⟩, fun h => by rw [wanted_free rfl] at h; cases h⟩
              | 5, _ =>
                injection ho with ho; subst ho
                have h64 : a.eval (.tmp 64) = .pointer (some ⟨b, off + k * 4 + 1, none⟩) := hd 4 (by kernel_rfl) 64 (by kernel_rfl)
                have hc := lo_keep hl hc1
                simp [Act.eval] at h64
                exact ⟨fun _ => wp_of_run (v := .slice S1 r.to_[k].methods.length k1) (w' := w') (by simp [go_sem, h64, hc]) ⟨_, rfl, Lo.refl _, rfl⟩, fun h => by rw [wanted_free rfl] at h; cases h⟩
              | 6, _ =>
                injection ho with ho; subst ho
                have h1 : a.eval (.tmp 1) = .pointer (some ⟨w.heap.size, 0, none⟩) := hold 1 (by kernel_rfl)
                simp [Act.eval] at h1
                exact ⟨fun _ => wp_of_run (v := .pointer (some ⟨w.heap.size, 1, none⟩)) (w' := w') (by simp [go_sem, h1]) ⟨_, rfl, Lo.refl _, rfl⟩, fun h => by rw [wanted_free rfl] at h; cases h⟩
              | 7, _ =>
                injection ho with ho; subst ho
                have h66 : a.eval (.tmp 66) = .pointer (some ⟨w.heap.size, 1, none⟩) := hd 6 (by kernel_rfl) 66 (by kernel_rfl)
                have hc := lo_keep hl hb1
                simp [Act.eval] at h66
                exact ⟨fun _ => wp_of_run (v := .slice (some ⟨b, off, none⟩) r.to_.length p1) (w' := w') (by simp [go_sem, h66, hc]) ⟨_, rfl, Lo.refl _, rfl⟩, fun h => by rw [wanted_free rfl] at h; cases h⟩
              | 8, _ =>
                injection ho with ho; subst ho
                have h4 : a.eval (.tmp 4) = .int .i64 k := hold 4 (by kernel_rfl)
                simp [Act.eval] at h4
                exact ⟨fun _ => wp_of_run (v := .int .i64 k) (w' := w') (by simp [go_sem, h4]) ⟨_, rfl, Lo.refl _, rfl⟩, fun h => by rw [wanted_free rfl] at h; cases h⟩
              | 9, _ =>
                injection ho with ho; subst ho
                have h67 : a.eval (.tmp 67) = .slice (some ⟨b, off, none⟩) r.to_.length p1 := hd 7 (by kernel_rfl) 67 (by kernel_rfl)
                have h68 : a.eval (.tmp 68) = .int .i64 k := hd 8 (by kernel_rfl) 68 (by kernel_rfl)
                simp [Act.eval] at h67 h68
                exact ⟨fun _ => wp_of_run (v := .pointer (some ⟨b, off + k * 4, none⟩)) (w' := w') (by simp [go_sem, h67, h68, Nat.not_le_of_lt hlt]) ⟨_, rfl, Lo.refl _, rfl⟩, fun h => by rw [wanted_free rfl] at h; cases h⟩
              | 10, _ =>
                injection ho with ho; subst ho
                have h69 : a.eval (.tmp 69) = .pointer (some ⟨b, off + k * 4, none⟩) := hd 9 (by kernel_rfl) 69 (by kernel_rfl)
                simp [Act.eval] at h69
                exact ⟨fun _ => wp_of_run (v := .pointer (some ⟨b, off + k * 4 + 2, none⟩)) (w' := w') (by simp [go_sem, h69]) ⟨_, rfl, Lo.refl _, rfl⟩, fun h => by rw [wanted_free rfl] at h; cases h⟩
              | 11, _ =>
                injection ho with ho; subst ho
                have h70 : a.eval (.tmp 70) = .pointer (some ⟨b, off + k * 4 + 2, none⟩) := hd 10 (by kernel_rfl) 70 (by kernel_rfl)
                have hc := lo_keep hl hc2
                simp [Act.eval] at h70
                exact ⟨fun _ => wp_of_run (v := .slice S2 r.to_[k].paths.length k2) (w' := w') (by simp [go_sem, h70, hc]) ⟨_, rfl, Lo.refl _, rfl⟩, fun h => by rw [wanted_free rfl] at h; cases h⟩
              | 12, _ =>
                injection ho with ho; subst ho
                have h1 : a.eval (.tmp 1) = .pointer (some ⟨w.heap.size, 0, none⟩) := hold 1 (by kernel_rfl)
                simp [Act.eval] at h1
                exact ⟨fun _ => wp_of_run (v := .pointer (some ⟨w.heap.size, 1, none⟩)) (w' := w') (by simp [go_sem, h1]) ⟨_, rfl, Lo.refl _, rfl⟩, fun h => by rw [wanted_free rfl] at h; cases h⟩
              | 13, _ =>
                injection ho with ho; subst ho
                have h72 : a.eval (.tmp 72) = .pointer (some ⟨w.heap.size, 1, none⟩) := hd 12 (by kernel_rfl) 72 (by kernel_rfl)
                have hc := lo_keep hl hb1
                simp [Act.eval] at h72
                exact ⟨fun _ => wp_of_run (v := .slice (some ⟨b, off, none⟩) r.to_.length p1) (w' := w') (by simp [go_sem, h72, hc]) ⟨_, rfl, Lo.refl _, rfl⟩, fun h => by rw [wanted_free rfl] at h; cases h⟩
              | 14, _ =>
                injection ho with ho; subst ho
                have h4 : a.eval (.tmp 4) = .int .i64 k := hold 4 (by kernel_rfl)
                simp [Act.eval] at h4
                exact ⟨fun _ => wp_of_run (v := .int .i64 k) (w' := w') (by simp [go_sem, h4]) ⟨_, rfl, Lo.refl _, rfl⟩, fun h => by rw [wanted_free rfl] at h; cases h⟩
              | 15, _ =>
                injection ho with ho; subst ho
                have h73 : a.eval (.tmp 73) = .slice (some ⟨b, off, none⟩) r.to_.length p1 := hd 13 (by kernel_rfl) 73 (by kernel_rfl)
                have h74 : a.eval (.tmp 74) = .int .i64 k := hd 14 (by kernel_rfl) 74 (by kernel_rfl)
                simp [Act.eval] at h73 h74
                exact ⟨fun _ => wp_of_run (v := .pointer (some ⟨b, off + k * 4, none⟩)) (w' := w') (by simp [go_sem, h73, h74, Nat.not_le_of_lt hlt]) ⟨_, rfl, Lo.refl _, rfl⟩, fun h => by rw [wanted_free rfl] at h; cases h⟩
              | 16, _ =>
                injection ho with ho; subst ho
                have h75 : a.eval (.tmp 75) = .pointer (some ⟨b, off + k * 4, none⟩) := hd 15 (by kernel_rfl) 75 (by kernel_rfl)
                simp [Act.eval] at h75
                exact ⟨fun _ => wp_of_run (v := .pointer (some ⟨b, off + k * 4 + 3, none⟩)) (w' := w') (by simp [go_sem, h75]) ⟨_, rfl, Lo.refl _, rfl⟩, fun h => by rw [wanted_free rfl] at h; cases h⟩
              | 17, _ =>
                injection ho with ho; subst ho
                have h76 : a.eval (.tmp 76) = .pointer (some ⟨b, off + k * 4 + 3, none⟩) := hd 16 (by kernel_rfl) 76 (by kernel_rfl)
                have hc := lo_keep hl hc3
                simp [Act.eval] at h76
                exact ⟨fun _ => wp_of_run (v := .slice S3 r.to_[k].hosts.length k3) (w' := w') (by simp [go_sem, h76, hc]) ⟨_, rfl, Lo.refl _, rfl⟩, fun h => by rw [wanted_free rfl] at h; cases h⟩
              | 18, _ =>
                injection ho with ho; subst ho
                have h65 : a.eval (.tmp 65) = .slice S1 r.to_[k].methods.length k1 := hd 5 (by kernel_rfl) 65 (by kernel_rfl)
                have h71 : a.eval (.tmp 71) = .slice S2 r.to_[k].paths.length k2 := hd 11 (by kernel_rfl) 71 (by kernel_rfl)
                have h77 : a.eval (.tmp 77) = .slice S3 r.to_[k].hosts.length k3 := hd 17 (by kernel_rfl) 77 (by kernel_rfl)
                simp [Act.eval] at h65 h71 h77
                exact ⟨fun _ => wp_of_run (v := .slice (some ⟨w'.heap.size, 0, none⟩) 3 3) (w' := w'.alloc (.cells #[.slice S1 r.to_[k].methods.length k1, .slice S2 r.to_[k].paths.length k2, .slice S3 r.to_[k].hosts.length k3] 58)) (by simp [go_sem, h65, h71, h77]) ⟨_, rfl, (Lo.refl _).alloc _, _, rfl, heap_new_at rfl⟩, fun h => by rw [wanted_free rfl] at h; cases h⟩
              | 19, _ =>
                injection ho with ho; subst ho
                obtain ⟨n, hv, hn⟩ := hd 18 (by kernel_rfl) 78 (by kernel_rfl)
                refine ⟨fun _ => ?_, fun h => by rw [wanted_free rfl] at h; cases h⟩
                simp [Act.eval] at hv
                refine wp_call_of (f := 21) (args := #[.slice (some ⟨n, 0, none⟩) 3 3]) (by simp [go_sem, hv]) (HT.out w' n hl hn) ?_
                rintro e w2 ⟨rfl, hb⟩
                exact ⟨_, rfl, _, rfl, hb, rfl⟩
              | 20, _ =>
                injection ho with ho; subst ho
                have h79 : a.eval (.tmp 79) = .bool true := hd 19 (by kernel_rfl) 79 (by kernel_rfl)
                simp [Act.eval] at h79
                exact ⟨fun _ => wp_of_run (v := .bool true) (w' := w') (by simp [go_sem, h79]) ⟨_, rfl, Lo.refl _, rfl⟩, fun h => by rw [wanted_free rfl] at h; cases h⟩
              | 21, _ =>
                injection ho with ho; subst ho
                have hg : a.eval (.tmp 80) = .bool true := hd 20 (by kernel_rfl) 80 (by kernel_rfl)
                exact ⟨fun h => (by rw [wanted_at rfl rfl hg] at h; cases h), fun _ => trivial⟩
              | 22, _ =>
                injection ho with ho; subst ho
                have hg : a.eval (.tmp 80) = .bool true := hd 20 (by kernel_rfl) 80 (by kernel_rfl)
                exact ⟨fun h => (by rw [wanted_at rfl rfl hg] at h; cases h), fun _ => trivial⟩
              | 23, _ =>
                injection ho with ho; subst ho
                have hg : a.eval (.tmp 80) = .bool true := hd 20 (by kernel_rfl) 80 (by kernel_rfl)
                exact ⟨fun h => (by rw [wanted_at rfl rfl hg] at h; cases h), fun _ => trivial⟩
              | 24, _ =>
                injection ho with ho; subst ho
                have hg : a.eval (.tmp 80) = .bool true := hd 20 (by kernel_rfl) 80 (by kernel_rfl)
                exact ⟨fun h => (by rw [wanted_at rfl rfl hg] at h; cases h), fun _ => trivial⟩
              | 25, _ =>
                injection ho with ho; subst ho
                have hg : a.eval (.tmp 80) = .bool true := hd 20 (by kernel_rfl) 80 (by kernel_rfl)
                exact ⟨fun h => (by rw [wanted_at rfl rfl hg] at h; cases h), fun _ => trivial⟩
              | 26, _ =>
                injection ho with ho; subst ho
                have hg : a.eval (.tmp 80) = .bool true := hd 20 (by kernel_rfl) 80 (by kernel_rfl)
                exact ⟨fun h => (by rw [wanted_at rfl rfl hg] at h; cases h), fun _ => trivial⟩
              | 27, _ =>
                injection ho with ho; subst ho
                have hg : a.eval (.tmp 80) = .bool true := hd 20 (by kernel_rfl) 80 (by kernel_rfl)
                exact ⟨fun h => (by rw [wanted_at rfl rfl hg] at h; cases h), fun _ => trivial⟩
              | 28, _ =>
                injection ho with ho; subst ho
                have hg : a.eval (.tmp 80) = .bool true := hd 20 (by kernel_rfl) 80 (by kernel_rfl)
                exact ⟨fun h => (by rw [wanted_at rfl rfl hg] at h; cases h), fun _ => trivial⟩
              | 29, _ =>
                injection ho with ho; subst ho
                have h80 : a.eval (.tmp 80) = .bool true := hd 20 (by kernel_rfl) 80 (by kernel_rfl)
                simp [Act.eval] at h80
                exact ⟨fun _ => wp_of_run (v := .bool true) (w' := w') (by simp [go_sem, h80]) ⟨_, rfl, Lo.refl _, rfl⟩, fun h => by rw [wanted_free rfl] at h; cases h⟩
            · intro v w2 hb hp
              have p29 := hp 29 (by simp)
              clear hp
              simp only [List.length_cons, List.length_nil, Nat.zero_add, Nat.reduceAdd, List.range_succ, List.range_zero, List.nil_append, List.cons_append, List.foldl_cons, List.foldl_nil, dstOf, List.getElem?_toArray, List.getElem?_cons_zero, List.getElem?_cons_succ, Option.bind_some, Act.put, List.setIfInBounds_toArray, List.set_cons_zero, List.set_cons_succ]
              generalize v 29 = vl at *
              subst p29
              go_wp2
              go_ret
              exact ⟨ret_bool (HYt.out (by first | rfl | trivial)).symm, (by repeat (first | exact Lo.refl _ | assumption | refine Lo.drew ?_ | refine Lo.alloc ?_ _ | refine Lo.setCell ?_ (by first | (dsimp only; omega) | (simp; omega) | (simp; done)) _ | refine Lo.trans ?_ (by assumption)))⟩
        · have HF := hall.out
          rw [List.take_of_length_le (by omega)] at HF
          have HG4 := Lib.hid HF
          clear HF hall
          go_wp2
          go_loopw [5] (fun i wr => ∃ k : Nat, k ≤ r.when_.length ∧ i = .int .i64 k ∧ Lo w wr ∧ BoxAt wr w.heap.size [.slice A0 r.from_.length p0, .slice A1 r.to_.length p1, .slice A2 r.when_.length p2] ∧ Hid ((r.when_.take k).any whenLong = false)) (fun i _ => r.when_.length - (intOf i).toNat)
          case atStart => exact ⟨0, Nat.zero_le _, rfl, by first | assumption | exact (by repeat (first | exact Lo.refl _ | assumption | refine Lo.drew ?_ | refine Lo.alloc ?_ _ | refine Lo.setCell ?_ (by first | (dsimp only; omega) | (simp; omega) | (simp; done)) _ | refine Lo.trans ?_ (by assumption))), hbx, Lib.hid rfl⟩
          case round =>
            obtain ⟨k, hk, rfl, hlo, hbx, hall⟩ := hrel
            have hb0 := hbx 0 _ rfl
            have hb1 := hbx 1 _ rfl
            have hb2 := hbx 2 _ rfl
            by_cases hlt : k < r.when_.length
            · obtain ⟨b, off, cs, rfl, hb, hl2, hc, hr⟩ := (SliceAt.lo WhenR.kept h2 hlo hB) k r.when_[k] (List.getElem?_eq_getElem hlt)
              obtain ⟨d0, d1, rfl, ⟨f0, z0⟩, ⟨S1, k1, f1, u1, v1, x1⟩⟩ := hr
              injection f0 with f0; injection f1 with f1; subst f0 f1
              have hc0 : wr.cell? ⟨b, off + k * 2, none⟩ = _ := hc 0 _ rfl
              have hc1 : wr.cell? ⟨b, off + k * 2 + 1, none⟩ = _ := hc 1 _ rfl
              clear hc hl2
              have HT : Hid (∀ (W : World) (n : Nat), Lo wr W → W.heap[n]? = some (.cells #[.slice S1 r.when_[k].terms.length k1] 58 (0, 0)) →
                  Calls Tryz.prog 21 #[.slice (some ⟨n, 0, none⟩) 1 1] W fun e w' => e = .returned (.bool (termsB [r.when_[k].terms])) ∧ Lo W w') := Lib.hid fun W n hW hh =>
                termsNew (rows := [r.when_[k].terms]) (B := B) (w := wr) (Nat.le_trans hB hlo.size) hW rfl (by simp [maxLen]) (by
                  intro j x hj
                  match j, hj with
                  | 0, hj => simp at hj; subst hj; exact ⟨S1, k1, rfl, u1, v1, x1⟩) hh
              have hp : whenLong r.when_[k] = (termsB [r.when_[k].terms] || decide (300 < r.when_[k].head.size)) := rfl
              have HYt : Hid (termsB [r.when_[k].terms] = true → longRule r = true) := Lib.hid fun h => by rw [HL2.out, any_yes (p := whenLong) hlt (by rw [hp, h]; rfl)]; simp
              have HYn : Hid ((300 : Int) < (r.when_[k].head.size : Nat) → longRule r = true) := Lib.hid fun h => by rw [HL2.out, any_yes (p := whenLong) hlt (by rw [hp]; simp; omega)]; simp
              have HNn : Hid (termsB [r.when_[k].terms] = false → ¬ (300 : Int) < (r.when_[k].head.size : Nat) → (r.when_.take (k + 1)).any whenLong = false) := Lib.hid fun h1 h => WIdxWhen.any_snoc' hall.out hlt (by rw [hp, h1]; simp; omega)
              clear hp u1
              have j0 : (0 : Int) ≤ (k : Int) := Int.natCast_nonneg _
              have j1 : (k : Int) < (r.when_.length : Int) := by omega
              generalize termsB [r.when_[k].terms] = y at *
              cases y
              · go_wp2_with fail
                refine (HT.out _ _ ?_ ?_).mono ?_
                · exact (by repeat (first | exact Lo.refl _ | assumption | refine Lo.drew ?_ | refine Lo.alloc ?_ _ | refine Lo.setCell ?_ (by first | (dsimp only; omega) | (simp; omega) | (simp; done)) _ | refine Lo.trans ?_ (by assumption)))
                · exact heap_new_at (by simp)
                rintro e w2 ⟨rfl, hb⟩
                have q0 := lo_keep ((Lo.refl _).alloc _ |>.trans hb) hb0
                have q1 := lo_keep ((Lo.refl _).alloc _ |>.trans hb) hb1
                have q2 := lo_keep ((Lo.refl _).alloc _ |>.trans hb) hb2
                have q3 := lo_keep ((Lo.refl _).alloc _ |>.trans hb) hc0
                have q4 := lo_keep ((Lo.refl _).alloc _ |>.trans hb) hc1
                go_wp2
                all_goals
                  first
                    | (go_ret; exact ⟨ret_bool (HYn.out (by omega)).symm, (by repeat (first | exact Lo.refl _ | assumption | refine Lo.drew ?_ | refine Lo.alloc ?_ _ | refine Lo.setCell ?_ (by first | (dsimp only; omega) | (simp; omega) | (simp; done)) _ | refine Lo.trans ?_ (by assumption)))⟩)
                    | (go_roundw; (case rel => exact ⟨k + 1, by omega, by go_num, (by repeat (first | exact Lo.refl _ | assumption | refine Lo.drew ?_ | refine Lo.alloc ?_ _ | refine Lo.setCell ?_ (by first | (dsimp only; omega) | (simp; omega) | (simp; done)) _ | refine Lo.trans ?_ (by assumption))), (hbx.lo ((Lo.refl _).alloc _ |>.trans hb)), Lib.hid (HNn.out (by first | rfl | trivial) (by omega))⟩); (case measure => (simp [intOf]; omega)))
              · go_wp2_with fail
                refine (HT.out _ _ ?_ ?_).mono ?_
                · exact (by repeat (first | exact Lo.refl _ | assumption | refine Lo.drew ?_ | refine Lo.alloc ?_ _ | refine Lo.setCell ?_ (by first | (dsimp only; omega) | (simp; omega) | (simp; done)) _ | refine Lo.trans ?_ (by assumption)))
                · exact heap_new_at (by simp)
                rintro e w2 ⟨rfl, hb⟩
                go_wp2
                go_ret
                exact ⟨ret_bool (HYt.out (by first | rfl | trivial)).symm, (by repeat (first | exact Lo.refl _ | assumption | refine Lo.drew ?_ | refine Lo.alloc ?_ _ | refine Lo.setCell ?_ (by first | (dsimp only; omega) | (simp; omega) | (simp; done)) _ | refine Lo.trans ?_ (by assumption)))⟩
            · have HF := hall.out
              rw [List.take_of_length_le (by omega)] at HF
              have HG5 := Lib.hid HF
              clear HF hall
              go_wp2
              go_ret
              exact ⟨ret_bool (by rw [HL2.out, HG3.out, HG4.out, HG5.out]; rfl), (by repeat (first | exact Lo.refl _ | assumption | refine Lo.drew ?_ | refine Lo.alloc ?_ _ | refine Lo.setCell ?_ (by first | (dsimp only; omega) | (simp; omega) | (simp; done)) _ | refine Lo.trans ?_ (by assumption)))⟩
end Go.Proofs.YtnclifgiakmmoaaGreat.WAuth
