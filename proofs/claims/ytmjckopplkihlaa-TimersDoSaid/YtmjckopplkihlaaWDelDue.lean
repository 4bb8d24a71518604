/- slices.DeleteFunc at api.Due, of a row of the call's own. (Written by mk_delete.py.) -/
import Derived.Test.YtmjckopplkihlaaDel
import Derived.Test.YtmjckopplkihlaaWIdxDue
import Derived.Shelf.Abstract
namespace Go.Proofs.Ytmjckopplkihlaa.WDelDue
set_option linter.unusedVariables false
set_option linter.unusedSimpArgs false
open Go.RowKit Mem BigFrame
theorem info : (Try.prog.info? 25).map (fun i => (i.zero, i.size, i.bytes)) = some (some (.agg #[.int .u64 0, .int .i64 0, .int .u64 0]), 3, 24) := by kernel_rfl

theorem findI_cases {α : Type} {xs : List α} {p : α → Bool} : (∃ (k : Nat) (hk : k < xs.length), WIdxDue.findI p xs = k ∧ p xs[k] = true ∧ ∀ j (hj : j < k), p (xs[j]'(by omega)) = false) ∨ (WIdxDue.findI p xs = -1 ∧ ∀ x ∈ xs, p x = false) := by
  unfold WIdxDue.findI
  cases h : xs.findIdx? p with
  | none =>
    rw [List.findIdx?_eq_none_iff] at h
    exact .inr ⟨rfl, h⟩
  | some k =>
    rw [List.findIdx?_eq_some_iff_getElem] at h
    obtain ⟨hk, hp, hj⟩ := h
    exact .inl ⟨k, hk, rfl, hp, fun j hjk => by simpa using hj j hjk⟩

/-- what a function value gives, at each element, while the row is written -/
def Says {α : Type} (f : α → List Value) (w : World) (row : Option Nat) (xs : List α) (h : FuncId) (caps : Array Value) (p : α → Bool) : Prop :=
  ∀ (W : World) (x : α) (c0 c1 c2 : Value), x ∈ xs → f x = [c0, c1, c2] → w.grownBy W row → Calls Try.prog h (#[.agg #[c0, c1, c2]] ++ caps) W fun e w' => e = .returned (.bool (p x)) ∧ Lo W w'

set_option maxRecDepth 100000 in
set_option maxHeartbeats 3200000 in
theorem deleteFunc {α : Type} {f : α → List Value} {xs : List α} (hsh : ∀ x ∈ xs, ∃ (x0 x1 x2 : Int), f x = [.int .u64 x0, .int .i64 x1, .int .u64 x2]) {v : Value} {base : Nat} {p : α → Bool} {h : FuncId} {caps : Array Value} (w : World) (hown : Own3 f 25 base w v xs) (eg : Go.Proofs.Enters Try.prog h) (hf : Says f w v.ownBlock xs h caps p) :
    Calls Try.prog 39 #[v, .func (.func h) #[] caps] w fun e w' => ∃ v', e = .returned v' ∧ w.grownBy w' v.ownBlock ∧ Own3 f 25 base w' v' (xs.filter fun x => !p x) ∧ v'.ownBlock = v.ownBlock := by
  have h3 : Cells3 f xs := fun x hx => by
    obtain ⟨x0, x1, x2, hfx⟩ := hsh x hx
    exact ⟨_, _, _, hfx, rfl, rfl, rfl⟩
  have HIdx : Hid (∀ A cap, v = .slice A xs.length cap → SliceAt (CellR f) 3 w.heap.size w A xs → xs.length ≤ maxLen → Calls Try.prog 41 #[v, .func (.func h) #[] caps] w fun e w' => e = .returned (.int .i64 (WIdxDue.findI p xs)) ∧ Lo w w') :=
    Lib.hid fun A cap hv hA hn => by
      subst hv
      refine WIdxDue.indexFunc CellR.kept cap w (Nat.le_refl _) hA hn eg ?_
      intro W x c0 c1 c2 hx hlo hr
      exact hf W x c0 c1 c2 hx hr.symm (grown_of_lo hlo)
  have hkeepall : (∀ x ∈ xs, p x = false) → xs.filter (fun x => !p x) = xs := fun hh => by rw [List.filter_eq_self]; intro x hx; simp [hh x hx]
  obtain ⟨A, cap, hv, hA, hnc, hcm⟩ := hown.slice h3
  have HC := Lib.hid (HIdx.out A cap hv hA (Nat.le_trans hnc hcm))
  clear HIdx hA
  unfold Go.Proofs.Enters at eg
  rcases findI_cases (xs := xs) (p := p) with ⟨k, hk, hfk, hp, hb⟩ | ⟨hfn, hall⟩
  · rcases hown.open_ with ⟨rfl, rfl⟩ | ⟨g, cap2, cur, hv2, hbg, hg, hn, hc, hs, ht⟩
    · exact absurd hk (by simp)
    · rw [hv2] at hv
      injection hv with e1 _ e3
      subst e1 e3 hv2
      have hst : DelInv f 25 w g cap2 xs p k (k + 1) w := DelInv.start h3 hg hs ht hk hp hb
      have HF := Lib.hid hfk
      have H3 := Lib.hid hsh
      have HSay := Lib.hid hf
      have HWF := Lib.hid (Own3.of_block (w := w) h3 hbg hg hn hc hs ht)
      clear hfk hg hs ht hown hp hb hkeepall h3 hsh hf
      obtain ⟨i0, hi, hz0, hz1, hz2⟩ := info_parts info
      unfold maxLen at hc hcm
      have hgw : g < w.heap.size := (HWF.out.lt_ g rfl).2
      go_enter Try.func39, Try.ntmps39
      go_wp2_with fail
      refine (HC.out).mono ?_
      rw [HF.out]
      rintro e w1 ⟨rfl, hb1⟩
      have hst1 := hst.lo hb1
      have hg1 : g < w1.heap.size := Nat.lt_of_lt_of_le hgw hb1.size
      clear hst
      have hkm : ((k : Int) == -1) = false := by rw [beq_eq_false_iff_ne]; omega
      go_wp2
      go_loopw [5, 6] (fun i j wr => ∃ a b : Nat, i = .int .i64 a ∧ j = .int .i64 b ∧ a < b ∧ b ≤ xs.length ∧ DelInv f 25 w g cap2 xs p a b wr) (fun _ j _ => xs.length - (intOf j).toNat)
      case atStart => exact ⟨k, k + 1, rfl, by go_num, by omega, hk, hst1⟩
      case round =>
        obtain ⟨a, b, rfl, rfl, hab, hbn, hinv⟩ := hrel
        by_cases hlt : b < xs.length
        · obtain ⟨x0, x1, x2, hfx⟩ := H3.out xs[b] (List.getElem_mem hlt)
          obtain ⟨r0, r1, r2⟩ := hinv.read hlt hfx
          have hbr := World.block_lt_of_cell? wr _ r0
          have HS : Hid (∀ W, Lo wr W → Calls Try.prog h (#[.agg #[.int .u64 x0, .int .i64 x1, .int .u64 x2]] ++ caps) W fun e w' => e = .returned (.bool (p xs[b])) ∧ Lo W w') := Lib.hid fun W hW => HSay.out W xs[b] _ _ _ (List.getElem_mem hlt) hfx (grown_lo hinv.gr hW)
          have HFX := Lib.hid hfx
          have HI := Lib.hid hinv
          clear hfx hinv
          cases hp : p xs[b]
          all_goals
            have HP := Lib.hid hp
            clear hp
            go_wp2_with fail
            refine (HS.out _ ?_).mono ?_
            · exact (by repeat (first | exact Lo.refl _ | assumption | refine Lo.drew ?_ | refine Lo.alloc ?_ _ | refine Lo.setCell ?_ (by first | (dsimp only; omega) | (simp; omega) | (simp; done)) _ | refine Lo.trans ?_ (by assumption)))
            rw [HP.out]
            rintro e w2 ⟨rfl, hb2⟩
            have hl2 : Lo wr w2 := ((Lo.refl _).alloc _).trans hb2
          · have HJ := Lib.hid (HI.out.lo hl2)
            obtain ⟨⟨z0, y0⟩, f0⟩ := HJ.out.there hn (o := a * 3) (by omega)
            obtain ⟨⟨z1, y1⟩, f1⟩ := HJ.out.there hn (o := a * 3 + 1) (by omega)
            obtain ⟨⟨z2, y2⟩, f2⟩ := HJ.out.there hn (o := a * 3 + 2) (by omega)
            have hx0 : w2.cell? ⟨wr.heap.size, 0, none⟩ = some (.int .u64 x0) := lo_keep hb2 (by simp)
            have hx1 : w2.cell? ⟨wr.heap.size, 1, none⟩ = some (.int .i64 x1) := lo_keep hb2 (by simp)
            have hx2 : w2.cell? ⟨wr.heap.size, 2, none⟩ = some (.int .u64 x2) := lo_keep hb2 (by simp)
            have hne : ¬ g = wr.heap.size := by omega
            go_wp2
            go_roundw
            case rel => exact ⟨a + 1, b + 1, by go_num, by go_num, by omega, by omega, HJ.out.keep hn hlt HP.out HFX.out⟩
            case measure => simp [intOf]; omega
          · go_wp2
            go_roundw
            case rel => exact ⟨a, b + 1, rfl, by go_num, by omega, by omega, (HI.out.lo hl2).drop hlt HP.out⟩
            case measure => simp [intOf]; omega
        · obtain rfl : b = xs.length := by omega
          obtain ⟨hgr, hia, hax, cur2, hg2, hs2, ht2⟩ := hinv.done
          have hgr0 : g < wr.heap.size := block_lt hg2
          have HG := Lib.hid hg2
          have HS2 := Lib.hid hs2
          have HT2 := Lib.hid ht2
          have HIA := Lib.hid hia
          have HGR := Lib.hid hgr
          clear hg2 hs2 ht2 hia hinv hgr
          have j0 : (a : Int) < (xs.length : Int) := by omega
          have j1 : (xs.length : Int) ≤ (cap2 : Int) := by omega
          have j2 : ¬ (cap2 = a) := by omega
          have hpos : 0 < xs.length - a := by omega
          have hfit : a * 3 + (xs.length - a) * 3 ≤ cur2.length := by rw [HS2.out]; omega
          have hone : ∀ u ∈ (Value.cells (.agg #[.int .u64 0, .int .i64 0, .int .u64 0])).toList, u.oneCell' = true := by simp [Value.cells, Value.oneCell']
          have h03 : 0 < (Value.cells (.agg #[.int .u64 0, .int .i64 0, .int .u64 0])).size := by simp [Value.cells]
          go_wp2_with ((refine wpList_clear_row rfl (.tmp 38) 22 rfl 25 i0 _ Try.underlying22 hi hz0 g (a * 3) (xs.length - a) (cap2 - a) rfl hpos cur2 25 HG.out hfit hone h03 ?_); intro w3 cur3 HC3 hgr3)
          go_ret
          refine ⟨_, rfl, grown_trans HGR.out hgr3, ?_, rfl⟩
          obtain ⟨hg3, hs3, ht3⟩ := HC3.out
          have h3f : Cells3 f (xs.filter fun x => !p x) := fun x hx => by
            obtain ⟨x0, x1, x2, hfx⟩ := H3.out x (List.mem_filter.1 hx).1
            exact ⟨_, _, _, hfx, rfl, rfl, rfl⟩
          have hia := HIA.out
          rw [hia] at ht3 hax ⊢
          exact Own3.of_block h3f hbg hg3 (by omega) hc (by rw [hs3]; exact HS2.out) (by rw [ht3]; rw [← hia]; exact HT2.out)
  · have HF := Lib.hid hfn
    have HK := Lib.hid (hkeepall hall)
    clear hfn hall hkeepall
    obtain rfl := hv
    unfold maxLen at hcm
    have HO := Lib.hid hown
    clear hown
    go_enter Try.func39, Try.ntmps39
    go_wp2_with fail
    refine (HC.out).mono ?_
    rw [HF.out]
    rintro e w1 ⟨rfl, hb1⟩
    go_wp2
    go_ret
    exact ⟨_, rfl, grown_of_lo hb1, by rw [HK.out]; exact HO.out.lo hb1, rfl⟩
end Go.Proofs.Ytmjckopplkihlaa.WDelDue
