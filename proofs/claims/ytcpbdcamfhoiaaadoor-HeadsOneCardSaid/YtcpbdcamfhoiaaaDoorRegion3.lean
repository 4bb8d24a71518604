/- A region that draws its order and makes memory, guarded operations among them: each operation ahead of N is shown once; from N on the order is forced. -/
import Derived.Test.YtcpbdcamfhoiaaaDoorRegion2
import Derived.Test.YtcpbdcamfhoiaaaDoorFoot
namespace Go.Proofs.YtcpbdcamfhoiaaaDoor.Mem
set_option linter.unusedVariables false
set_option linter.unusedSimpArgs false
open Go.RowKit

def regionB3 (ops : Array Oper) (N M : Nat) : Bool :=
  decide (N ≤ ops.size) && forcedB ops N && (List.range ops.size).all fun i =>
    (match dstOf ops i with | some d => decide (writer ops d = some i) && decide (d < M) | none => true)
theorem wp_region_mix {P : Program} {id : Nat} {l : List Oper} {Q : Exit → Act → World → Prop} {a0 : Act} {w : World} (N M : Nat) (Φ : Nat → Value → World → Prop)
    (hm : P.follows .mixedOrders = true) (hM : a0.tmps.size = M) (hB : regionB3 l.toArray N M = true)
    (hstable : ∀ i v w1 w2, Φ i v w1 → Lo w1 w2 → Φ i v w2)
    (hspec : ∀ i o, i < N → l.toArray[i]? = some o → ∀ (a : Act) (w' : World), Lo w w' → (∀ j, (deps l.toArray i).contains j = true → ∀ d, dstOf l.toArray j = some d → Φ j (a.eval (.tmp d)) w') →
      (∀ t, ((writer l.toArray t).all fun j => decide (N ≤ j)) = true → a.eval (.tmp t) = a0.eval (.tmp t)) →
      (Region.wanted o (yielded l.toArray a.tmps) = true → o.wp P a w' (fun a' w'' => ∃ v, a' = a.put o.dst v ∧ Lo w' w'' ∧ Φ i v w'') Q) ∧ (Region.wanted o (yielded l.toArray a.tmps) = false → Φ i undef w'))
    (hfin : ∀ (v : Nat → Value) (w' : World), Lo w w' → (∀ i, i < N → Φ i (v i) w') → wpList P l.toArray Q (l.drop N) ((List.range N).foldl (fun a i => a.put (dstOf l.toArray i) (v i)) a0) w') :
    (Code.region id l.toArray true).wp P Q a0 w := by
  unfold regionB3 at hB
  simp only [Bool.and_eq_true, decide_eq_true_eq] at hB
  obtain ⟨⟨hN, hforced⟩, hall⟩ := hB
  rw [List.all_eq_true] at hall
  have hu : ∀ i d, i < l.toArray.size → dstOf l.toArray i = some d → writer l.toArray d = some i ∧ d < M := by
    intro i d hi hd
    have h1 := hall i (by simpa using hi)
    rw [hd] at h1
    simpa only [Bool.and_eq_true, decide_eq_true_eq] using h1
  refine wp_region_spec N Φ hm hN hforced (frame_none _ _) hstable ?_ ?_
  · intro i hi vals w' hlo hnone hd
    have hlt : i < l.toArray.size := by omega
    obtain ⟨o, ho⟩ : ∃ o, l.toArray[i]? = some o := ⟨_, Array.getElem?_eq_getElem hlt⟩
    have hput : ∀ v, (frame l.toArray a0 vals).put o.dst v = frame l.toArray a0 (setV vals i v) := by
      intro v
      cases hdst : o.dst with
      | some d =>
        have : dstOf l.toArray i = some d := by unfold dstOf; rw [ho]; exact hdst
        exact frame_put (hu i d hlt this).1 v
      | none =>
        refine frame_put_none (fun s hs => ?_) v v
        have := writer_spec hs
        rw [ho] at this
        simp only [Option.bind_some, hdst] at this
        cases this
    have hs := hspec i o hi ho (frame l.toArray a0 vals) w' hlo (by
      intro j hj d hjd
      obtain ⟨v, hv, hp⟩ := hd j (by simpa using hj)
      have hjs : j < l.toArray.size := by
        unfold dstOf at hjd
        rcases Nat.lt_or_ge j l.toArray.size with h | h
        · exact h
        · rw [Array.getElem?_eq_none h] at hjd; cases hjd
      obtain ⟨h1, h2⟩ := hu j d hjs hjd
      rw [frame_eval h1 hv (by rw [hM]; exact h2)]
      exact hp) (fun t ht => frame_old' ht hnone)
    unfold wpOp
    rw [ho]
    simp only
    cases hw : Region.wanted o (yielded l.toArray (frame l.toArray a0 vals).tmps)
    · simp only [Bool.false_eq_true, if_false]
      exact ⟨undef, hput _, Lo.refl _, hs.2 hw⟩
    · simp only [if_true]
      refine .inl (Oper.wp_mono ?_ (hs.1 hw))
      rintro a' w'' ⟨v, rfl, hl, hp⟩
      exact ⟨v, hput v, hl, hp⟩
  · intro vals w' hlo hv hn
    have hf := hfin (fun i => (vals i).getD undef) w' hlo (fun i hi => by obtain ⟨v, h1, h2⟩ := hv i hi; simp [h1, h2])
    rw [foldl_frame (fun i d hi hd => (hu i d hi hd).1) N hN] at hf
    have e : (fun i => if i < N then some ((vals i).getD undef) else none) = vals := by
      funext i
      by_cases h : i < N
      · obtain ⟨v, h1, _⟩ := hv i h
        rw [if_pos h, h1]; rfl
      · rw [if_neg h, hn i (by omega)]
    rw [e] at hf
    have hl := wpOps_eq_wpList (P := P) (ops := l.toArray) (Q := Q) (l.drop N) N (by intro j; rw [List.getElem?_drop]; simp)
    have hlen : (l.drop N).length = l.toArray.size - N := by simp
    rw [hlen] at hl
    rw [hl]
    exact hf
/-- what a callee made hangs on blocks that are not the row's -/
theorem foot_new {α β : Type} {T : Nat → Prop} {R : Rel α} {R' : Rel β} {e : TypeId} {sz base n : Nat} {wr w1 : World} {v : Value} {ys : List β} {y : α} {cs : List Value} (hft : Foot (fun b => n ≤ b ∧ b < w1.heap.size) R w1 y cs) (hrow : RowF T R' e sz base wr v ys) (_ : wr.heap.size ≤ w1.heap.size) (hn : wr.heap.size ≤ n) (hT : ∀ b, n ≤ b → T b) (o : Obj) :
    Foot (fun b => b < (w1.alloc o).heap.size ∧ T b ∧ some b ≠ v.ownBlock) R (w1.alloc o) y cs := by
  refine (hft.keep fun p hp => ((Lo.refl w1).alloc o).cell p hp.2).mono fun b hb => ⟨?_, hT b hb.1, fun e => ?_⟩
  · have := ((Lo.refl w1).alloc o).size
    omega
  · have := (hrow.own_ge b e.symm).2
    omega
end Go.Proofs.YtcpbdcamfhoiaaaDoor.Mem
