/- A region that draws its order and makes memory, guarded operations among them: each operation is shown once. -/
import Derived.Test.YtcpbdcamfhoiaaaDoorRegion
namespace Go.Proofs.YtcpbdcamfhoiaaaDoor.Mem
set_option linter.unusedVariables false
set_option linter.unusedSimpArgs false
open Go.RowKit

def regionB2 (ops : Array Oper) (M : Nat) : Bool :=
  forcedB ops ops.size && (List.range ops.size).all fun i =>
    (match dstOf ops i with | some d => decide (writer ops d = some i) && decide (d < M) | none => true)
theorem wanted_at {ops : Array Oper} {o : Oper} {a : Act} {j d : Nat} {want b : Bool} (hg : o.guard = some (j, want)) (hd : dstOf ops j = some d) (hv : a.eval (.tmp d) = .bool b) : Region.wanted o (yielded ops a.tmps) = (b == want) := by
  have hv' : a.tmps.getD d undef = .bool b := hv
  unfold Region.wanted
  rw [hg]
  simp only
  have : yielded ops a.tmps j = some b := by
    unfold yielded
    unfold dstOf at hd
    rw [hd]
    simp only [Option.bind_some]
    rw [Array.getD_eq_getD_getElem?] at hv'
    cases h : a.tmps[d]? with
    | none => rw [h] at hv'; cases hv'
    | some x => rw [h] at hv'; simp only [Option.getD_some] at hv'; rw [hv']
  rw [this]
  cases b <;> cases want <;> rfl
theorem wanted_free {o : Oper} {f : Nat → Option Bool} (hg : o.guard = none) : Region.wanted o f = true := by unfold Region.wanted; rw [hg]

/-- a call, as one operation: what it hands back, and that nothing that was there has turned -/
theorem wp_call_of {P : Program} {o : Oper} {a : Act} {w : World} {K : Act → World → Prop} {Q : Exit → Act → World → Prop} {f : FuncId} {args : Array Value} {R : Ending → World → Prop}
    (hrun : (execOp a.eval o).run P w = .ok (.enter f args) w) (hc : Calls P f args w R) (h : ∀ e w', R e w' → ∃ v, e = .returned v ∧ K (a.put o.dst v) w') : o.wp P a w K Q := by
  unfold Oper.wp
  rw [hrun, Oper.upon_enter]
  refine hc.mono fun e w' hr => ?_
  obtain ⟨v, rfl, hk⟩ := h e w' hr
  exact hk

theorem wp_region_all {P : Program} {id : Nat} {l : List Oper} {Q : Exit → Act → World → Prop} {a0 : Act} {w : World} (M : Nat) (Φ : Nat → Value → World → Prop)
    (hm : P.follows .mixedOrders = true) (hM : a0.tmps.size = M) (hB : regionB2 l.toArray M = true)
    (hstable : ∀ i v w1 w2, Φ i v w1 → Lo w1 w2 → Φ i v w2)
    (hspec : ∀ i o, i < l.length → l.toArray[i]? = some o → ∀ (a : Act) (w' : World), Lo w w' → (∀ j, (deps l.toArray i).contains j = true → ∀ d, dstOf l.toArray j = some d → Φ j (a.eval (.tmp d)) w') →
      (∀ t, (writer l.toArray t).isNone = true → a.eval (.tmp t) = a0.eval (.tmp t)) →
      (Region.wanted o (yielded l.toArray a.tmps) = true → o.wp P a w' (fun a' w'' => ∃ v, a' = a.put o.dst v ∧ Lo w' w'' ∧ Φ i v w'') Q) ∧ (Region.wanted o (yielded l.toArray a.tmps) = false → Φ i undef w'))
    (hfin : ∀ (v : Nat → Value) (w' : World), Lo w w' → (∀ i, i < l.length → Φ i (v i) w') → Q .normal ((List.range l.length).foldl (fun a i => a.put (dstOf l.toArray i) (v i)) a0) w') :
    (Code.region id l.toArray true).wp P Q a0 w := by
  unfold regionB2 at hB
  simp only [Bool.and_eq_true] at hB
  obtain ⟨hforced, hall⟩ := hB
  rw [List.all_eq_true] at hall
  have hu : ∀ i d, i < l.toArray.size → dstOf l.toArray i = some d → writer l.toArray d = some i ∧ d < M := by
    intro i d hi hd
    have h1 := hall i (by simpa using hi)
    rw [hd] at h1
    simpa only [Bool.and_eq_true, decide_eq_true_eq] using h1
  refine wp_region_spec l.toArray.size Φ hm (Nat.le_refl _) hforced (frame_none _ _) hstable ?_ ?_
  · intro i hi vals w' hlo hnone hd
    obtain ⟨o, ho⟩ : ∃ o, l.toArray[i]? = some o := ⟨_, Array.getElem?_eq_getElem hi⟩
    have hput : ∀ v, (frame l.toArray a0 vals).put o.dst v = frame l.toArray a0 (setV vals i v) := by
      intro v
      cases hdst : o.dst with
      | some d =>
        have : dstOf l.toArray i = some d := by unfold dstOf; rw [ho]; exact hdst
        exact frame_put (hu i d hi this).1 v
      | none =>
        refine frame_put_none (fun s hs => ?_) v v
        have := writer_spec hs
        rw [ho] at this
        simp only [Option.bind_some, hdst] at this
        cases this
    have hs := hspec i o (by simpa using hi) ho (frame l.toArray a0 vals) w' hlo (by
      intro j hj d hjd
      obtain ⟨v, hv, hp⟩ := hd j (by simpa using hj)
      have hjs : j < l.toArray.size := by
        unfold dstOf at hjd
        rcases Nat.lt_or_ge j l.toArray.size with h | h
        · exact h
        · rw [Array.getElem?_eq_none h] at hjd; cases hjd
      obtain ⟨h1, h2⟩ := hu j d hjs hjd
      rw [frame_eval h1 hv (by rw [hM]; exact h2)]
      exact hp) (by
      intro t ht
      cases h : writer l.toArray t with
      | none => exact frame_old h
      | some j => rw [h] at ht; cases ht)
    unfold wpOp
    rw [ho]
    simp only
    cases hw : Region.wanted o (yielded l.toArray (frame l.toArray a0 vals).tmps)
    · simp only [Bool.false_eq_true, if_false]
      exact ⟨undef, hput _, Lo.refl _, hs.2 hw⟩
    · simp only [if_true]
      refine .inl (Oper.wp_mono ?_ (hs.1 hw))
      rintro a' w'' ⟨v, rfl, hl, hp⟩
      exact ⟨v, hput v, hl, hp⟩
  · intro vals w' hlo hv hn
    have hf := hfin (fun i => (vals i).getD undef) w' hlo (fun i hi => by obtain ⟨v, h1, h2⟩ := hv i (by simpa using hi); simp [h1, h2])
    have hz : l.length = l.toArray.size := by simp
    rw [hz, foldl_frame (fun i d hi hd => (hu i d hi hd).1) l.toArray.size (Nat.le_refl _)] at hf
    have e : (fun i => if i < l.toArray.size then some ((vals i).getD undef) else none) = vals := by
      funext i
      by_cases h : i < l.toArray.size
      · obtain ⟨v, h1, _⟩ := hv i h
        rw [if_pos h, h1]; rfl
      · rw [if_neg h, hn i (by omega)]
    rw [e] at hf
    rw [Nat.sub_self]
    exact hf
end Go.Proofs.YtcpbdcamfhoiaaaDoor.Mem
