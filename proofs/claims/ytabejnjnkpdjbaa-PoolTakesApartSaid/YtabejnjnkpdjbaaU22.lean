/- Merged by bundles.py: SimXn, SimPq, SimEq. -/
import Derived.Test.YtabejnjnkpdjbaaU11
import Derived.Test.YtabejnjnkpdjbaaU20
import Derived.Laws.StructEq
/- A logic of states: a region that draws its order, with operations that write; from the n-th on the order is forced. (Written by mk_anyn.py.) -/
namespace Go.Proofs.Ytabejnjnkpdjbaa.Sim
set_option linter.unusedVariables false
set_option linter.unusedSimpArgs false
open Go.RowKit Mem
theorem wp_region_J {P : Program} {id : Nat} {ops : Array Oper} {Q : Exit → Act → World → Prop} {a0 : Act} {w : World} (N : Nat) (J : (Nat → Option Value) → World → Prop)
    (hm : P.follows .mixedOrders = true) (hN : N ≤ ops.size) (hforced : forcedB ops N = true) (ha : frame ops a0 (fun _ => none) = a0)
    (h0 : J (fun _ => none) w.drew)
    (hstep : ∀ listed vals w' i, i < N → i < ops.size → Closed ops listed → listed.size = ops.size → (∀ i, isOn listed i = (vals i).isSome) → isOn listed i = false → (∀ j ∈ deps ops i, isOn listed j = true) → (∀ k, N ≤ k → vals k = none) → J vals w' →
      wpOp P ops Q i (fun a' w'' => ∃ v, a' = frame ops a0 (setV vals i v) ∧ J (setV vals i v) w'') (frame ops a0 vals) w')
    (hfin : ∀ vals w', J vals w' → (∀ i, i < N → (vals i).isSome = true) → (∀ i, N ≤ i → vals i = none) → wpOps P ops Q (List.range' N (ops.size - N)) (frame ops a0 vals) w') :
    (Code.region id ops true).wp P Q a0 w := by
  refine wp_region_any hm (wpAny_inv (fun listed a w' =>
      Closed ops listed ∧ listed.size = ops.size ∧
      ((∃ vals, a = frame ops a0 vals ∧ J vals w' ∧ (∀ i, isOn listed i = (vals i).isSome) ∧ (∀ i, N ≤ i → vals i = none)) ∨
       (∃ m, N ≤ m ∧ m ≤ ops.size ∧ (∀ i, isOn listed i = decide (i < m)) ∧ wpOps P ops Q (List.range' m (ops.size - m)) a w'))) ?_ ?_ _ _ _ _ ⟨?_, by simp, .inl ⟨fun _ => none, ha.symm, h0, ?_, fun _ _ => rfl⟩⟩ (by simp) ?_)
  · rintro listed a w' i ⟨hcl, hsz, hI⟩ _ hr
    obtain ⟨hlt, hoff, hdeps⟩ := ready_spec hr
    have hcl' : Closed ops (listed.setIfInBounds i true) := by
      intro x y hx hy
      rw [isOn_set (by omega)] at hx ⊢
      by_cases hxi : x = i
      · subst hxi; rw [hdeps y hy]; simp
      · simp [hxi] at hx
        rw [hcl x y hx hy]; simp
    have htail : ∀ k, N ≤ k → k < ops.size → (∀ j ∈ deps ops k, isOn listed j = true) → ∀ j, j < k → isOn listed j = true := by
      intro k hk hks hd j hj
      unfold forcedB at hforced
      rw [List.all_eq_true] at hforced
      have h1 := hforced k (by simpa using hks)
      simp only [Bool.and_eq_true, Bool.or_eq_true, decide_eq_true_eq] at h1
      rcases h1.2 with h1 | h1
      · omega
      · rw [List.all_eq_true] at h1
        have h2 := h1 j (by simpa using hj)
        exact hcl.clos _ k j hd (by simpa using h2)
    rcases hI with ⟨vals, rfl, hJ, hon, hnone⟩ | ⟨m, hNm, hmn, hon, hwp⟩
    · by_cases hiN : i < N
      · refine wpOp_mono ?_ (hstep listed vals w' i hiN hlt hcl hsz hon hoff hdeps hnone hJ)
        rintro a' w'' ⟨v, rfl, hp⟩
        refine ⟨hcl', by simpa using hsz, .inl ⟨setV vals i v, rfl, hp, ?_, ?_⟩⟩
        · intro x
          rw [isOn_set (by omega)]
          by_cases hx : x = i
          · subst hx; simp [setV]
          · simp [setV, hx, hon x]
        · intro x hx
          have : x ≠ i := by omega
          simp [setV, this, hnone x hx]
      · have hall := htail i (by omega) hlt hdeps
        have hiN' : i = N := by
          rcases Nat.lt_or_ge N i with h | h
          · have := hall N h
            rw [hon N, hnone N (Nat.le_refl _)] at this; cases this
          · omega
        subst hiN'
        have hv : ∀ x, x < i → (vals x).isSome = true := by
          intro x hx
          rw [← hon x]; exact hall x hx
        have hwp := hfin vals w' hJ hv hnone
        have hsplit : List.range' i (ops.size - i) = i :: List.range' (i + 1) (ops.size - (i + 1)) := by
          rw [show ops.size - i = (ops.size - (i + 1)) + 1 from by omega, List.range'_succ]
        rw [hsplit, wpOps_cons] at hwp
        refine wpOp_mono ?_ hwp
        intro a' w'' h
        refine ⟨hcl', by simpa using hsz, .inr ⟨i + 1, by omega, by omega, ?_, h⟩⟩
        intro x
        rw [isOn_set (by omega), hon x]
        by_cases hx : x = i
        · subst hx; simp
        · rcases Nat.lt_or_ge x i with h | h
          · simp [hv x h]; omega
          · rw [hnone x h]; simp [hx]; omega
    · have hm' : m = i := by
        have h1 := hon i
        rw [hoff] at h1
        have hmi : m ≤ i := by simpa using h1.symm
        rcases Nat.lt_or_ge m i with h | h
        · have := htail i (by omega) hlt hdeps m h
          rw [hon m] at this; simp at this
        · omega
      subst hm'
      have hsplit : List.range' m (ops.size - m) = m :: List.range' (m + 1) (ops.size - (m + 1)) := by
        rw [show ops.size - m = (ops.size - (m + 1)) + 1 from by omega, List.range'_succ]
      rw [hsplit, wpOps_cons] at hwp
      refine wpOp_mono ?_ hwp
      intro a' w'' h
      refine ⟨hcl', by simpa using hsz, .inr ⟨m + 1, by omega, by omega, ?_, h⟩⟩
      intro x
      rw [isOn_set (by omega), hon x, Bool.eq_iff_iff]
      simp; omega
  · rintro listed a w' ⟨hcl, hsz, hI⟩ hr
    have hall : ∀ k, ∀ i, i < k → i < ops.size → isOn listed i = true := by
      intro k
      induction k with
      | zero => intro i hi; omega
      | succ k ih =>
        intro i hi hs
        rcases Nat.lt_or_ge i k with h | h
        · exact ih i h hs
        · have hik : i = k := by omega
          subst hik
          rcases Bool.eq_false_or_eq_true (isOn listed i) with h1 | h1
          · exact h1
          · exfalso
            have hlt : ∀ j ∈ deps ops i, j < i := by
              unfold forcedB at hforced
              rw [List.all_eq_true] at hforced
              have h2 := hforced i (by simpa using hs)
              simp only [Bool.and_eq_true] at h2
              have h3 := h2.1
              rw [List.all_eq_true] at h3
              intro j hj; simpa using h3 j hj
            have hmem : i ∈ Region.ready .any ops listed := by
              unfold Region.ready
              rw [List.mem_filter, List.mem_range]
              refine ⟨hs, ?_⟩
              simp only [Bool.and_eq_true, Bool.not_eq_true']
              constructor
              · unfold isOn at h1
                rw [Array.getD_eq_getD_getElem?, Array.getElem?_eq_getElem (by omega)] at h1 ⊢
                simpa using h1
              · rw [Array.getElem?_eq_getElem hs]
                simp only [Option.map_some, Option.getD_some]
                rw [Array.all_eq_true_iff_forall_mem]
                intro e he
                rcases Bool.eq_false_or_eq_true (Region.binds .any e) with hb | hb
                · have hj : e.on ∈ deps ops i := by
                    unfold deps
                    rw [Array.getElem?_eq_getElem hs]
                    simp only [Option.map_some, Option.getD_some, List.mem_map, List.mem_filter]
                    exact ⟨e, ⟨by simpa using he, hb⟩, rfl⟩
                  have := ih e.on (hlt _ hj) (by have := hlt _ hj; omega)
                  unfold isOn at this
                  simp [this]
                · simp [hb]
            rw [hr] at hmem; cases hmem
    rcases hI with ⟨vals, rfl, hJ, hon, hnone⟩ | ⟨m, hNm, hmn, hon, hwp⟩
    · have hNs : N = ops.size := by
        rcases Nat.lt_or_ge N ops.size with h | h
        · have := hall (N + 1) N (by omega) h
          rw [hon N, hnone N (Nat.le_refl _)] at this; cases this
        · omega
      have hv : ∀ x, x < N → (vals x).isSome = true := by
        intro x hx
        rw [← hon x]; exact hall (x + 1) x (by omega) (by omega)
      have := hfin vals w' hJ hv hnone
      rw [hNs] at this
      simpa [wpOps] using this
    · have hms : m = ops.size := by
        rcases Nat.lt_or_ge m ops.size with h | h
        · have := hall (m + 1) m (by omega) h
          rw [hon m] at this; simp at this
        · omega
      subst hms
      simpa [wpOps] using hwp
  · intro i j h
    unfold isOn at h
    rw [Array.getD_eq_getD_getElem?] at h
    simp only [Array.getElem?_replicate] at h
    split at h <;> cases h
  · intro i
    unfold isOn
    rw [Array.getD_eq_getD_getElem?]
    simp only [Array.getElem?_replicate]
    split <;> rfl
  · simp [List.countP_replicate]

set_option maxHeartbeats 2000000 in
theorem swp_anyN {P : Program} {N : Nat} {Q : Exit → St → Prop} {id : Nat} {l : List Oper} {tm : List (Nat × A)} {bx : List (Nat × List A)} {ow : List (Nat × Own)} (n : Nat) (W X : List (List Nat)) (hm : P.follows .mixedOrders = true) (hB : anyB l.toArray N W X = true) (hF : forcedB l.toArray n = true) (hnl : Nat.ble n l.length = true)
    (h : SAny P N l.toArray W X (fun _ st => SOps P N l.toArray Q (l.drop n) st) 0 (l.take n) ⟨tm, bx, ow⟩) : SWp P N (.region id l.toArray true) Q ⟨tm, bx, ow⟩ := by
  obtain ⟨tm', bx', ow', hrun, hQ⟩ := h
  obtain ⟨val, tms, bxs, ows, ht0, hb0, ho0, htn, hbn, hon_, hstep⟩ := erun_at hrun
  rw [Nat.zero_add] at htn hbn hon_
  generalize hops' : l.toArray = ops at *
  have hlsz : l.length = ops.size := by rw [← hops']; simp
  have hnl := Nat.le_of_ble_eq_true hnl
  have hns : n ≤ ops.size := by omega
  have hltk : (l.take n).length = n := by rw [List.length_take]; omega
  rw [hltk] at htn hbn hon_
  unfold anyB at hB
  simp only [Bool.and_eq_true] at hB
  obtain ⟨⟨hB1, hB2⟩, hB3⟩ := hB
  rw [List.all_eq_true] at hB1 hB2 hB3
  have hdl : ∀ i, i < ops.size → ∀ j ∈ deps ops i, j < i := fun i hi j hj => by
    have := hB1 i (by simpa using hi)
    simp only [Bool.and_eq_true] at this
    simpa using (List.all_eq_true.1 this.1) j hj
  have hwr : ∀ i d, i < ops.size → dstOf ops i = some d → writer ops d = some i ∧ d < N := fun i d hi hd => by
    have := hB1 i (by simpa using hi)
    simp only [Bool.and_eq_true] at this
    have h2 := this.2
    rw [hd] at h2
    simpa only [Bool.and_eq_true, decide_eq_true_eq] using h2
  have hops : ∀ i, i < ops.size → ∃ o, ops[i]? = some o ∧ l[i]? = some o := by
    intro i hi
    have hil : i < l.length := by omega
    refine ⟨l[i], ?_, List.getElem?_eq_getElem hil⟩
    have h0 : l.toArray[i]? = some l[i] := by simp [List.getElem?_eq_getElem hil]
    rwa [hops'] at h0
  have hat : ∀ i o, i < n → ops[i]? = some o → tms (i + 1) = tput o.dst (val i) (tms i) ∧ EAt P ops W X i o (tms i) (bxs i) (bxs (i + 1)) (ows i) (ows (i + 1)) (val i) := fun i o hin ho => by
    have hi : i < ops.size := by omega
    obtain ⟨o', h1, h2⟩ := hops i hi
    rw [ho] at h1; injection h1 with h1; subst h1
    have := hstep i o (by rw [List.getElem?_take_of_lt hin]; exact h2)
    rwa [Nat.zero_add] at this
  have htput : ∀ i, i < n → tms (i + 1) = tput (dstOf ops i) (val i) (tms i) := fun i hi => by
    obtain ⟨o, h1, _⟩ := hops i (by omega)
    have := (hat i o hi h1).1
    unfold dstOf; rw [h1]; exact this
  have hnwb : ∀ i, i < n → ∀ x, x ∉ W.getD i [] → get (bxs (i + 1)) x = get (bxs i) x := fun i hi x hx => by
    obtain ⟨o, h1, _⟩ := hops i (by omega)
    rcases (hat i o hi h1).2.go with ⟨_, _, h2, _⟩ | ⟨_, _, h2, _⟩ | ⟨_, wb, wo, h2, _, h3, _⟩
    · rw [h2]
    · rw [h2]
    · rw [h3, get_append]
      cases hg : get wb x with
      | none => rfl
      | some y => exact absurd (by simpa using (List.all_eq_true.1 h2) _ (get_mem hg)) hx
  have hnwo : ∀ i, i < n → ∀ x, x ∉ W.getD i [] → get (ows (i + 1)) x = get (ows i) x := fun i hi x hx => by
    obtain ⟨o, h1, _⟩ := hops i (by omega)
    rcases (hat i o hi h1).2.go with ⟨_, _, _, h2, _⟩ | ⟨_, _, _, h2, _⟩ | ⟨_, wb, wo, _, h2, _, h3, _⟩
    · rw [h2]
    · rw [h2]
    · rw [h3, get_append]
      cases hg : get wo x with
      | none => rfl
      | some y => exact absurd (by simpa using (List.all_eq_true.1 h2) _ (get_mem hg)) hx
  -- an operation's numbers, and the others'
  have hord : ∀ k j x, k < ops.size → j < ops.size → j ≠ k → x ∈ W.getD j [] → ((X.getD k []).contains x = false ∨ x ∈ W.getD k []) → ordB (ancL ops ops.size) j k = true := by
    intro k j x hk hj hjk hx hor
    have h1 := hB3 k (by simpa using hk)
    simp only [Bool.and_eq_true] at h1
    have h2 := (List.all_eq_true.1 h1.2) j (by simpa using hj)
    simp only [Bool.or_eq_true] at h2
    rcases h2 with (h2 | h2) | h2
    · exact absurd (Nat.eq_of_beq_eq_true h2) hjk
    · exact h2
    · have h3 := (List.all_eq_true.1 h2) x hx
      simp only [Bool.and_eq_true, Bool.not_eq_true'] at h3
      rcases hor with h4 | h4
      · rw [h4] at h3; exact absurd h3.1 (by simp)
      · have h5 : (W.getD k []).contains x = true := by simpa using h4
        rw [h5] at h3; exact absurd h3.2 (by simp)
  have hWX : ∀ k x, k < ops.size → x ∈ W.getD k [] → (X.getD k []).contains x = false := fun k x hk hx => by
    have h1 := hB3 k (by simpa using hk)
    simp only [Bool.and_eq_true] at h1
    simpa using (List.all_eq_true.1 h1.1) x hx
  refine .mk fun C a w ⟨m, g, hr⟩ => ?_
  have hfn := frame_none ops a
  have hev : ∀ {vals : Nat → Option Value} {i d v}, i < ops.size → dstOf ops i = some d → vals i = some v → (frame ops a vals).eval (.tmp d) = v := fun {vals i d v} hi hd hv => by
    obtain ⟨h1, h2⟩ := hwr i d hi hd
    exact frame_eval h1 hv (by rw [hr.size]; exact h2)
  have hslot : ∀ (vals : Nat → Option Value) (w' : World) (m' : Mm) (g' : Gh) (bxc : List (Nat × List A)) (owc : List (Nat × Own)), AnyI C n W val bxs ows tm a vals w' m' g' bxc owc → ∀ i, i ≤ n → ∀ s, (match writer ops s with | none => true | some j => (decide (j < i) && (vals j).isSome)) = true → ∀ y, get (tms i) s = some y → AR m' g' y ((frame ops a vals).eval (.tmp s)) := by
    intro vals w' m' g' bxc owc hI i hi s hs y hy
    rcases tms_getE htput i hi s y hy with ⟨j, hj1, hj2, rfl⟩ | ⟨hg0, hnone⟩
    · have hw := (hwr j s (by omega) hj2).1
      rw [hw] at hs
      simp only [Bool.and_eq_true, decide_eq_true_eq] at hs
      obtain ⟨v, hv⟩ := Option.isSome_iff_exists.1 hs.2
      rw [hev (by omega) hj2 hv]
      exact hI.vs j v hv (by omega)
    · rw [ht0] at hg0
      cases hw : writer ops s with
      | none => rw [frame_old hw]; exact hI.old s y hg0
      | some j =>
        rw [hw] at hs
        simp only [Bool.and_eq_true, decide_eq_true_eq] at hs
        exact absurd (writer_spec hw) (hnone j hs.1)
  have hput : ∀ (vals : Nat → Option Value) (i : Nat) (o : Oper) (v : Value), ops[i]? = some o → (frame ops a vals).put o.dst v = frame ops a (setV vals i v) := by
    intro vals i o v ho
    have hi : i < ops.size := by
      rcases Nat.lt_or_ge i ops.size with h | h
      · exact h
      · rw [Array.getElem?_eq_none h] at ho; cases ho
    cases hd : o.dst with
    | some d => exact frame_put (hwr i d hi (by unfold dstOf; rw [ho]; exact hd)).1 v
    | none =>
      refine frame_put_none (fun s hs => ?_) v v
      have := writer_spec hs
      rw [ho] at this
      simp only [Option.bind_some, hd] at this
      cases this
  have hd0 : Lo w w.drew := (Lo.refl w).drew
  refine wk_of <| wp_region_J (ops := ops) (a0 := a) n (fun vals w' => ∃ m' g' bxc owc, AnyI C n W val bxs ows tm a vals w' m' g' bxc owc) hm hns hF hfn ⟨m, g, bx, ow, ⟨hr.env.step hd0 (Ext.refl _ _) (hr.env.sub.lo hd0), fun i v h => (by cases h), hr.tmps, fun x => ⟨0, Nat.zero_le _, fun j _ _ => by simp, by rw [hb0]⟩, fun x => ⟨0, Nat.zero_le _, fun j _ _ => by simp, by rw [ho0]⟩⟩⟩ ?_ ?_
  · rintro listed vals w' i hin hlt hcl hsz hon hoff hdeps hnone ⟨m', g', bxc, owc, hI⟩
    have hvi : vals i = none := by rw [hon i] at hoff; simpa using hoff
    have hfin : ∀ v w'' m'' g'' bx2 ow2, AnyI C n W val bxs ows tm a (setV vals i v) w'' m'' g'' bx2 ow2 → ∃ v', frame ops a (setV vals i v) = frame ops a (setV vals i v') ∧ ∃ m' g' bxc owc, AnyI C n W val bxs ows tm a (setV vals i v') w'' m' g' bxc owc :=
      fun v w'' m'' g'' bx2 ow2 h => ⟨v, rfl, m'', g'', bx2, ow2, h⟩
    obtain ⟨o, ho⟩ : ∃ o, ops[i]? = some o := ⟨_, Array.getElem?_eq_getElem hlt⟩
    unfold wpOp
    rw [ho]
    simp only
    -- who writes what this one looks at has gone before, or comes behind
    have hpos : ∀ j x, j < n → j ≠ i → x ∈ W.getD j [] → ((X.getD i []).contains x = false ∨ x ∈ W.getD i []) → ((vals j).isSome = true ↔ j < i) := by
      intro j x hj0 hji hx hor
      have hj : j < ops.size := by omega
      have h1 := hord i j x hlt hj hji hx hor
      unfold ordB at h1
      rw [Bool.or_eq_true] at h1
      rcases h1 with h1 | h1
      · have h2 := anc_on hcl hdl i hlt hdeps ops.size hlt j (by simpa using h1)
        exact ⟨fun _ => h2.2, fun _ => by rw [← hon j]; exact h2.1⟩
      · have h1' : i ∈ (ancL ops ops.size).getD j [] := by simpa using h1
        have h2 := anc_lt hdl j hj ops.size hj i h1'
        refine ⟨fun h3 => ?_, fun h3 => by omega⟩
        rw [← hon j] at h3
        have h4 := (anc_on hcl hdl j hj (fun y hy => hcl j y h3 hy) ops.size hj i h1').1
        rw [hoff] at h4; cases h4
    have hposB : ∀ x, (X.getD i []).contains x = false → get bxc x = get (bxs i) x := by
      intro x hx
      obtain ⟨p, hp, h1, h2⟩ := hI.pb x
      rw [h2]
      have hw : ∀ j, j < n → x ∈ W.getD j [] → (j < p ↔ j < i) ∨ j = i := fun j hj hxj => by
        by_cases hji : j = i
        · exact .inr hji
        · exact .inl ((h1 j hj hxj).symm.trans (hpos j x hj hji hxj (.inl hx)))
      have hwi : x ∈ W.getD i [] → ¬ i < p := fun h3 h4 => by
        have := (h1 i hin h3).2 h4
        rw [hvi] at this; cases this
      rcases Nat.le_total p i with hpi | hpi
      · obtain ⟨d, rfl⟩ : ∃ d, i = p + d := ⟨i - p, by omega⟩
        exact (no_write hnwb d p (by omega) fun j h3 h4 hxj => by
          rcases hw j (by omega) hxj with h5 | h5
          · have := h5.2 h4; omega
          · omega).symm
      · obtain ⟨d, rfl⟩ : ∃ d, p = i + d := ⟨p - i, by omega⟩
        exact no_write hnwb d i (by omega) fun j h3 h4 hxj => by
          rcases hw j (by omega) hxj with h5 | h5
          · have := h5.1 h4; omega
          · subst h5; exact hwi hxj h4
    have hposO : ∀ x, (X.getD i []).contains x = false → get owc x = get (ows i) x := by
      intro x hx
      obtain ⟨p, hp, h1, h2⟩ := hI.po x
      rw [h2]
      have hw : ∀ j, j < n → x ∈ W.getD j [] → (j < p ↔ j < i) ∨ j = i := fun j hj hxj => by
        by_cases hji : j = i
        · exact .inr hji
        · exact .inl ((h1 j hj hxj).symm.trans (hpos j x hj hji hxj (.inl hx)))
      have hwi : x ∈ W.getD i [] → ¬ i < p := fun h3 h4 => by
        have := (h1 i hin h3).2 h4
        rw [hvi] at this; cases this
      rcases Nat.le_total p i with hpi | hpi
      · obtain ⟨d, rfl⟩ : ∃ d, i = p + d := ⟨i - p, by omega⟩
        exact (no_write hnwo d p (by omega) fun j h3 h4 hxj => by
          rcases hw j (by omega) hxj with h5 | h5
          · have := h5.2 h4; omega
          · omega).symm
      · obtain ⟨d, rfl⟩ : ∃ d, p = i + d := ⟨p - i, by omega⟩
        exact no_write hnwo d i (by omega) fun j h3 h4 hxj => by
          rcases hw j (by omega) hxj with h5 | h5
          · have := h5.1 h4; omega
          · subst h5; exact hwi hxj h4
    have hgetB : ∀ x, get (rst (X.getD i []) (bxs i) ++ bxc) x = get bxc x := fun x => by
      rw [get_append, get_rst]
      cases hx : (X.getD i []).contains x with
      | true => rfl
      | false =>
        rw [hposB x hx]
        cases get (bxs i) x <;> rfl
    have hgetO : ∀ x, get (rst (X.getD i []) (ows i) ++ owc) x = get owc x := fun x => by
      rw [get_append, get_rst]
      cases hx : (X.getD i []).contains x with
      | true => rfl
      | false =>
        rw [hposO x hx]
        cases get (ows i) x <;> rfl
    have henv : EnvG C (rst (X.getD i []) (bxs i) ++ bxc) (rst (X.getD i []) (ows i) ++ owc) w' m' g' := hI.env.same hgetB hgetO
    have hB2' := hB2 i (by simpa using hlt)
    rw [ho] at hB2'
    simp only [Bool.and_eq_true] at hB2'
    have hdv : ∀ j, (deps ops i).contains j = true → (vals j).isSome = true := fun j hj => by rw [← hon j]; exact hdeps j (by simpa using hj)
    have hs1 : ∀ s, (match writer ops s with | none => true | some j => decide (j < i) && (deps ops i).contains j) = true → ∀ y, get (tms i) s = some y → AR m' g' y ((frame ops a vals).eval (.tmp s)) := by
      intro s hs y hy
      refine hslot vals w' m' g' bxc owc hI i (by omega) s ?_ y hy
      cases hw : writer ops s with
      | none => rfl
      | some j =>
        rw [hw] at hs
        simp only [Bool.and_eq_true] at hs ⊢
        exact ⟨hs.1, hdv j hs.2⟩
    have hgd : ∀ j want e, o.guard = some (j, want) → dstOf ops j = some e → ∀ y, get (tms i) e = some y → AR m' g' y ((frame ops a vals).eval (.tmp e)) := by
      intro j want e hg he y hy
      have h3 := hB2'.2
      rw [hg] at h3
      refine hs1 e ?_ y hy
      have hji : j < i := by simp only [Bool.and_eq_true, decide_eq_true_eq] at h3; exact h3.1
      rw [(hwr j e (by omega) he).1]
      exact h3
    have hops' : ∀ x ∈ o.op.operands.toList, ∀ y, evA (tms i) x = some y → AR m' g' y ((frame ops a vals).eval x) := by
      intro x hx y hy
      cases x with
      | tmp s => exact hs1 s ((List.all_eq_true.1 hB2'.1) s (mem_slots hx)) y hy
      | const v => injection hy with hy; subst hy; exact TR.v v
      | func f => injection hy with hy; subst hy; exact TR.v _
      | global i => cases hy
    have hset : ∀ v j, j ≠ i → setV vals i v j = vals j := fun v j hj => setV_other _ hj v
    -- what is added and turns nothing
    have hquiet : ∀ v w'' m'', W.getD i [] = [] → Lo w' w'' → Ext m' m'' w'.heap.size → Sub m'' w'' → AR m'' g' (val i) v → AnyI C n W val bxs ows tm a (setV vals i v) w'' m'' g' bxc owc := by
      intro v w'' m'' hW hl he hs hv
      refine ⟨hI.env.step hl he hs, fun x u hu hx => ?_, fun s x hx => (hI.old s x hx).mono he.1, fun x => ?_, fun x => ?_⟩
      · by_cases hxi : x = i
        · subst hxi; rw [setV_same] at hu; injection hu with hu; subst hu; exact hv
        · rw [hset v x hxi] at hu; exact (hI.vs x u hu hx).mono he.1
      · obtain ⟨p, h1, h2, h3⟩ := hI.pb x
        refine ⟨p, h1, fun j hj hxj => ?_, h3⟩
        have hji : j ≠ i := fun e => by subst e; rw [hW] at hxj; cases hxj
        rw [hset v j hji]; exact h2 j hj hxj
      · obtain ⟨p, h1, h2, h3⟩ := hI.po x
        refine ⟨p, h1, fun j hj hxj => ?_, h3⟩
        have hji : j ≠ i := fun e => by subst e; rw [hW] at hxj; cases hxj
        rw [hset v j hji]; exact h2 j hj hxj
    rcases (hat i o hin ho).2.go with ⟨hg, hW, _, _, hp⟩ | ⟨hg, hW, _, _, hv⟩ | ⟨hg, wb, wo, hW1, hW2, hbe, hoe, he⟩
    · rw [if_pos (hg.wanted hgd)]
      refine .inl (Oper.wp_mono ?_ ((hp bxc owc).go C m' g' w' (frame ops a vals) _ henv hops'))
      rintro a2 w2 ⟨v, m2, rfl, hl2, he2, hs2, hv2⟩
      rw [hput vals i o v ho]
      exact hfin v w2 m2 g' bxc owc (hquiet v w2 m2 hW hl2 he2 hs2 hv2)
    · rw [if_neg (by rw [hg.wanted hgd]; simp)]
      rw [hput vals i o _ ho]
      exact hfin _ w' m' g' bxc owc (hquiet _ w' m' hW (Lo.refl _) (Ext.refl _ _) hI.env.sub (by rw [hv]; exact TR.v _))
    · rw [if_pos (hg.wanted hgd)]
      refine .inl (Oper.wp_mono ?_ ((he bxc owc (fun x hx hn => by rw [hposB x hx]; exact hn) (fun x hx hn => by rw [hposO x hx]; exact hn)).go C m' g' w' (frame ops a vals) _ henv hops'))
      rintro a2 w2 ⟨v, m2, g2, rfl, henv2, hv2, hk2⟩
      rw [hput vals i o v ho]
      refine hfin v w2 m2 g2 _ _ ⟨henv2, fun x u hu hx => ?_, fun s x hx => hk2 _ _ (hI.old s x hx), fun x => ?_, fun x => ?_⟩
      · by_cases hxi : x = i
        · subst hxi; rw [setV_same] at hu; injection hu with hu; subst hu; exact hv2
        · rw [hset v x hxi] at hu; exact hk2 _ _ (hI.vs x u hu hx)
      · by_cases hxW : x ∈ W.getD i []
        · refine ⟨i + 1, by omega, fun j hj hxj => ?_, ?_⟩
          · by_cases hji : j = i
            · subst hji; rw [setV_same]; simp
            · rw [hset v j hji, hpos j x hj hji hxj (.inr hxW)]; omega
          · rw [hbe, get_append wb (rst (X.getD i []) (bxs i) ++ bxc), hgetB, hposB x (hWX i x hlt hxW), get_append wb (bxs i)]
        · obtain ⟨p, h1, h2, h3⟩ := hI.pb x
          refine ⟨p, h1, fun j hj hxj => ?_, ?_⟩
          · have hji : j ≠ i := fun e => by subst e; exact hxW hxj
            rw [hset v j hji]; exact h2 j hj hxj
          · rw [get_append]
            cases hgw : get wb x with
            | none => simp only; rw [hgetB]; exact h3
            | some y => exact absurd (by simpa using (List.all_eq_true.1 hW1) _ (get_mem hgw)) hxW
      · by_cases hxW : x ∈ W.getD i []
        · refine ⟨i + 1, by omega, fun j hj hxj => ?_, ?_⟩
          · by_cases hji : j = i
            · subst hji; rw [setV_same]; simp
            · rw [hset v j hji, hpos j x hj hji hxj (.inr hxW)]; omega
          · rw [hoe, get_append wo (rst (X.getD i []) (ows i) ++ owc), hgetO, hposO x (hWX i x hlt hxW), get_append wo (ows i)]
        · obtain ⟨p, h1, h2, h3⟩ := hI.po x
          refine ⟨p, h1, fun j hj hxj => ?_, ?_⟩
          · have hji : j ≠ i := fun e => by subst e; exact hxW hxj
            rw [hset v j hji]; exact h2 j hj hxj
          · rw [get_append]
            cases hgw : get wo x with
            | none => simp only; rw [hgetO]; exact h3
            | some y => exact absurd (by simpa using (List.all_eq_true.1 hW2) _ (get_mem hgw)) hxW
  · rintro vals w' ⟨m', g', bxc, owc, hI⟩ hvs hnone
    have hendB : ∀ x, get bx' x = get bxc x := fun x => by
      obtain ⟨p, h1, h2, h3⟩ := hI.pb x
      rw [h3, ← hbn]
      obtain ⟨d, hd⟩ : ∃ d, n = p + d := ⟨n - p, by omega⟩
      rw [hd]
      exact no_write hnwb d p (by omega) fun j h4 h5 hxj => by
        have := (h2 j (by omega) hxj).1 (hvs j (by omega)); omega
    have hendO : ∀ x, get ow' x = get owc x := fun x => by
      obtain ⟨p, h1, h2, h3⟩ := hI.po x
      rw [h3, ← hon_]
      obtain ⟨d, hd⟩ : ∃ d, n = p + d := ⟨n - p, by omega⟩
      rw [hd]
      exact no_write hnwo d p (by omega) fun j h4 h5 hxj => by
        have := (h2 j (by omega) hxj).1 (hvs j (by omega)); omega
    have hrel : Rel C N ⟨tm', bx', ow'⟩ (frame ops a vals) w' := by
      refine ⟨m', g', hI.env.same hendB hendO, by simp [frame, hr.size], hr.defers, fun s x hx => ?_⟩
      rcases tms_getE htput n (Nat.le_refl _) s x (by rw [htn]; exact hx) with ⟨j, hj1, hj2, rfl⟩ | ⟨hg0, hno⟩
      · obtain ⟨v, hv⟩ := Option.isSome_iff_exists.1 (hvs j hj1)
        rw [hev (by omega) hj2 hv]
        exact hI.vs j v hv hj1
      · rw [ht0] at hg0
        have hfe : (frame ops a vals).eval (.tmp s) = a.eval (.tmp s) := by
          cases hw : writer ops s with
          | none => exact frame_old hw
          | some j => exact frame_old' (by
              rw [hw]
              have hjs := writer_spec hw
              simp only [Option.all_some, decide_eq_true_eq]
              rcases Nat.lt_or_ge j n with h | h
              · exact absurd hjs (hno j h)
              · exact h) (fun k hk => hnone k hk)
        rw [hfe]; exact hI.old s x hg0
    have hgo := hQ.go C _ _ hrel
    have hl := wpOps_eq_wpList (P := P) (ops := ops) (Q := fun e a w => Good C N Q e a w) (l.drop n) n (by intro j; rw [List.getElem?_drop, ← hops']; simp)
    have hlen : (l.drop n).length = ops.size - n := by rw [List.length_drop]; omega
    rw [hlen] at hl
    rw [hl]
    exact hgo
end Go.Proofs.Ytabejnjnkpdjbaa.Sim

/- A family opened by name; a value remembered in a box. -/
namespace Go.Proofs.Ytabejnjnkpdjbaa.Sim
set_option linter.unusedVariables false
set_option linter.unusedSimpArgs false
open Go.RowKit Mem
section
variable {N : Nat} {tm : List (Nat × A)} {bx : List (Nat × List A)} {ow : List (Nat × Own)}
theorem weak_openN (i j E : Nat) {a b : List (Value × Own)} {u : Value} {o : Own} (hb : get bx i = some [.rs (FamR (a ++ (u, o) :: b))]) (hj : get ow j = none) (hc : chB i = true := by rfl) (hh : hid j = true := by rfl) (hp : Nat.ble 2000 j = false := by rfl) :
    Weak N ⟨tm, bx, ow⟩ ⟨(E, .ev j o.rows.length u) :: tm, (i, [.rs (FamR (a ++ b))]) :: bx, (j, o) :: ow⟩ := .mk fun C ac w ⟨m, g, hr⟩ => by
  have he := hr.env
  have h1 := he.openF hc hb hj hh hp
  have hlw : (g.openF i j u o.rows.length).lw j = true := if_pos rfl
  have hln : (g.openF i j u o.rows.length).ln j = o.rows.length := if_pos rfl
  have hgo : (g.openF i j u o.rows.length).go j = u := if_pos rfl
  refine ⟨m, _, h1, hr.size, hr.defers, fun s' x hx => ?_⟩
  rw [get_cons] at hx
  by_cases e : E = s'
  · rw [if_pos e] at hx; injection hx with hx; subst hx
    exact ⟨hlw, Nat.le_of_eq hln.symm, trivial, fun _ => hgo⟩
  · rw [if_neg e] at hx
    exact ar_openF he hj (hr.tmps s' x hx)
theorem weak_evbx (E i k : Nat) {cs : List A} {j n : Nat} {u : Value} (hE : get tm E = some (.ev j n u)) (hb : get bx i = some cs) (hch : chB i = false := by rfl) : Weak N ⟨tm, bx, ow⟩ ⟨tm, (i, cs.set k (.ev j n u)) :: bx, ow⟩ := .mk fun C a w ⟨m, g, hr⟩ => by
  have he := hr.env
  obtain ⟨vs, ty, h3, h4, h5, h6, h7⟩ := he.boxes i cs hb hch
  have hev := hr.tmps E _ hE
  have hcells : ∀ (q : Nat) x v, (cs.set k (.ev j n u))[q]? = some x → vs[q]? = some v → AR m g x v ∧ v.oneCell' = true := by
    refine fun q x v hx hv => ?_
    rw [List.getElem?_set] at hx
    by_cases hjk : k = q
    · subst hjk
      rw [if_pos rfl] at hx
      split at hx
      · rename_i hl
        injection hx with hx; subst hx
        have hh := h5 k _ v (List.getElem?_eq_getElem hl) hv
        exact ⟨hev, hh.2⟩
      · cases hx
    · rw [if_neg hjk] at hx
      exact h5 q x v hx hv
  exact ⟨m, g, he.setAtW hb (vs' := vs) ⟨rfl, rfl, rfl, Nat.le_refl _, fun _ _ _ => rfl⟩ h3 (by simpa using h4) hcells hch, hr.size, hr.defers, hr.tmps⟩
end
section
variable {P : Program} {bx : List (Nat × List A)} {ow : List (Nat × Own)} {o : Oper} {ρ : Operand → Option A} {r : A}
theorem po_load_ev {ty e : TypeId} {x : Operand} {i nn sz k off n B q j m0 : Nat} {rows : List (List T)} {row : List T} {u : Value} {cs : List A} {o' : Own} (ho : o.op = .load ty x) (hx : ρ x = some (.oe i nn sz k off)) (hi : get ow i = some ⟨e, sz, rows⟩) (hnn : nn = rows.length) (hT : tyI P ty = some (false, n)) (hk : rows[k]? = some row) (ht : row[off]? = some (.v u))
    (hB : get bx B = some cs) (hq : cs[q]? = some (.ev j m0 u)) (hj : get ow j = some o') (hm : m0 = o'.rows.length) (hcB : cellB B = true := by rfl) : PureOp P bx ow o ρ (.own j m0) := pure_run fun C m g w a he h => by
  obtain ⟨h1, h2, _, h4⟩ := h x (by simp [ho, Op.operands]) _ hx
  obtain ⟨b, h5, h6⟩ := h4 (by rw [he.ln i _ hi]; exact hnn)
  obtain ⟨u0, h7, h8, _⟩ := own_cell he hi h5 hk ht
  have hu : u0 = u := tr_v h8
  subst hu
  obtain ⟨vs, ty', _, hz, hcells, _⟩ := he.boxes B cs hB (cell_ch hcB)
  have hlen : q < vs.size := by
    have h9 : cs.length ≤ vs.size := hz.1 (cell_ch hcB)
    have := (List.getElem?_eq_some_iff.1 hq).1
    omega
  obtain ⟨⟨e1, e2, _, e4⟩, _⟩ := hcells q _ _ hq (Array.getElem?_eq_getElem hlen)
  have hln := he.ln j _ hj
  have hgo : g.go j = u0 := e4 (by rw [hln]; exact hm)
  refine ⟨u0, by simp [execOp, ho, h6, run_load_scalar hT h7], e1, e2, ?_, fun _ => hgo.symm⟩
  obtain ⟨us, hown, _⟩ := he.owns j _ hj
  rw [hgo] at hown
  rcases hown.2 with ⟨h9, h10⟩ | ⟨g5, cap, cur, h9, _⟩
  · exact ⟨none, 0, by rw [h9, hm, h10]⟩
  · exact ⟨some ⟨g5, 0, none⟩, cap, by rw [h9, hm]⟩
end
end Go.Proofs.Ytabejnjnkpdjbaa.Sim

/- Structs compared. -/
namespace Go.Proofs.Ytabejnjnkpdjbaa.Sim
set_option linter.unusedVariables false
set_option linter.unusedSimpArgs false
open Go.RowKit Mem
theorem eqId (a b c d e f : Int) (w : World) : (Op.equalIn 10000 26 (.agg #[.int .i64 a, .int .u64 b, .int .u64 c]) (.agg #[.int .i64 d, .int .u64 e, .int .u64 f])).run Try.prog w = .ok (a == d && (b == e && c == f)) w := by
  have u3 := Try.underlying3
  have a3 := Try.isAgg3
  have z3 := Try.sizeOf3
  have u24 := Try.underlying24
  have a24 := Try.isAgg24
  have z24 := Try.sizeOf24
  have hS : Try.prog.underlying 26 = some (.struct (Try.prog.fieldsOf 26)) := by kernel_rfl
  have hp : Try.prog.stoodInHeld 26 = false := by kernel_rfl
  rw [show (10000 : Nat) = 9999 + 1 from rfl, run_equalIn_agg w 9999 26 _ _ hS hp]
  simp only [Program.fieldsOf, Try.underlying26]
  go_simp
  by_cases h1 : a = d <;> by_cases h2 : b = e <;> by_cases h3 : c = f <;> simp [h1, h2, h3]
theorem eqDst (a b c d e f : Int) (w : World) : (Op.equalIn 10000 39 (.agg #[.int .u64 a, .int .u32 b, .int .i64 c]) (.agg #[.int .u64 d, .int .u32 e, .int .i64 f])).run Try.prog w = .ok (a == d && (b == e && c == f)) w := by
  have u3 := Try.underlying3
  have a3 := Try.isAgg3
  have z3 := Try.sizeOf3
  have u24 := Try.underlying24
  have a24 := Try.isAgg24
  have z24 := Try.sizeOf24
  have u32 := Try.underlying35
  have a32 := Try.isAgg35
  have z32 := Try.sizeOf35
  have hS : Try.prog.underlying 39 = some (.struct (Try.prog.fieldsOf 39)) := by kernel_rfl
  have hp : Try.prog.stoodInHeld 39 = false := by kernel_rfl
  rw [show (10000 : Nat) = 9999 + 1 from rfl, run_equalIn_agg w 9999 39 _ _ hS hp]
  simp only [Program.fieldsOf, Try.underlying39]
  go_simp
  by_cases h1 : a = d <;> by_cases h2 : b = e <;> by_cases h3 : c = f <;> simp [h1, h2, h3]
theorem tr_aggv {m : Mm} {l : List Value} {u : Value} (h : TR m (.agg (l.map .v)) u) : u = .agg l.toArray := by
  generalize ht : T.agg (l.map .v) = t at h
  cases h with
  | agg cs vs hl h1 h2 =>
    injection ht with ht; subst ht
    congr 1
    apply Array.ext'
    refine List.ext_getElem? fun j => ?_
    simp only [List.length_map] at hl
    by_cases hj : j < l.length
    · have hv : vs.toList[j]? = some (vs[j]'(by omega)) := by simp
      have := h2 j (.v l[j]) _ (by rw [List.getElem?_map, List.getElem?_eq_getElem hj]; rfl) (Array.getElem?_eq_getElem (by omega))
      rw [hv, tr_v this, List.toList_toArray, List.getElem?_eq_getElem hj]
    · rw [List.getElem?_eq_none (by simp only [Array.length_toList]; omega), List.getElem?_eq_none (by simp only [List.toList_toArray]; omega)]
  | _ => cases ht
section
variable {bx : List (Nat × List A)} {ow : List (Nat × Own)} {o : Oper} {ρ : Operand → Option A}
theorem po_eqst {t t2 : TypeId} {x y : Operand} {l l' : List Value} {c : Bool} (ho : o.op = .binOp .eql t x y t2) (hx : ρ x = some (.t (.agg (l.map .v)))) (hy : ρ y = some (.t (.agg (l'.map .v)))) (hg : Try.prog.eqGuardType Try.prog.depth t = false)
    (hc : ∀ w, (Op.equalIn 10000 t (.agg l.toArray) (.agg l'.toArray)).run Try.prog w = .ok c w) : PureOp Try.prog bx ow o ρ (.t (.v (.bool c))) := pure_run fun C m g w a he h => by
  have h1 := tr_aggv (show TR m _ (a.eval x) from h x (by simp [ho, Op.operands]) _ hx)
  have h2 := tr_aggv (show TR m _ (a.eval y) from h y (by simp [ho, Op.operands]) _ hy)
  refine ⟨.bool c, ?_, .v _⟩
  simp only [execOp, ho, h1, h2, Sem.run_bind]
  rw [run_eqGuard_agg w _ _ _ _ _ _ hg]
  simp only [Result.andThen_ok]
  rw [run_eql_struct, hc w]
  rfl
def idT (a b c : Int) : T := .agg [i64T a, u64T b, u64T c]
def dstT (a b c : Int) : T := .agg [u64T a, u32T b, i64T c]
theorem po_eqid {t2 : TypeId} {x y : Operand} {a b c d e f : Int} (ho : o.op = .binOp .eql 26 x y t2) (hx : ρ x = some (.t (idT a b c))) (hy : ρ y = some (.t (idT d e f))) : PureOp Try.prog bx ow o ρ (.t (.v (.bool (a == d && (b == e && c == f))))) :=
  po_eqst (l := [.int .i64 a, .int .u64 b, .int .u64 c]) (l' := [.int .i64 d, .int .u64 e, .int .u64 f]) ho hx hy (by kernel_rfl) (eqId a b c d e f)
theorem po_eqdst {t2 : TypeId} {x y : Operand} {a b c d e f : Int} (ho : o.op = .binOp .eql 39 x y t2) (hx : ρ x = some (.t (dstT a b c))) (hy : ρ y = some (.t (dstT d e f))) : PureOp Try.prog bx ow o ρ (.t (.v (.bool (a == d && (b == e && c == f))))) :=
  po_eqst (l := [.int .u64 a, .int .u32 b, .int .i64 c]) (l' := [.int .u64 d, .int .u32 e, .int .i64 f]) ho hx hy (by kernel_rfl) (eqDst a b c d e f)
end
end Go.Proofs.Ytabejnjnkpdjbaa.Sim
