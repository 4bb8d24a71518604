/- Merged by bundles.py: SimNw, SimNx. -/
import Derived.Test.YtgbcmjcaggnobaaT17
/- A net being made: a channel made, and stored. -/
namespace Go.Proofs.Ytgbcmjcaggnobaa.Sim
set_option linter.unusedVariables false
set_option linter.unusedSimpArgs false
open Go.RowKit Mem Go.Conc
section
variable {C : Ctx} {bx : List (Nat × List A)} {ow : List (Nat × Own)} {w : World} {m : Mm} {g : Gh}
/-- a resource turned: its blocks, new ones, pointers into it -/
def Gh.tR (g : Gh) (i : Nat) (sf' : Nat → Bool) (rp' : Nat → Value) : Gh := { g with sf := fun j => if j = i then sf' else g.sf j, rp := fun j => if j = i then rp' else g.rp j }
theorem AR0.tR {x : A} {v : Value} {i : Nat} {sf' : Nat → Bool} {rp' : Nat → Value} (h : AR0 m g x v) (hrp : ∀ k, (g.rp i k).oneCell' = true → rp' k = g.rp i k) : AR0 m (g.tR i sf' rp') x v := by
  cases x with
  | rp j k =>
    obtain ⟨h1, h2, h3, h4⟩ := h
    refine ⟨h1, h2, ?_, h4⟩
    show v = (if j = i then rp' else g.rp j) k
    by_cases hj : j = i
    · subst hj; rw [if_pos rfl, hrp k (by rw [← h3]; exact h4)]; exact h3
    · rw [if_neg hj]; exact h3
  | _ => exact h
theorem AR.tR {x : A} {v : Value} {i : Nat} {sf' : Nat → Bool} {rp' : Nat → Value} (h : AR m g x v) (hrp : ∀ k, (g.rp i k).oneCell' = true → rp' k = g.rp i k) : AR m (g.tR i sf' rp') x v := h.lift fun _ _ h => h.tR hrp
theorem EnvG.turnR (he : EnvG C bx ow w m g) {i p : Nat} {R R' : Rsc} (hc : chB i = true) (hp2 : Nat.ble 2000 i = false) (hi : get bx i = some [.rs R]) {w' : World} (hgw : w.grownBy w' (some p)) (hp : g.sf i p = true ∨ p = g.gb i ∨ w.heap.size ≤ p)
    {sf' : Nat → Bool} {rp' : Nat → Value} (hsf : ∀ k, sf' k = true → g.sf i k = true ∨ w.heap.size ≤ k) (hrp : ∀ k, (g.rp i k).oneCell' = true → rp' k = g.rp i k)
    (hmain : ∃ vs ty, w'.heap[g.gb i]? = some (obOf i vs ty) ∧ ∀ v, vs[0]? = some v → v.oneCell' = true) (hR : R'.R w' m (g.gb i) sf' rp') : EnvG C ((i, [.rs R']) :: bx) ow w' m (g.tR i sf' rp') := by
  obtain ⟨r1, r2, r3⟩ := he.rs
  obtain ⟨hR0, hS⟩ := r1 i R hc hi
  have hmm : ∀ o, m p o = none := fun o => by
    rcases hp with h | h | h
    · exact (hS p h).2.1 o
    · obtain ⟨_, _, _, _, _, _, h5⟩ := he.boxes i _ hi
      rw [h]; exact h5 o
    · exact alloc_new_cells he.sub h
  have hmine : C.mine p := by
    rcases hp with h | h | h
    · exact (hS p h).1
    · obtain ⟨_, _, _, _, _, h5, _⟩ := he.boxes i _ hi
      rw [h]; exact h5
    · exact .inl (Nat.le_trans he.lo.size h)
  have hnbx : ∀ j cj, get bx j = some cj → j ≠ i → g.gb j ≠ p := fun j cj hj hji e => by
    rcases hp with h | h | h
    · exact (hS p h).2.2.1 j cj hj e
    · exact hji (he.inj j i cj _ hj hi (e.trans h))
    · obtain ⟨_, _, h1, _⟩ := he.boxes j cj hj
      have := block_lt h1; omega
  have hnow : ∀ j o, get ow j = some o → (g.go j).ownBlock ≠ some p := fun j o hj e => by
    rcases hp with h | h | h
    · exact (hS p h).2.2.2 j o hj e
    · obtain ⟨_, _, _, _, h4⟩ := he.owns j o hj
      exact (h4 p e).2.1 i _ hi h.symm
    · obtain ⟨_, h1, _⟩ := he.owns j o hj
      have := (h1.lt p e).2; omega
  have hother : ∀ k, k < w.heap.size → k ≠ p → w'.heap[k]? = w.heap[k]? := fun k hk hne => hgw.block k hk (fun e => hne (by injection e))
  have hlb : ∀ j cj, get ((i, [A.rs R']) :: bx) j = some cj → ∃ c0, get bx j = some c0 := fun j cj hj => by
    rw [get_cons] at hj
    by_cases hji : i = j
    · subst hji; exact ⟨_, hi⟩
    · rw [if_neg hji] at hj; exact ⟨cj, hj⟩
  exact {
    lo := he.lo.grown hgw (fun k hk => by injection hk with hk; subst hk; exact hmine)
    gm := he.gm
    sub := fun b o v hv => by
      have hb : b ≠ p := fun e => by rw [e, hmm o] at hv; cases hv
      rw [World.cell?_of_block (a := ⟨b, o, none⟩) (hother b (he.sub.lt hv) hb)]; exact he.sub b o v hv
    ext := he.ext
    gt := he.gt
    lb := fun j => by
      rw [get_cons]
      show g.lb j = _
      rw [he.lb j]
      by_cases hji : i = j
      · subst hji; rw [if_pos rfl, hi]; rfl
      · rw [if_neg hji]
    lw := he.lw, ln := he.ln
    boxes := fun j cj hj => by
      rw [get_cons] at hj
      by_cases hji : i = j
      · subst hji
        rw [if_pos rfl] at hj; injection hj with hj; subst hj
        obtain ⟨vs2, ty2, _, h7, _, h9⟩ := he.boxes i _ hi
        obtain ⟨vs3, ty3, h10, h11⟩ := hmain
        refine ⟨vs3, ty3, h10, ⟨fun h => (by rw [hc] at h; cases h), fun _ h => (by rw [hc] at h; cases h), fun h => ?_⟩, fun k x v hk hv => ?_, h9⟩
        · unfold wnB at h; unfold chB at hc; simp [Nat.blt_eq] at h hc; omega
        cases k with
        | zero => injection hk with hk; subst hk; exact ⟨trivial, h11 v hv⟩
        | succ k => simp at hk
      · rw [if_neg hji] at hj
        obtain ⟨vs2, ty2, h6, h7, h8, h9⟩ := he.boxes j cj hj
        exact ⟨vs2, ty2, (hother _ (block_lt h6) (hnbx j cj hj fun e => hji e.symm)).trans h6, h7, fun k x v hk hv => ⟨(h8 k x v hk hv).1.tR hrp, (h8 k x v hk hv).2⟩, h9⟩
    inj := fun j k cj ck hj hk h => by
      obtain ⟨c1, hj'⟩ := hlb j cj hj
      obtain ⟨c2, hk'⟩ := hlb k ck hk
      exact he.inj j k c1 c2 hj' hk' h
    owns := fun j o hj => by
      obtain ⟨vs2, h6, h7, h8, h9⟩ := he.owns j o hj
      refine ⟨vs2, h6.kept hgw ?_, h7, h8, fun b hb => ⟨(h9 b hb).1, fun k ck hk => ?_, (h9 b hb).2.2⟩⟩
      · cases hb : (g.go j).ownBlock with
        | none => exact .inl rfl
        | some b => exact .inr fun e => hnow j o hj (hb.trans e)
      · obtain ⟨c2, hk'⟩ := hlb k ck hk
        exact (h9 b hb).2.1 k c2 hk'
    apart := he.apart
    pin := he.pin
    pinb := fun j cj hj hj2 => by
      obtain ⟨c1, hj'⟩ := hlb j cj hj
      exact he.pinb j c1 hj' hj2
    rs := by
      have hsp : ∀ j Rj, get ((i, [A.rs R']) :: bx) j = some [.rs Rj] → (j = i ∧ Rj = R') ∨ (j ≠ i ∧ get bx j = some [.rs Rj]) := fun j Rj hj => by
        rw [get_cons] at hj
        by_cases hji : i = j
        · rw [if_pos hji] at hj; injection hj with hj; injection hj with hj; injection hj with hj; exact .inl ⟨hji.symm, hj.symm⟩
        · rw [if_neg hji] at hj; exact .inr ⟨fun e => hji e.symm, hj⟩
      have gS : ∀ j, (g.tR i sf' rp').sf j = if j = i then sf' else g.sf j := fun _ => rfl
      have gP : ∀ j, (g.tR i sf' rp').rp j = if j = i then rp' else g.rp j := fun _ => rfl
      have gB : ∀ j, (g.tR i sf' rp').gb j = g.gb j := fun _ => rfl
      refine ⟨fun j Rj hcj hj => ?_, fun j k Rj Rk hcj hck hj hk hjk q hq => ?_, fun j cs hcj hj hj2 => ?_⟩
      · rcases hsp j Rj hj with ⟨rfl, rfl⟩ | ⟨hne, h⟩
        · rw [gS, gP, gB, if_pos rfl, if_pos rfl]
          refine ⟨hR, fun k hk => ?_⟩
          rcases hsf k hk with h1 | h1
          · obtain ⟨e1, e2, e3, e4⟩ := hS k h1
            exact ⟨e1, e2, fun q cs hq => by obtain ⟨c1, hq'⟩ := hlb q cs hq; exact e3 q c1 hq', e4⟩
          · refine ⟨.inl (Nat.le_trans he.lo.size h1), fun o => alloc_new_cells he.sub h1, fun q cs hq e => ?_, fun q o hq e => ?_⟩
            · obtain ⟨c1, hq'⟩ := hlb q cs hq
              obtain ⟨_, _, h2, _⟩ := he.boxes q c1 hq'
              have := block_lt h2
              have e : g.gb q = k := e
              omega
            · obtain ⟨_, h2, _⟩ := he.owns q o hq
              have := (h2.lt k e).2; omega
        · rw [gS, gP, gB, if_neg hne, if_neg hne]
          obtain ⟨q1, q2⟩ := r1 j Rj hcj h
          obtain ⟨vs2, ty2, h6, _⟩ := he.boxes j _ h
          refine ⟨Rj.loc (fun k hk => ?_) (fun _ _ _ h => h) q1, fun k hk => ?_⟩
          · rcases hk with hk | rfl
            · refine hother k (Rj.lt q1 hk) fun e => ?_
              subst e
              rcases hp with h1 | h1 | h1
              · have := r2 i j R Rj hc hcj hi h (fun e => hne e.symm) k h1
                rw [this] at hk; cases hk
              · exact (q2 k hk).2.2.1 i _ hi h1.symm
              · have := Rj.lt q1 hk; omega
            · exact hother _ (block_lt h6) (hnbx j _ h hne)
          · obtain ⟨e1, e2, e3, e4⟩ := q2 k hk
            exact ⟨e1, e2, fun q cs hq => by obtain ⟨c1, hq'⟩ := hlb q cs hq; exact e3 q c1 hq', e4⟩
      · rw [gS] at hq ⊢
        have hlt : ∀ a Ra, chB a = true → get bx a = some [.rs Ra] → g.sf a q = true → q < w.heap.size := fun a Ra ha hga hs => Ra.lt (r1 a Ra ha hga).1 hs
        rcases hsp j Rj hj with ⟨rfl, _⟩ | ⟨hne, h⟩
        · rw [if_pos rfl] at hq
          rcases hsp k Rk hk with ⟨rfl, _⟩ | ⟨hne2, h2⟩
          · exact absurd rfl hjk
          · rw [if_neg hne2]
            rcases hsf q hq with h3 | h3
            · exact r2 j k R Rk hcj hck hi h2 hjk q h3
            · cases hb : g.sf k q with
              | false => rfl
              | true => have := hlt k Rk hck h2 hb; omega
        · rw [if_neg hne] at hq
          rcases hsp k Rk hk with ⟨rfl, _⟩ | ⟨hne2, h2⟩
          · rw [if_pos rfl]
            cases hb : sf' q with
            | false => rfl
            | true =>
              rcases hsf q hb with h3 | h3
              · have := r2 k j R Rj hck hcj hi h (fun e => hjk e.symm) q h3
                rw [this] at hq; cases hq
              · have := hlt j Rj hcj h hq; omega
          · rw [if_neg hne2]; exact r2 j k Rj Rk hcj hck h h2 hjk q hq
      · rw [gP]
        by_cases hji : j = i
        · subst hji; rw [hp2] at hj2; cases hj2
        · rw [if_neg hji]
          obtain ⟨c1, hj'⟩ := hlb j cs hj
          exact r3 j c1 hcj hj' hj2 }
/-- a new resource -/
theorem EnvG.boxR (he : EnvG C bx ow w m g) {i : Nat} {R : Rsc} (hc : chB i = true) (hp : Nat.ble 2000 i = false) (hi : get bx i = none) {vs : Array Value} {ty : Tag} {rpv : Nat → Value} (h0 : ∀ v, vs[0]? = some v → v.oneCell' = true)
    (hR : R.R (w.alloc (obOf i vs ty)) m w.heap.size (fun _ => false) rpv) : EnvG C ((i, [.rs R]) :: bx) ow (w.alloc (obOf i vs ty)) m ((g.addB i w.heap.size).tR i (fun _ => false) rpv) ∧ ∀ x v, AR m g x v → AR m ((g.addB i w.heap.size).tR i (fun _ => false) rpv) x v := by
  have hlo : Lo w (w.alloc (obOf i vs ty)) := (Lo.refl w).alloc _
  have hlb : g.lb i = false := by rw [he.lb, hi]; rfl
  have hs := he.step hlo (Ext.refl m _) (he.sub.lo hlo)
  have hlt : ∀ j cs', get bx j = some cs' → g.gb j < w.heap.size := fun j cs' hj => by
    obtain ⟨vs', ty', h1, _⟩ := he.boxes j cs' hj
    exact block_lt h1
  have hni : ∀ j c, get bx j = some c → j ≠ i := fun j c hj e => by subst e; rw [hi] at hj; cases hj
  have gB : ∀ j, ((g.addB i w.heap.size).tR i (fun _ => false) rpv).gb j = if j = i then w.heap.size else g.gb j := fun _ => rfl
  have gS : ∀ j, ((g.addB i w.heap.size).tR i (fun _ => false) rpv).sf j = if j = i then (fun _ => false) else g.sf j := fun _ => rfl
  have gP : ∀ j, ((g.addB i w.heap.size).tR i (fun _ => false) rpv).rp j = if j = i then rpv else g.rp j := fun _ => rfl
  have hA0 : ∀ x v, AR0 m g x v → AR0 m ((g.addB i w.heap.size).tR i (fun _ => false) rpv) x v := fun x v h => by
    cases x with
    | rp j k =>
      obtain ⟨h1, h2, h3, h4⟩ := h
      have hji : j ≠ i := fun e => by subst e; rw [hlb] at h2; cases h2
      exact ⟨h1, by show (if j = i then true else g.lb j) = true; rw [if_neg hji]; exact h2, by rw [gP, if_neg hji]; exact h3, h4⟩
    | bp j off => exact AR0.addB h hlb
    | sb j n sz e => exact AR0.addB h hlb
    | _ => exact h
  have hA : ∀ x v, AR m g x v → AR m ((g.addB i w.heap.size).tR i (fun _ => false) rpv) x v := fun x v h => h.lift hA0
  refine ⟨{
    lo := hs.lo, gm := hs.gm, sub := hs.sub, ext := hs.ext, gt := hs.gt
    lb := fun j => by
      rw [get_cons]
      show (if j = i then true else g.lb j) = _
      by_cases hji : j = i
      · subst hji; simp
      · rw [if_neg hji, if_neg (fun e => hji e.symm)]; exact he.lb j
    lw := he.lw, ln := he.ln
    boxes := fun j cs' hj => by
      rw [get_cons] at hj
      rw [gB]
      by_cases hji : i = j
      · subst hji
        rw [if_pos rfl] at hj; injection hj with hj; subst hj
        rw [if_pos rfl]
        refine ⟨vs, ty, heap_alloc_new w _, ⟨fun h => (by rw [hc] at h; cases h), fun _ h => (by rw [hc] at h; cases h), fun h => ?_⟩, fun k x v h1 h2 => ?_, .inl he.lo.size, fun o => alloc_new_cells he.sub (Nat.le_refl _)⟩
        · unfold wnB at h; unfold chB at hc; simp [Nat.blt_eq] at h hc; omega
        cases k with
        | zero => injection h1 with h1; subst h1; exact ⟨trivial, h0 v h2⟩
        | succ k => simp at h1
      · rw [if_neg hji] at hj
        rw [if_neg (fun e => hji e.symm)]
        obtain ⟨vs', ty', h1, h2, h3, h4, h5⟩ := hs.boxes j cs' hj
        exact ⟨vs', ty', h1, h2, fun k x v h6 h7 => ⟨hA x v (h3 k x v h6 h7).1, (h3 k x v h6 h7).2⟩, h4, h5⟩
    inj := fun j k cj ck hj hk h => by
      rw [get_cons] at hj hk
      rw [gB, gB] at h
      by_cases hji : i = j <;> by_cases hki : i = k
      · omega
      · rw [if_neg hki] at hk
        rw [if_pos hji.symm, if_neg (fun e => hki e.symm)] at h
        have := hlt k ck hk; omega
      · rw [if_neg hji] at hj
        rw [if_neg (fun e => hji e.symm), if_pos hki.symm] at h
        have := hlt j cj hj; omega
      · rw [if_neg hji] at hj; rw [if_neg hki] at hk
        rw [if_neg (fun e => hji e.symm), if_neg (fun e => hki e.symm)] at h
        exact he.inj j k cj ck hj hk h
    owns := fun j o hj => by
      obtain ⟨vs', h1, h2, h3, h4⟩ := hs.owns j o hj
      refine ⟨vs', h1, h2, h3, fun b hb => ⟨(h4 b hb).1, fun k ck hk => ?_, (h4 b hb).2.2⟩⟩
      rw [get_cons] at hk
      rw [gB]
      by_cases hki : i = k
      · rw [if_pos hki.symm]
        obtain ⟨vs2, h5, _⟩ := he.owns j o hj
        have := (h5.lt b hb).2; omega
      · rw [if_neg hki] at hk
        rw [if_neg (fun e => hki e.symm)]
        exact (h4 b hb).2.1 k ck hk
    apart := hs.apart
    pin := hs.pin
    pinb := fun j cs' hj hj2 => by
      rw [get_cons] at hj
      rw [gB]
      by_cases hji : i = j
      · subst hji; rw [hp] at hj2; cases hj2
      · rw [if_neg hji] at hj; rw [if_neg (fun e => hji e.symm)]; exact hs.pinb j cs' hj hj2
    rs := by
      obtain ⟨r1, r2, r3⟩ := hs.rs
      have hsp : ∀ j Rj, get ((i, [A.rs R]) :: bx) j = some [.rs Rj] → (j = i ∧ Rj = R) ∨ (j ≠ i ∧ get bx j = some [.rs Rj]) := fun j Rj hj => by
        rw [get_cons] at hj
        by_cases hji : i = j
        · rw [if_pos hji] at hj; injection hj with hj; injection hj with hj; injection hj with hj; exact .inl ⟨hji.symm, hj.symm⟩
        · rw [if_neg hji] at hj; exact .inr ⟨fun e => hji e.symm, hj⟩
      refine ⟨fun j Rj hcj hj => ?_, fun j k Rj Rk hcj hck hj hk hjk q hq => ?_, fun j cs hcj hj hj2 => ?_⟩
      · rcases hsp j Rj hj with ⟨rfl, rfl⟩ | ⟨hne, h⟩
        · rw [gB, gS, gP, if_pos rfl, if_pos rfl, if_pos rfl]
          exact ⟨hR, fun k hk => by cases hk⟩
        · rw [gB, gS, gP, if_neg hne, if_neg hne, if_neg hne]
          obtain ⟨q1, q2⟩ := r1 j Rj hcj h
          refine ⟨q1, fun k hk => ?_⟩
          obtain ⟨e1, e2, e3, e4⟩ := q2 k hk
          refine ⟨e1, e2, fun q cs hq => ?_, e4⟩
          rw [get_cons] at hq
          rw [gB]
          by_cases hqi : i = q
          · rw [if_pos hqi.symm]
            have := Rj.lt (he.rs.1 j Rj hcj h).1 hk; omega
          · rw [if_neg hqi] at hq; rw [if_neg (fun e => hqi e.symm)]; exact e3 q cs hq
      · rw [gS] at hq ⊢
        rcases hsp j Rj hj with ⟨rfl, _⟩ | ⟨hne, h⟩
        · rw [if_pos rfl] at hq; cases hq
        · rw [if_neg hne] at hq
          rcases hsp k Rk hk with ⟨rfl, _⟩ | ⟨hne2, h2⟩
          · rw [if_pos rfl]
          · rw [if_neg hne2]; exact r2 j k Rj Rk hcj hck h h2 hjk q hq
      · rw [gP]
        rw [get_cons] at hj
        by_cases hji : i = j
        · subst hji; rw [hp] at hj2; cases hj2
        · rw [if_neg hji] at hj
          rw [if_neg (fun e => hji e.symm)]; exact r3 j cs hcj hj hj2 }, hA⟩
end
/-- a net with a channel made, not stored yet -/
def NetPAt (on : Nat → Bool) (d : PNet) (q : Nat) (w : World) (m : Mm) (b : Nat) (S : Nat → Bool) (rp : Nat → Value) : Prop :=
  d.n ≤ 9 ∧ (∃ (cs : Array Value) (ty : TypeId), w.heap[b]? = some (.cells cs ty (0, 0)) ∧ cs.size = 101 ∧ cs[0]? = some (.int .i64 (d.n : Int)) ∧ ∀ k, k < 100 → cs[1 + k]? = some (bif on k then rp k else .chan none)) ∧
  (∀ k, k < 100 → on k = true → ∃ p, rp k = .chan (some p) ∧ S p = true ∧ ChAt w m p (d.row k)) ∧
  (∀ k k', k < 100 → k' < 100 → on k = true → on k' = true → rp k = rp k' → k = k') ∧
  (∀ k, k < 100 → on k = false → rp k = undef ∧ (k ≠ q → rp (100 + k) = undef)) ∧ (∀ p, S p = true → p < w.heap.size) ∧
  on q = false ∧ ∃ p, rp (100 + q) = .chan (some p) ∧ S p = true ∧ ChAt w m p [] ∧ ∀ k, k < 100 → on k = true → rp k ≠ rp (100 + q)
def NetP (on : Nat → Bool) (d : PNet) (q : Nat) : Rsc where
  R := NetPAt on d q
  loc := fun {w w' m m' b S rp} hw hm ⟨h0, ⟨cs, ty, h1, h2⟩, h3, h4, h5, h6, h7, p0, h8, h9, h10, h11⟩ => ⟨h0, ⟨cs, ty, by rw [hw b (.inr rfl)]; exact h1, h2⟩, fun k hk hon => by
    obtain ⟨p, e1, e2, e3⟩ := h3 k hk hon
    exact ⟨p, e1, e2, e3.loc (hw p (.inl e2)) hm⟩, h4, h5, fun p hp => by
    have h7 := hw p (.inl hp)
    rw [Array.getElem?_eq_getElem (h6 p hp)] at h7
    exact (Array.getElem?_eq_some_iff.1 h7).1, h7, p0, h8, h9, h10.loc (hw p0 (.inl h9)) hm, h11⟩
  lt := fun ⟨_, _, _, _, _, h6, _⟩ hk => h6 _ hk
def onS (on : Nat → Bool) (q : Nat) : Nat → Bool := fun k => bif Nat.beq k q then true else on k
theorem ob_main {i : Nat} (hc : chB i = true) (hit : itB i = false) (cs : Array Value) (ty : TypeId) : obOf i cs ⟨ty, 0, 0, 0⟩ = .cells cs ty (0, 0) := by rw [ob_chan hc hit]; rfl
theorem ch_it {i : Nat} (hc : chB i = true) : itB i = false := by
  rw [Bool.eq_false_iff]; intro h; rw [it_ch h] at hc; cases hc
section
variable {P : Program} {N : Nat} {Q : Exit → St → Prop} {ops : Array Oper} {rest : List Oper} {o : Oper} {tm : List (Nat × A)} {bx : List (Nat × List A)} {ow : List (Nat × Own)} {ρ : Operand → Option A} {on : Nat → Bool} {d : PNet}
/-- a net's box, without links -/
theorem sops_box_net {ty : TypeId} {x : Operand} {n t : Nat} (i : Nat) {cs : List T} (hg : GuardIs ops tm o true) (ho : o.op = .box ty x) (hd : o.dst = some t) (hN : Nat.blt t N = true) (hx : evA tm x = some (.t (.agg cs))) (hcs : cs = .v (.int .i64 (n : Int)) :: List.replicate 100 (.v (.chan none))) (hn : n ≤ 9) (hi : get bx i = none)
    (h : SOps P N ops Q rest ⟨(t, .bp i 0) :: tm, (i, [.rs (NetR (fun _ => false) ⟨n, fun _ => []⟩)]) :: bx, ow⟩) (hc : chB i = true := by rfl) (hp : Nat.ble 2000 i = false := by rfl) : SOps P N ops Q (o :: rest) ⟨tm, bx, ow⟩ := by
  refine sops_run hg (fun C a w m g hr => ?_) h
  obtain ⟨vs, hv, hs, h1, hr2⟩ : ∃ vs : Array Value, a.eval x = .agg vs ∧ vs.size = 101 ∧ (∀ v ∈ vs.toList, v.oneCell' = true) ∧ ∀ (j : Nat) t v, cs[j]? = some t → vs[j]? = some v → TR m t v := by
    have h0 : TR m (.agg cs) (a.eval x) := hr.ev hx
    generalize a.eval x = v at h0
    cases h0 with
    | agg cs vs e1 e2 e3 => exact ⟨vs, rfl, by rw [e1, hcs]; simp, e2, e3⟩
  have hv0 : vs[0]? = some (.int .i64 (n : Int)) := by
    rw [Array.getElem?_eq_getElem (by omega)]
    exact congrArg some (tr_v (hr2 0 _ vs[0] (by rw [hcs]; rfl) (Array.getElem?_eq_getElem (by omega))))
  have hvk : ∀ k, k < 100 → vs[1 + k]? = some (.chan none) := fun k hk => by
    rw [Array.getElem?_eq_getElem (by omega)]
    refine congrArg some (tr_v (hr2 (1 + k) _ vs[1 + k] ?_ (Array.getElem?_eq_getElem (by omega))))
    rw [hcs, Nat.add_comm, List.getElem?_cons_succ, List.getElem?_replicate, if_pos hk]
  obtain ⟨e1, e2⟩ := hr.env.boxR (R := NetR (fun _ => false) ⟨n, fun _ => []⟩) hc hp hi (vs := vs) (ty := ⟨ty, 0, 0, 0⟩) (rpv := fun _ => undef) (fun v hv => h1 v (by
    have := Array.mem_of_getElem? hv
    simpa using this)) (by
    rw [ob_main hc (ch_it hc)]
    refine ⟨hn, ⟨vs, ty, heap_alloc_new w _, hs, hv0, fun k hk => ?_⟩, fun k _ h => (by cases h), fun k _ _ _ h => (by cases h), fun k _ _ => ⟨rfl, rfl⟩, fun p h => (by cases h)⟩
    rw [hvk k hk]; rfl)
  rw [ob_main hc (ch_it hc)] at e1
  refine ⟨.pointer (some ⟨w.heap.size, 0, none⟩), w.alloc (.cells vs ty), ?_, m, (g.addB i w.heap.size).tR i (fun _ => false) (fun _ => undef), ?_⟩
  · have : (execOp a.eval o).run P w = .ok (.value (.pointer (some ⟨w.heap.size, 0, none⟩))) (w.alloc (.cells vs ty)) := by simp [execOp, ho, hv, Instr.box, newVar, newRow, Value.cells]
    exact this
  · rw [hd]
    exact hr.put e1 e2 (Nat.lt_of_succ_le (Nat.le_of_ble_eq_true hN)) ⟨by simp [Gh.addB, Gh.tR], by simp [Gh.addB, Gh.tR]⟩
def chMk (P : Program) (t : TypeId) : Bool := match P.underlying t with
  | some (.chan _ e) => (match P.info? e with
    | some i => Nat.ble (i.bytes * 32) 281474976710544
    | none => false)
  | _ => false
/-- a channel made -/
theorem e_mkchan {t : TypeId} {i : Nat} (q : Nat) (ho : o.op = .makeChan t (.const (.int .i64 32))) (hT : chMk P t = true) (hb : get bx i = some [.rs (NetR on d)]) (hq : q < 100) (hoq : on q = false) (hc : chB i = true := by rfl) (hp2 : Nat.ble 2000 i = false := by rfl) :
    EStep P bx ow o ρ (.rp i (100 + q)) ((i, [.rs (NetP on d q)]) :: bx) ow := e_run fun C m g w a he hop => by
  obtain ⟨dir, e, inf, hu, hinf, hby⟩ : ∃ dir e inf, P.underlying t = some (.chan dir e) ∧ P.info? e = some inf ∧ inf.bytes * 32 ≤ 281474976710544 := by
    unfold chMk at hT
    split at hT
    · rename_i dd ee hh
      cases hi : P.info? ee with
      | none => rw [hi] at hT; cases hT
      | some inf => rw [hi] at hT; exact ⟨dd, ee, inf, hh, hi, Nat.le_of_ble_eq_true hT⟩
    · cases hT
  have hrun := run_makeChan (P := P) (w := w) hu hinf .i64 32 (by omega) (by omega)
  obtain ⟨h0, ⟨cs, ty, h1, h2, h2a, h2b⟩, h3, h4, h5, h6⟩ := he.net hc hb
  have hlo : Lo w (w.alloc (.chan 32 #[] false 0 0 false)) := (Lo.refl w).alloc _
  have hlive : g.lb i = true := by rw [he.lb, hb]; rfl
  obtain ⟨hu1, hu2⟩ := h5 q hq hoq
  have hold : ∀ k, k < w.heap.size → (w.alloc (.chan 32 #[] false 0 0 false)).heap[k]? = w.heap[k]? := fun k hk => Below.block hlo k hk
  let rp' : Nat → Value := fun j => if j = 100 + q then .chan (some w.heap.size) else g.rp i j
  have hrpo : ∀ k, k < 100 → rp' k = g.rp i k := fun k hk => if_neg (by omega)
  have hrpq : rp' (100 + q) = .chan (some w.heap.size) := if_pos rfl
  have henv := he.turnR (i := i) (p := w.heap.size) (R' := NetP on d q) hc hp2 hb (hlo.grownBy _) (.inr (.inr (Nat.le_refl _))) (sf' := fun k => g.sf i k || Nat.beq k w.heap.size) (rp' := rp') (fun k hk => by
    rw [Bool.or_eq_true] at hk
    rcases hk with hk | hk
    · exact .inl hk
    · exact .inr (Nat.le_of_eq (Nat.eq_of_beq_eq_true hk).symm)) (fun k hk => by
    by_cases hkq : k = 100 + q
    · subst hkq; rw [hu2] at hk; cases hk
    · exact if_neg hkq) ⟨cs, ⟨ty, 0, 0, 0⟩, by rw [ob_main hc (ch_it hc), hold _ (block_lt h1)]; exact h1, fun v hv => by rw [h2a] at hv; injection hv with hv; subst hv; rfl⟩ (by
    refine ⟨h0, ⟨cs, ty, by rw [hold _ (block_lt h1)]; exact h1, h2, h2a, fun k hk => by rw [hrpo k hk]; exact h2b k hk⟩, fun k hk hon => ?_, fun k k' hk hk' hon hon' hr => ?_, fun k hk hon => ?_, fun p hp => ?_, hoq, w.heap.size, hrpq, ?_, ⟨#[], 0, 0, heap_alloc_new w _, rfl, fun j x v hx => by simp at hx⟩, fun k hk hon e => ?_⟩
    · obtain ⟨p, e1, e2, e3⟩ := h3 k hk hon
      exact ⟨p, by rw [hrpo k hk]; exact e1, by show (g.sf i p || _) = true; rw [e2]; rfl, e3.loc (hold p (h6 p e2)) fun _ _ _ h => h⟩
    · rw [hrpo k hk, hrpo k' hk'] at hr; exact h4 k k' hk hk' hon hon' hr
    · obtain ⟨e1, e2⟩ := h5 k hk hon
      exact ⟨by rw [hrpo k hk]; exact e1, fun hne => by show (if 100 + k = 100 + q then _ else _) = _; rw [if_neg (by omega)]; exact e2⟩
    · rw [Bool.or_eq_true] at hp
      rcases hp with hp | hp
      · exact Nat.lt_of_lt_of_le (h6 p hp) hlo.size
      · rw [Nat.eq_of_beq_eq_true hp]; simp
    · show (g.sf i w.heap.size || Nat.beq w.heap.size w.heap.size) = true
      rw [Nat.beq_refl, Bool.or_true]
    · rw [hrpo k hk, hrpq] at e
      obtain ⟨p, e1, e2, _⟩ := h3 k hk hon
      rw [e1] at e; injection e with e; injection e with e
      have := h6 p e2; omega)
  refine ⟨.chan (some w.heap.size), _, m, _, ?_, henv, ⟨hc, hlive, ?_, rfl⟩, fun x u h => h.tR fun k hk => ?_⟩
  · simp only [execOp, ho, Act.eval, Sem.run_bind]
    rw [show (((32 : Nat) : Int)) = 32 from rfl] at hrun
    rw [hrun]; rfl
  · show _ = (if i = i then rp' else g.rp i) (100 + q)
    rw [if_pos rfl, hrpq]
  · by_cases hkq : k = 100 + q
    · subst hkq; rw [hu2] at hk; cases hk
    · exact if_neg hkq
/-- it is stored -/
theorem e_setlink {ty : TypeId} {x z : Operand} {i off u v n : Nat} (ho : o.op = .store ty x z) (hd : o.dst = none) (hx : ρ x = some (.bp i off)) (hoff : off = 0 + 1 + u * 10 + v * 1) (hz : ρ z = some (.rp i (100 + (u * 10 + v)))) (hb : get bx i = some [.rs (NetP on d (u * 10 + v))]) (hT : tyI P ty = some (false, n)) (hn1 : n = 1) (hq : u * 10 + v < 100) (hrow : d.row (u * 10 + v) = []) (hc : chB i = true := by rfl) (hp2 : Nat.ble 2000 i = false := by rfl) :
    EStep P bx ow o ρ .any ((i, [.rs (NetR (onS on (u * 10 + v)) d)]) :: bx) ow := .mk fun C m g w a Q he hop => by
  obtain ⟨q, hq0⟩ : ∃ q, q = u * 10 + v := ⟨_, rfl⟩
  rw [← hq0] at hz hb hq hrow ⊢
  obtain rfl : off = 1 + q := by omega
  subst hn1
  obtain ⟨_, h1⟩ := hop x (by simp [ho, Op.operands]) _ hx
  obtain ⟨_, hlive, hzv, _⟩ := hop z (by simp [ho, Op.operands]) _ hz
  obtain ⟨h0, ⟨cs, ty', hh, h2, h2a, h2b⟩, h3, h4, h5, h6, h7, p0, h8, h9, h10, h11⟩ := (he.rs.1 i _ hc hb).1
  have hzc : a.eval z = .chan (some p0) := hzv.trans h8
  have hlt : 1 + q < cs.size := by omega
  have hst := run_storeCells_at P (g.gb i) (1 + q) ty' [Value.chan (some p0)] 0 cs w hh (by simp; omega) (by simp [Value.oneCell'])
  rw [Nat.add_zero] at hst
  obtain ⟨d', i', hu, hi', _, hsz⟩ := tyI_spec hT
  have hrun : (execOp a.eval o).run P w = .ok .skip (w.setRow (g.gb i) (cs.toList.take (1 + q) ++ [Value.chan (some p0)] ++ cs.toList.drop (1 + q + 1)).toArray) := by
    have hsv : (storeVar ty ⟨g.gb i, 1 + q, none⟩ (a.eval z)).run P w = .ok () (w.setRow (g.gb i) (cs.toList.take (1 + q) ++ [Value.chan (some p0)] ++ cs.toList.drop (1 + q + 1)).toArray) := by
      rw [hzc]
      simp [storeVar, sizeOf, typeInfo, hi', hsz, Value.cells]
      simpa using hst
    simp only [execOp, ho, h1, Instr.storeAt, Instr.sureAddr, Sem.run_bind, Sem.run_pure, Result.andThen_ok, hsv]
  have hget : ∀ j, (cs.toList.take (1 + q) ++ [Value.chan (some p0)] ++ cs.toList.drop (1 + q + 1)).toArray[j]? = if j = 1 + q then some (.chan (some p0)) else cs[j]? := fun j => by
    have hl : (cs.toList.take (1 + q)).length = 1 + q := by rw [List.length_take]; simp; omega
    simp only [List.getElem?_toArray]
    rcases Nat.lt_trichotomy j (1 + q) with h | h | h
    · rw [if_neg (by omega), List.append_assoc, List.getElem?_append_left (by omega), List.getElem?_take_of_lt h]; simp
    · subst h
      rw [if_pos rfl, List.append_assoc, List.getElem?_append_right (by omega), hl, Nat.sub_self]; rfl
    · rw [if_neg (by omega), List.getElem?_append_right (by simp; omega), List.getElem?_drop]
      simp only [List.length_append, hl, List.length_singleton]
      rw [show 1 + q + 1 + (j - (1 + q + 1)) = j by omega]; simp
  obtain ⟨cur', hcur⟩ : ∃ c, c = (cs.toList.take (1 + q) ++ [Value.chan (some p0)] ++ cs.toList.drop (1 + q + 1)).toArray := ⟨_, rfl⟩
  have hcsz : cur'.size = 101 := by rw [hcur]; simp; omega
  rw [← hcur] at hrun
  rw [← hcur] at hget
  let rp' : Nat → Value := fun j => if j = q then .chan (some p0) else g.rp i j
  have hrpq : rp' q = .chan (some p0) := if_pos rfl
  have hrpo : ∀ k, k ≠ q → rp' k = g.rp i k := fun k hk => if_neg hk
  have hpb : p0 ≠ g.gb i := fun e => by
    obtain ⟨buf, s, r, hb', _⟩ := h10
    rw [e, hh] at hb'; injection hb' with hb'; cases hb'
  have honS : ∀ k, k ≠ q → onS on q k = on k := fun k hk => by unfold onS; cases hb : Nat.beq k q with | false => rfl | true => exact absurd (Nat.eq_of_beq_eq_true hb) hk
  have honq : onS on q q = true := by unfold onS; rw [Nat.beq_refl]; rfl
  have hu1 := (h5 q hq h7).1
  have hkeep : ∀ k, (g.rp i k).oneCell' = true → rp' k = g.rp i k := fun k hk => by
    by_cases hkq : k = q
    · subst hkq; rw [hu1] at hk; cases hk
    · exact hrpo k hkq
  have henv := he.turnR (i := i) (p := g.gb i) (R' := NetR (onS on q) d) hc hp2 hb (EnvG.setB.grown_setRow' w (g.gb i) cur') (.inr (.inl rfl)) (sf' := g.sf i) (rp' := rp') (fun k hk => .inl hk) hkeep ⟨cur', ⟨ty', 0, 0, 0⟩, by rw [ob_main hc (ch_it hc)]; exact setRow_heap w (g.gb i) cs cur' ty' (0, 0) hh, fun v hv => by
    rw [hget, if_neg (by omega), h2a] at hv; injection hv with hv; subst hv; rfl⟩ (by
    have hold : ∀ k, k ≠ g.gb i → (w.setRow (g.gb i) cur').heap[k]? = w.heap[k]? := fun k hk => setRow_other w _ k _ hk
    have hS : ∀ p, g.sf i p = true → p ≠ g.gb i := fun p hp => ((he.rs.1 i _ hc hb).2 p hp).2.2.1 i _ hb |>.symm
    refine ⟨h0, ⟨cur', ty', setRow_heap w (g.gb i) cs cur' ty' (0, 0) hh, hcsz, by rw [hget, if_neg (by omega)]; exact h2a, fun k hk => ?_⟩, fun k hk hon => ?_, fun k k' hk hk' hon hon' hr => ?_, fun k hk hon => ?_, fun p hp => by have := h6 p hp; simpa using this⟩
    · rw [hget]
      by_cases hkq : k = q
      · subst hkq; rw [if_pos rfl, honq, hrpq]; rfl
      · rw [if_neg (by omega), honS k hkq, hrpo k hkq]; exact h2b k hk
    · by_cases hkq : k = q
      · subst hkq
        exact ⟨p0, hrpq, h9, by rw [hrow]; exact h10.loc (hold p0 hpb) fun _ _ _ h => h⟩
      · rw [honS k hkq] at hon
        obtain ⟨p, e1, e2, e3⟩ := h3 k hk hon
        exact ⟨p, by rw [hrpo k hkq]; exact e1, e2, e3.loc (hold p (hS p e2)) fun _ _ _ h => h⟩
    · by_cases hkq : k = q
      · by_cases hkq' : k' = q
        · omega
        · subst hkq
          rw [honS k' hkq'] at hon'
          rw [hrpq, hrpo k' hkq'] at hr
          exact absurd (hr.symm.trans h8.symm) (h11 k' hk' hon')
      · rw [honS k hkq] at hon
        by_cases hkq' : k' = q
        · subst hkq'
          rw [hrpq, hrpo k hkq] at hr
          exact absurd (hr.trans h8.symm) (h11 k hk hon)
        · rw [honS k' hkq'] at hon'
          rw [hrpo k hkq, hrpo k' hkq'] at hr
          exact h4 k k' hk hk' hon hon' hr
    · by_cases hkq : k = q
      · subst hkq; rw [honq] at hon; cases hon
      · rw [honS k hkq] at hon
        obtain ⟨e1, e2⟩ := h5 k hk hon
        exact ⟨by rw [hrpo k hkq]; exact e1, by rw [hrpo _ (by omega)]; exact e2 hkq⟩)
  unfold Oper.wp
  rw [hrun, Oper.upon_skip]
  exact ⟨undef, m, _, (by rw [hd]; try rfl), henv, trivial, fun x u h => h.tR hkeep⟩
end
end Go.Proofs.Ytgbcmjcaggnobaa.Sim

/- A net made: New. -/
namespace Go.Proofs.Ytgbcmjcaggnobaa.Sim
set_option linter.unusedVariables false
set_option linter.unusedSimpArgs false
open Go.RowKit Mem
theorem str68 : strI Try.prog 68 = some ([(0, 1), (1, 100)], .int .i64 0 :: List.replicate 100 (.chan none)) := by kernel_rfl
theorem mkc64 : chMk Try.prog 64 = true := by kernel_rfl
def madeOn (n a b : Nat) (k : Nat) : Bool := decide (1 ≤ k / 10 ∧ 1 ≤ k % 10 ∧ k % 10 ≤ n ∧ (k / 10 ≤ a ∨ (k / 10 = a + 1 ∧ k % 10 ≤ b)))
theorem made_0 (n : Nat) : (fun _ => false) = madeOn n 0 0 := by
  funext k; unfold madeOn; symm; rw [decide_eq_false_iff_not]; omega
theorem made_s (n a b : Nat) (hb : b < n) (hn : n ≤ 9) : onS (madeOn n a b) ((a + 1) * 10 + (b + 1)) = madeOn n a (b + 1) := by
  funext k
  unfold onS
  cases h : Nat.beq k ((a + 1) * 10 + (b + 1)) with
  | true =>
    have := Nat.eq_of_beq_eq_true h
    unfold madeOn
    show true = _
    symm; rw [decide_eq_true_eq]; omega
  | false =>
    have hne : k ≠ (a + 1) * 10 + (b + 1) := Nat.ne_of_beq_eq_false h
    show madeOn n a b k = _
    unfold madeOn
    rw [decide_eq_decide]; omega
theorem made_r (n a : Nat) : madeOn n a n = madeOn n (a + 1) 0 := by
  funext k; unfold madeOn; rw [decide_eq_decide]; omega
theorem made_e (n : Nat) : madeOn n n 0 = lnk n := by
  funext k; unfold madeOn lnk; rw [decide_eq_decide]; omega
theorem made_no (n a b : Nat) : madeOn n a b ((a + 1) * 10 + (b + 1)) = false ∨ 9 ≤ b := by
  unfold madeOn; rw [decide_eq_false_iff_not]; omega
def netE (n : Nat) : PNet := ⟨n, fun _ => []⟩
set_option maxRecDepth 100000 in
theorem new_bad (n : Int) (h : n < 1 ∨ 9 < n) : LCalls Try.prog 21 [.t (.v (.int .i64 n))] [] [] (.tu [.t (.v (.pointer none)), .t (.v (.int .i64 1))]) [] [] := by
  refine lcalls_of Try.func21 rfl rfl Try.ntmps21 rfl ?_
  by_cases h1 : n < 1
  · repeat' (first | (refine rg 0 ?_; refine oAs ?_; refine oAs ?_; refine oN ?_) | (refine rg 1 ?_; refine oMv ?_; refine oCm ?_; refine oMv ?_; (first | refine oMv ?_ | refine oK ?_) <;> (first | refine oCm ?_ | refine oK ?_) <;> refine oPt ?_ <;> refine oN ?_) | (refine rg 2 ?_; refine oAs ?_; refine oAs ?_; refine oN ?_) | refine gc ?_ | refine ct ?_ | refine cf ?_ | refine swp_cond rfl (fun hc => ?_) (fun hc => ?_) | refine retl (by exact .inr rfl) rfl (.tmp rfl rfl (.tmp rfl rfl .nil)) ?_ rfl .nil .nil)
    rfl
  · have h2 : 9 < n := by omega
    repeat' (first | (refine rg 0 ?_; refine oAs ?_; refine oAs ?_; refine oN ?_) | (refine rg 1 ?_; refine oMv ?_; refine oCm ?_; refine oMv ?_; refine oMv ?_ <;> refine oCm ?_ <;> (first | refine oPt ?_ | refine oPf ?_) <;> refine oN ?_) | (refine rg 2 ?_; refine oAs ?_; refine oAs ?_; refine oN ?_) | refine gc ?_ | refine ct ?_ | refine cf ?_ | refine swp_cond rfl (fun hc => ?_) (fun hc => ?_) | refine retl (by exact .inr rfl) rfl (.tmp rfl rfl (.tmp rfl rfl .nil)) ?_ rfl .nil .nil)
    rfl
def SN1 (n : Nat) (a : Nat) : St := ⟨[(0, .t (.v (.int .i64 (n : Int)))), (4, .bp 1100 0), (16, .t (.v (.int .i64 (n : Int)))), (17, .t (.v (.int .i64 (a : Int))))], [(1100, [.rs (NetR (madeOn n a 0) (netE n))])], []⟩
def SN2 (n a : Nat) (b : Nat) : St := ⟨[(0, .t (.v (.int .i64 (n : Int)))), (4, .bp 1100 0), (5, .t (.v (.int .i64 (a : Int)))), (16, .t (.v (.int .i64 (n : Int)))), (17, .t (.v (.int .i64 (a : Int)))), (20, .t (.v (.int .i64 (n : Int)))), (21, .t (.v (.int .i64 (b : Int))))], [(1100, [.rs (NetR (madeOn n a b) (netE n))])], []⟩
set_option maxRecDepth 100000 in
set_option maxHeartbeats 2000000 in
theorem new_ok (n : Nat) (h1 : 1 ≤ n) (h2 : n ≤ 9) : LCalls Try.prog 21 [.t (.v (.int .i64 (n : Int)))] [] [] (.tu [.bp 1100 0, .t (.v (.int .i64 0))]) [(1100, [.rs (NetR (lnk n) (netE n))])] [] := by
  have q1 : ¬ ((n : Int) < 1) := by omega
  have q2 : ¬ ((9 : Int) < n) := by omega
  refine lcalls_of Try.func21 rfl rfl Try.ntmps21 rfl ?_
  repeat' (first | (refine rg 0 ?_; refine oAs ?_; refine oAs ?_; refine oN ?_) | (refine rg 1 ?_; refine oMv ?_; refine oCm ?_; refine oMv ?_; refine oMv ?_ <;> refine oCm ?_ <;> (first | refine oPt ?_ | refine oPf ?_) <;> refine oN ?_) | (refine rg 3 ?_; refine oMv ?_; refine sp (po_buildS str68 rfl (pc .nil) rfl) ?_; refine sops_box_net 1100 (.free rfl rfl) rfl rfl rfl rfl rfl h2 rfl ?_; refine oAs ?_; refine oN ?_) | (refine rg 4 ?_; refine oMv ?_; refine oMv ?_; refine oN ?_) | refine gc ?_ | refine ct ?_ | refine cf ?_ | refine swp_cond rfl (fun hc => ?_) (fun hc => ?_) | refine rq rfl (rt (rt .nil)) ?_)
  refine swp_for (SN1 n) (fun _ => True) n ?_ trivial ?_
  · exact (weak_sub (.cons rfl (by first | rfl | ((rw [made_0 n]; rfl))) rfl (.cons rfl (by first | rfl | ((rw [made_0 n]; rfl))) rfl (.cons rfl (by first | rfl | ((rw [made_0 n]; rfl))) rfl (.cons rfl (by first | rfl | ((rw [made_0 n]; rfl))) rfl .nil)))) (.cons rfl (by first | rfl | ((rw [made_0 n]; rfl))) rfl .nil) .nil)
  intro a ha _
  unfold SN1
  by_cases hlt : a < n
  · have hlt' : (a : Int) < n := by omega
    repeat' (first | (refine rg 5 ?_; refine oCm ?_; refine oN ?_) | (refine rg 6 ?_; refine oMv ?_; refine oAs ?_; refine oN ?_) | (refine rg 7 ?_; refine oMv ?_; refine oMv ?_; refine oN ?_) | refine gc ?_ | refine ct ?_ | refine cf ?_ | refine swp_cond rfl (fun hc => ?_) (fun hc => ?_) | refine rq rfl (rt (rt .nil)) ?_)
    refine swp_for (SN2 n a) (fun _ => True) n ?_ trivial ?_
    · exact (weak_sub (.cons rfl rfl rfl (.cons rfl rfl rfl (.cons rfl rfl rfl (.cons rfl rfl rfl (.cons rfl rfl rfl (.cons rfl rfl rfl (.cons rfl rfl rfl .nil))))))) (.cons rfl rfl rfl .nil) .nil)
    intro b hb _
    unfold SN2
    by_cases hlb : b < n
    · have hk : (a + 1) * 10 + (b + 1) < 100 := by omega
      have hno : madeOn n a b ((a + 1) * 10 + (b + 1)) = false := (made_no n a b).resolve_right (by omega)
      repeat' (first | (refine rg 8 ?_; refine oCm ?_; refine oN ?_) | (refine rg 9 ?_; refine oMv ?_; refine oAs ?_; refine oN ?_) | refine gc ?_ | refine ct ?_ | refine cf ?_ | refine swp_cond rfl (fun hc => ?_) (fun hc => ?_) | refine rq rfl (rt (rt .nil)) ?_)
      refine swp_any (id := 10) [[], [], [], [], [], [1100], [], [], [], [], [1100]] [[1100], [1100], [1100], [1100], [1100], [], [1100], [1100], [1100], [], []] mixed (by kernel_rfl) ?_
      refine yp (fun _ _ => po_move rfl rfl) ?_
      refine yp (fun _ _ => po_move rfl rfl) ?_
      refine yp (fun _ _ => po_inc rfl rfl rfl (by omega)) ?_
      refine yp (fun _ _ => po_move rfl rfl) ?_
      refine yp (fun _ _ => po_inc rfl rfl rfl (by omega)) ?_
      refine sany_eff [(1100, _)] [] (.free rfl rfl) rfl rfl (fun _ _ _ _ => e_mkchan ((a + 1) * 10 + (b + 1)) rfl mkc64 rfl hk hno) ?_
      refine yp (fun _ _ => po_nilcheck rfl rfl) ?_
      refine yp (fun _ _ => po_field_bx rfl rfl (tyF rfl)) ?_
      refine yp (fun _ _ => po_index_arr rfl rfl rfl arr66 rfl (by omega)) ?_
      refine yp (fun _ _ => po_index_arr rfl rfl rfl arr65 rfl (by omega)) ?_
      refine sany_eff [(1100, _)] [] (.free rfl rfl) rfl rfl (fun _ _ _ _ => e_setlink rfl rfl rfl rfl rfl rfl (tyT rfl) rfl hk rfl) ?_
      refine sany_nil ?_
      repeat' (first | refine for_next hlb (weak_sub (.cons rfl (by rfl) rfl (.cons rfl (by rfl) rfl (.cons rfl (by rfl) rfl (.cons rfl (by rfl) rfl (.cons rfl (by rfl) rfl (.cons rfl (by rfl) rfl (.cons rfl (by rfl) rfl .nil))))))) (.cons rfl (by first | rfl | ((rw [made_s n a b hlb h2]))) rfl .nil) .nil) trivial | (refine rg 11 ?_; refine sp (xinc rfl) ?_; refine oMv ?_; refine oN ?_) | refine gc ?_)
    · obtain rfl : b = n := by omega
      repeat' (first | refine for_next hlt (weak_sub (.cons rfl (by rfl) rfl (.cons rfl (by rfl) rfl (.cons rfl (by rfl) rfl (.cons rfl (by rfl) rfl .nil)))) (.cons rfl (by first | rfl | ((rw [made_r]))) rfl .nil) .nil) trivial | (refine rg 8 ?_; refine oCm ?_; refine oN ?_) | (refine rg 12 ?_; refine sp (xinc rfl) ?_; refine oMv ?_; refine oN ?_) | refine gc ?_ | refine ct ?_ | refine cf ?_)
  · obtain rfl : a = n := by omega
    rw [made_e]
    repeat' (first | (refine rg 5 ?_; refine oCm ?_; refine oN ?_) | (refine rg 13 ?_; refine oMv ?_; refine oAs ?_; refine oAs ?_; refine oN ?_) | refine gc ?_ | refine ct ?_ | refine cf ?_ | refine swp_cond rfl (fun hc => ?_) (fun hc => ?_) | refine retl (by exact .inr rfl) rfl (.tmp rfl rfl (.tmp rfl rfl .nil)) ?_ rfl (.cons rfl (by rfl) rfl .nil) .nil)
    rfl
end Go.Proofs.Ytgbcmjcaggnobaa.Sim
