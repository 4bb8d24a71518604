/- A logic of states: boxes made and written, rows made and grown. -/
import Derived.Test.YtcpbdcamfhoiaaaDoorSimE
import Derived.Laws.CopyRow
namespace Go.Proofs.YtcpbdcamfhoiaaaDoor.Sim
set_option linter.unusedVariables false
set_option linter.unusedSimpArgs false
open Go.RowKit Mem

def A.cells : A → List A
  | .t x => x.cells.map .t
  | .ag cs => cs
  | y => [y]
def A.okB : A → Bool
  | .t x => x.okB
  | .any => false
  | .tu _ => false
  | .cl _ _ => false
  | _ => true
def ACells (m : Mm) (g : Gh) (ys : List A) (us : List Value) : Prop := us.length = ys.length ∧ ∀ (j : Nat) y u, ys[j]? = some y → us[j]? = some u → AR m g y u ∧ u.oneCell' = true
theorem acells_ok {m : Mm} {g : Gh} {y : A} {v : Value} (h : AR m g y v) (hk : y.okB = true) : ACells m g y.cells v.cells.toList := by
  have one : ∀ {y : A}, y.cells = [y] → AR m g y v → v.oneCell' = true → ACells m g y.cells v.cells.toList := by
    intro y hc hy h1
    have hv : v.cells = #[v] := by cases v <;> first | rfl | cases h1
    rw [hc, hv]
    refine ⟨rfl, fun j t' v' h2 h3 => ?_⟩
    cases j with
    | zero => simp at h2 h3; subst h2 h3; exact ⟨hy, h1⟩
    | succ j => simp at h2
  cases y with
  | t x =>
    have := cells_ok (show TR m x v from h) hk
    refine ⟨by simp [A.cells, this.1], fun j y u h1 h2 => ?_⟩
    simp only [A.cells, List.getElem?_map] at h1
    cases hx : x.cells[j]? with
    | none => rw [hx] at h1; cases h1
    | some t => rw [hx] at h1; simp at h1; subst h1; exact this.2 j t u hx h2
  | bp i off => exact one rfl h (by rw [h.2]; rfl)
  | own i n => exact one rfl h (by obtain ⟨_, _, ⟨A, c, rfl⟩, _⟩ := h; rfl)
  | emp => exact one rfl h (by obtain ⟨A, rfl⟩ := h; rfl)
  | oe i n sz k off => exact one rfl h (by obtain ⟨_, _, ⟨A, rfl⟩, _⟩ := h; rfl)
  | any => cases hk
  | sfx i n sz k => exact one rfl h (by obtain ⟨_, _, ⟨A, c, rfl⟩, _⟩ := h; rfl)
  | ag cs =>
    obtain ⟨vs, rfl, h1, h2⟩ := h
    exact ⟨by simp [A.cells, Value.cells, h1], fun j y u hy hu => ⟨(h2 j y u hy (by simpa [Value.cells] using hu)).1.two, (h2 j y u hy (by simpa [Value.cells] using hu)).2⟩⟩
  | tu cs => cases hk
  | cl f cs => cases hk
theorem ACells.app {m : Mm} {g : Gh} {ts ts' : List A} {vs vs' : List Value} (h : ACells m g ts vs) (k : ACells m g ts' vs') : ACells m g (ts ++ ts') (vs ++ vs') := by
  refine ⟨by simp [h.1, k.1], fun j t v h1 h2 => ?_⟩
  by_cases hj : j < ts.length
  · rw [List.getElem?_append_left hj] at h1
    rw [List.getElem?_append_left (by rw [h.1]; exact hj)] at h2
    exact h.2 j t v h1 h2
  · rw [List.getElem?_append_right (by omega)] at h1
    rw [List.getElem?_append_right (by rw [h.1]; omega), h.1] at h2
    exact k.2 _ t v h1 h2
theorem ACells.take {m : Mm} {g : Gh} {ts : List A} {vs : List Value} (h : ACells m g ts vs) (n : Nat) : ACells m g (ts.take n) (vs.take n) := by
  refine ⟨by simp [h.1], fun j t v h1 h2 => ?_⟩
  rw [List.getElem?_take] at h1 h2
  split at h1
  · rename_i hj; rw [if_pos hj] at h2; exact h.2 j t v h1 h2
  · cases h1
theorem ACells.drop {m : Mm} {g : Gh} {ts : List A} {vs : List Value} (h : ACells m g ts vs) (n : Nat) : ACells m g (ts.drop n) (vs.drop n) := by
  refine ⟨by simp [h.1], fun j t v h1 h2 => ?_⟩
  rw [List.getElem?_drop] at h1 h2
  exact h.2 _ t v h1 h2
theorem ACells.one {m : Mm} {g : Gh} {ts : List A} {vs : List Value} (h : ACells m g ts vs) : ∀ v ∈ vs, v.oneCell' = true := by
  intro v hv
  obtain ⟨j, hj⟩ := List.getElem?_of_mem hv
  have hlt : j < ts.length := by rw [← h.1]; exact (List.getElem?_eq_some_iff.1 hj).1
  exact (h.2 j _ v (List.getElem?_eq_getElem hlt) hj).2

/-- one box more -/
def Gh.addB (g : Gh) (i b : Nat) : Gh := { g with gb := fun j => if j = i then b else g.gb j, lb := fun j => if j = i then true else g.lb j }
theorem AR0.addB {m : Mm} {g : Gh} {x : A} {v : Value} (h : AR0 m g x v) {i b : Nat} (hi : g.lb i = false) : AR0 m (g.addB i b) x v := by
  cases x with
  | bp j off =>
    obtain ⟨h1, h2⟩ := h
    have hne : j ≠ i := fun e => by subst e; rw [hi] at h1; cases h1
    exact ⟨by simp [Gh.addB, hne, h1], by simp [Gh.addB, hne, h2]⟩
  | _ => exact h
theorem AR.addB {m : Mm} {g : Gh} {x : A} {v : Value} (h : AR m g x v) {i b : Nat} (hi : g.lb i = false) : AR m (g.addB i b) x v := h.lift fun _ _ h => h.addB hi
theorem alloc_new_cells {w : World} {b o : Nat} {m : Mm} (hs : Sub m w) (h : w.heap.size ≤ b) : m b o = none := by
  cases hv : m b o with
  | none => rfl
  | some v => have := hs.lt hv; omega
section
variable {C : Ctx} {bx : List (Nat × List A)} {ow : List (Nat × Own)} {w : World} {m : Mm} {g : Gh}
theorem EnvG.boxT (he : EnvG C bx ow w m g) {i : Nat} (hp : Nat.ble 2000 i = false) (hi : get bx i = none) {cs : List A} {vs : Array Value} {ty : Tag} (hc : ACells m g cs vs.toList) : EnvG C ((i, cs) :: bx) ow (w.alloc (obOf i vs ty)) m (g.addB i w.heap.size) := by
  have hlo : Lo w (w.alloc (obOf i vs ty)) := (Lo.refl w).alloc _
  have hlb : g.lb i = false := by rw [he.lb, hi]; rfl
  have hs := he.step hlo (Ext.refl m _) (he.sub.lo hlo)
  have hlt : ∀ j cs', get bx j = some cs' → g.gb j < w.heap.size := fun j cs' hj => by
    obtain ⟨vs', ty', h1, _⟩ := he.boxes j cs' hj
    exact block_lt h1
  exact {
    lo := hs.lo, gm := hs.gm, sub := hs.sub, ext := hs.ext
    lb := fun j => by
      rw [get_cons]
      show (if j = i then true else g.lb j) = _
      by_cases hji : j = i
      · subst hji; simp
      · rw [if_neg hji, if_neg (fun e => hji e.symm)]; exact he.lb j
    lw := he.lw, ln := he.ln
    boxes := fun j cs' hj => by
      rw [get_cons] at hj
      by_cases hji : i = j
      · subst hji
        rw [if_pos rfl] at hj; injection hj with hj; subst hj
        refine ⟨vs, ty, ?_, by simpa using hc.1, fun k x v h1 h2 => ?_, ?_, ?_⟩
        · show (w.alloc (obOf i vs ty)).heap[if i = i then w.heap.size else g.gb i]? = _
          rw [if_pos rfl]; exact heap_alloc_new w _
        · have := hc.2 k x v h1 (by simpa using h2)
          exact ⟨this.1.addB hlb, this.2⟩
        · show C.mine (if i = i then w.heap.size else g.gb i)
          rw [if_pos rfl]; exact .inl he.lo.size
        · intro o
          show m (if i = i then w.heap.size else g.gb i) o = none
          rw [if_pos rfl]; exact alloc_new_cells he.sub (Nat.le_refl _)
      · rw [if_neg hji] at hj
        obtain ⟨vs', ty', h1, h2, h3, h4, h5⟩ := hs.boxes j cs' hj
        have hg : (g.addB i w.heap.size).gb j = g.gb j := by show (if j = i then _ else _) = _; rw [if_neg (fun e => hji e.symm)]
        rw [hg]
        exact ⟨vs', ty', h1, h2, fun k x v h6 h7 => ⟨(h3 k x v h6 h7).1.addB hlb, (h3 k x v h6 h7).2⟩, h4, h5⟩
    inj := fun j k cj ck hj hk h => by
      rw [get_cons] at hj hk
      have e : ∀ q, (g.addB i w.heap.size).gb q = if q = i then w.heap.size else g.gb q := fun q => rfl
      rw [e, e] at h
      by_cases hji : i = j <;> by_cases hki : i = k
      · omega
      · rw [if_neg hki] at hk
        rw [if_pos hji.symm, if_neg (fun e => hki e.symm)] at h
        have := hlt k ck hk; omega
      · rw [if_neg hji] at hj
        rw [if_neg (fun e => hji e.symm), if_pos hki.symm] at h
        have := hlt j cj hj; omega
      · rw [if_neg hji] at hj; rw [if_neg hki] at hk
        rw [if_neg (fun e => hji e.symm), if_neg (fun e => hki e.symm)] at h
        exact he.inj j k cj ck hj hk h
    owns := fun j o hj => by
      obtain ⟨vs', h1, h2, h3, h4⟩ := hs.owns j o hj
      refine ⟨vs', h1, h2, h3, fun b hb => ⟨(h4 b hb).1, fun k ck hk => ?_, (h4 b hb).2.2⟩⟩
      rw [get_cons] at hk
      show (if k = i then w.heap.size else g.gb k) ≠ b
      by_cases hki : i = k
      · rw [if_pos hki.symm]
        obtain ⟨vs2, h5, _⟩ := he.owns j o hj
        have := (h5.lt b hb).2; omega
      · rw [if_neg hki] at hk
        rw [if_neg (fun e => hki e.symm)]
        exact (h4 b hb).2.1 k ck hk
    apart := hs.apart
    pin := hs.pin
    pinb := fun j cs' hj hj2 => by
      rw [get_cons] at hj
      show (if j = i then w.heap.size else g.gb j) = _
      by_cases hji : i = j
      · subst hji; rw [hp] at hj2; cases hj2
      · rw [if_neg hji] at hj; rw [if_neg (fun e => hji e.symm)]; exact hs.pinb j cs' hj hj2 }
theorem EnvG.box (he : EnvG C bx ow w m g) {i : Nat} (hp : Nat.ble 2000 i = false) (hq : cellB i = true) (hi : get bx i = none) {cs : List A} {vs : Array Value} {ty : TypeId} (hc : ACells m g cs vs.toList) : EnvG C ((i, cs) :: bx) ow (w.alloc (.cells vs ty)) m (g.addB i w.heap.size) := by
  have := he.boxT (ty := ⟨ty, 0, 0, 0⟩) hp hi hc
  rwa [ob_cells hq] at this
/-- a box written -/
theorem EnvG.setAt (he : EnvG C bx ow w m g) {i : Nat} {cs cs' : List A} (hi : get bx i = some cs) {vs' : Array Value} {ty : Tag} {w' : World} (hgw : w.grownBy w' (some (g.gb i))) (hsame : w'.heap[g.gb i]? = some (obOf i vs' ty)) (hc : ACells m g cs' vs'.toList) : EnvG C ((i, cs') :: bx) ow w' m g := by
  obtain ⟨vs0, ty0, h1, h2, h3, h4, h5⟩ := he.boxes i cs hi
  have hother : ∀ k, k < w.heap.size → k ≠ g.gb i → w'.heap[k]? = w.heap[k]? := fun k hk hne => hgw.block k hk (fun e => hne (by injection e))
  have hlb : ∀ j cj, get ((i, cs') :: bx) j = some cj → ∃ c0, get bx j = some c0 := fun j cj hj => by
    rw [get_cons] at hj
    by_cases hji : i = j
    · subst hji; exact ⟨cs, hi⟩
    · rw [if_neg hji] at hj; exact ⟨cj, hj⟩
  exact {
    lo := he.lo.grown hgw (fun k hk => by injection hk with hk; subst hk; exact h4)
    gm := he.gm
    sub := fun b o v hv => by
      have hb : b ≠ g.gb i := fun e => by rw [e, h5 o] at hv; cases hv
      rw [World.cell?_of_block (a := ⟨b, o, none⟩) (hother b (he.sub.lt hv) hb)]; exact he.sub b o v hv
    ext := he.ext
    lb := fun j => by
      rw [get_cons, he.lb j]
      by_cases hji : i = j
      · subst hji; rw [if_pos rfl, hi]; rfl
      · rw [if_neg hji]
    lw := he.lw, ln := he.ln
    boxes := fun j cj hj => by
      rw [get_cons] at hj
      by_cases hji : i = j
      · subst hji
        rw [if_pos rfl] at hj; injection hj with hj; subst hj
        exact ⟨vs', ty, hsame, by simpa using hc.1, fun k x v h6 h7 => hc.2 k x v h6 (by simpa using h7), h4, h5⟩
      · rw [if_neg hji] at hj
        obtain ⟨vs2, ty2, h6, h7⟩ := he.boxes j cj hj
        exact ⟨vs2, ty2, by rw [hother _ (block_lt h6) fun e => hji (he.inj j i cj cs hj hi e).symm]; exact h6, h7⟩
    inj := fun j k cj ck hj hk h => by
      obtain ⟨c1, hj'⟩ := hlb j cj hj
      obtain ⟨c2, hk'⟩ := hlb k ck hk
      exact he.inj j k c1 c2 hj' hk' h
    owns := fun j o hj => by
      obtain ⟨vs2, h6, h7, h8, h9⟩ := he.owns j o hj
      refine ⟨vs2, h6.kept hgw ?_, h7, h8, fun b hb => ⟨(h9 b hb).1, fun k ck hk => ?_, (h9 b hb).2.2⟩⟩
      · cases hb : (g.go j).ownBlock with
        | none => exact .inl rfl
        | some b => exact .inr fun e => by injection e with e; exact (h9 b hb).2.1 i cs hi e.symm
      · obtain ⟨c2, hk'⟩ := hlb k ck hk
        exact (h9 b hb).2.1 k c2 hk'
    apart := he.apart
    pin := he.pin
    pinb := fun j cj hj hj2 => by
      obtain ⟨c1, hj'⟩ := hlb j cj hj
      exact he.pinb j c1 hj' hj2 }
theorem EnvG.setB (he : EnvG C bx ow w m g) {i : Nat} {cs cs' : List A} (hi : get bx i = some cs) {vs vs' : Array Value} {ty : TypeId} (hh : w.heap[g.gb i]? = some (.cells vs ty (0, 0))) (hc : ACells m g cs' vs'.toList) (hq : cellB i = true := by rfl) : EnvG C ((i, cs') :: bx) ow (w.setRow (g.gb i) vs') m g :=
  he.setAt (ty := ⟨ty, 0, 0, 0⟩) hi (grown_setRow' w (g.gb i) vs') (by rw [ob_cells hq]; exact setRow_heap w (g.gb i) vs vs' ty (0, 0) hh) hc
where
  grown_setRow' (w : World) (g : Nat) (cs : Array Value) : w.grownBy (w.setRow g cs) (some g) := ⟨rfl, rfl, rfl, by simp, fun k _ hk => setRow_other w g k cs (fun e => hk (by rw [e]))⟩
end
end Go.Proofs.YtcpbdcamfhoiaaaDoor.Sim
