/- Merged by bundles.py: Foot, Region3, SimTb. -/
import Derived.Test.YtnclifgiakmmoaaGreatH0
import Derived.Lib.DecodeN
/- What a value hangs on: the blocks by which it reads; rows of the call's own, element by element. -/
namespace Go.Proofs.YtnclifgiakmmoaaGreat.Mem
set_option linter.unusedVariables false
set_option linter.unusedSimpArgs false
open Go.RowKit

/-- R holds, by the blocks of S alone -/
def Foot {α : Type} (S : Nat → Prop) (R : Rel α) (w : World) (x : α) (cs : List Value) : Prop :=
  ∀ (w' : World) (B : Nat), (∀ p : Addr, S p.block → w'.cell? p = w.cell? p) → (∀ b, S b → b < B) → R B w' x cs
theorem Foot.at {α : Type} {S : Nat → Prop} {R : Rel α} {w : World} {x : α} {cs : List Value} {B : Nat} (h : Foot S R w x cs) (hS : ∀ b, S b → b < B) : R B w x cs := h w B (fun _ _ => rfl) hS
theorem Foot.mono {α : Type} {S S' : Nat → Prop} {R : Rel α} {w : World} {x : α} {cs : List Value} (h : Foot S R w x cs) (hS : ∀ b, S b → S' b) : Foot S' R w x cs := fun w' B h1 h2 => h w' B (fun p hp => h1 p (hS _ hp)) (fun b hb => h2 b (hS _ hb))
theorem Foot.keep {α : Type} {S : Nat → Prop} {R : Rel α} {w w1 : World} {x : α} {cs : List Value} (h : Foot S R w x cs) (hw : ∀ p : Addr, S p.block → w1.cell? p = w.cell? p) : Foot S R w1 x cs := fun w' B h1 h2 => h w' B (fun p hp => (h1 p hp).trans (hw p hp)) h2
theorem Foot.of {α : Type} {R : Rel α} (hR : Kept R) {w : World} {x : α} {cs : List Value} {B : Nat} (h : R B w x cs) : Foot (fun b => b < B) R w x cs := fun w' B' h1 h2 => hR B B' w w' x cs h (fun p hp => h1 p hp) (by
  rcases Nat.lt_or_ge B' B with hh | hh
  · exact absurd (h2 B' hh) (Nat.lt_irrefl _)
  · exact hh)
/-- R asks nothing of the world -/
def Flat {α : Type} (R : Rel α) : Prop := ∀ B w B' w' x cs, R B w x cs → R B' w' x cs
theorem Foot.flat {α : Type} {R : Rel α} (hR : Flat R) {S : Nat → Prop} {w : World} {x : α} {cs : List Value} {B : Nat} (h : R B w x cs) : Foot S R w x cs := fun w' B' _ _ => hR B w B' w' x cs h

/-- the cells of element k -/
abbrev cut (sz k : Nat) (cells : List Value) : List Value := (cells.drop (k * sz)).take sz
/-- a row of the call's own; its elements read by the blocks of T, but for the row's -/
def RowF {α : Type} (T : Nat → Prop) (R : Rel α) (e : TypeId) (sz base : Nat) (w : World) (v : Value) (xs : List α) : Prop :=
  ∃ cells, w.ownsRow base e sz v xs.length cells ∧ ∀ k x, xs[k]? = some x → Foot (fun b => b < w.heap.size ∧ T b ∧ some b ≠ v.ownBlock) R w x (cut sz k cells)
theorem RowF.nil {α : Type} {T : Nat → Prop} {R : Rel α} {e : TypeId} {sz base : Nat} {w : World} : RowF T R e sz base w (.slice none 0 0) ([] : List α) := ⟨[], World.ownsRow_nil _ _ _ _, by intro k x h; simp at h⟩
theorem RowF.lo {α : Type} {T : Nat → Prop} {R : Rel α} {e : TypeId} {sz base : Nat} {w w' : World} {v : Value} {xs : List α} (h : RowF T R e sz base w v xs) (hl : Lo w w') : RowF T R e sz base w' v xs := by
  obtain ⟨cells, ho, hf⟩ := h
  exact ⟨cells, hl.owns ho, fun k x hx => ((hf k x hx).keep fun p hp => hl.cell p hp.1).mono fun b hb => ⟨Nat.lt_of_lt_of_le hb.1 hl.size, hb.2⟩⟩
theorem RowF.kept {α : Type} {T : Nat → Prop} {R : Rel α} {e : TypeId} {sz base : Nat} {w w' : World} {v : Value} {xs : List α} {row : Option Nat} (h : RowF T R e sz base w v xs) (hg : w.grownBy w' row) (hne : v.ownBlock = none ∨ v.ownBlock ≠ row) (hT : ∀ g, row = some g → ¬ T g) : RowF T R e sz base w' v xs := by
  obtain ⟨cells, ho, hf⟩ := h
  refine ⟨cells, ho.kept hg hne, fun k x hx => ((hf k x hx).keep fun p hp => ?_).mono fun b hb => ⟨Nat.lt_of_lt_of_le hb.1 hg.size, hb.2⟩⟩
  exact World.cell?_of_block (hg.block _ hp.1 fun e => hT _ e.symm hp.2.1)
/-- what is behind the row's value -/
theorem RowF.slice {α : Type} {T : Nat → Prop} {R : Rel α} {e : TypeId} {sz base : Nat} {w : World} {v : Value} {xs : List α} (h : RowF T R e sz base w v xs) :
    ∃ A cap, v = .slice A xs.length cap ∧ xs.length ≤ cap ∧ cap ≤ maxLen ∧ Foot (fun b => b < w.heap.size ∧ (T b ∨ some b = v.ownBlock)) (fun B w (ys : List α) (cs : List Value) => cs = [v] ∧ SliceAt R sz B w A ys) w xs [v] := by
  obtain ⟨cells, ⟨hl, ho⟩, hf⟩ := h
  rcases ho with ⟨rfl, hn⟩ | ⟨g, cap, cur, rfl, hg, hh, hnc, hcm, hcs, htk⟩
  · refine ⟨none, 0, by rw [hn], by omega, by simp [maxLen], ?_⟩
    have : xs = [] := List.eq_nil_of_length_eq_zero hn
    subst this
    intro w' B _ _
    exact ⟨rfl, SliceAt.nil⟩
  · refine ⟨some ⟨g, 0, none⟩, cap, rfl, hnc, hcm, ?_⟩
    intro w' B h1 h2
    have hgl : g < w.heap.size := block_lt hh
    have hSg : g < w.heap.size ∧ (T g ∨ some g = (Value.slice (some ⟨g, 0, none⟩) xs.length cap).ownBlock) := ⟨hgl, .inr rfl⟩
    refine ⟨rfl, ?_⟩
    intro k x hx
    have hk : k < xs.length := (List.getElem?_eq_some_iff.1 hx).1
    have hkk : (k + 1) * sz ≤ xs.length * sz := Nat.mul_le_mul_right sz hk
    rw [Nat.succ_mul] at hkk
    refine ⟨g, 0, cut sz k cells, rfl, h2 g hSg, by simp [cut]; omega, ?_, ?_⟩
    · intro j u hj
      have hjs : j < sz := by
        rcases Nat.lt_or_ge j sz with h' | h'
        · exact h'
        · rw [List.getElem?_eq_none (by simp [cut]; omega)] at hj; cases hj
      rw [List.getElem?_take_of_lt hjs, List.getElem?_drop, ← htk, List.getElem?_take_of_lt (by omega)] at hj
      have hc : w.cell? ⟨g, 0 + (k * sz + j), none⟩ = some u := by
        simp only [World.cell?, hh, Nat.zero_add]
        simpa using hj
      exact (h1 ⟨g, _, none⟩ hSg).trans hc
    · exact hf k x hx w' B (fun p hp => h1 p ⟨hp.1, .inl hp.2.1⟩) (fun b hb => h2 b ⟨hb.1, .inl hb.2.1⟩)
theorem RowF.at {α : Type} {T : Nat → Prop} {R : Rel α} {e : TypeId} {sz base : Nat} {w : World} {v : Value} {xs : List α} (h : RowF T R e sz base w v xs) :
    ∃ A cap, v = .slice A xs.length cap ∧ SliceAt R sz w.heap.size w A xs ∧ xs.length ≤ cap ∧ cap ≤ maxLen := by
  obtain ⟨A, cap, hv, h1, h2, hf⟩ := h.slice
  exact ⟨A, cap, hv, (hf.at (fun b hb => hb.1)).2, h1, h2⟩

/-- an append to a row of the call's own: it stays where it was, or is new -/
theorem run_append_own2 {P : Program} (w : World) (base : Nat) (t ty e : TypeId) (i : TypeInfo) (z : Value) (size bytes : Nat) (ht : P.underlying t = some (.slice e)) (hi : P.info? e = some i) (hz : i.zero = some z)
    (hsize : i.size = size) (hby : i.bytes = bytes) (hzs : z.cells.size = size) (hsz : 0 < size)
    (v : Value) (n : Nat) (xs : List Value) (hown : w.ownsRow base e size v n xs)
    (a : Addr) (m c : Nat) (news : List Value) (hl : news.length = m * size) (hnews : ∀ (j : Nat) u, news[j]? = some u → w.cell? (a.add j) = some u) (h1 : ∀ u ∈ news, u.oneCell' = true)
    (h63 : n + m ≤ maxLen) (hbytes : (n + m) * bytes ≤ 140737488355328) (hbase : base ≤ w.heap.size) :
    ∃ v' w', (Builtin.append_ #[t, t] ty #[v, .slice (some a) m c]).run P w = .ok v' w' ∧ w'.ownsRow base e size v' (n + m) (xs ++ news) ∧ w.grownBy w' v.ownBlock ∧
      (v'.ownBlock = v.ownBlock ∨ ∀ g, v'.ownBlock = some g → w.heap.size ≤ g) := by
  obtain ⟨v', w', hr, h2, h3, _⟩ := run_append_own (P := P) w base t ty e i z size bytes ht hi hz hsize hby hzs hsz v n xs hown a m c news hl hnews h1 h63 hbytes hbase
  refine ⟨v', w', hr, h2, h3, ?_⟩
  obtain ⟨hxl, ⟨rfl, rfl⟩ | ⟨g, cap, cur, rfl, hbg, hg, hnc, hcm, hcs, htk⟩⟩ := hown
  · obtain ⟨v2, w2, hr2, h22, _⟩ := run_append_own (P := P) w w.heap.size t ty e i z size bytes ht hi hz hsize hby hzs hsz (.slice none 0 0) 0 xs ⟨hxl, .inl ⟨rfl, rfl⟩⟩ a m c news hl hnews h1 h63 hbytes (Nat.le_refl _)
    rw [hr] at hr2
    injection hr2 with e1 e2
    subst e1 e2
    exact .inr fun g hg => (h22.lt g hg).1
  · subst hsize
    by_cases hroom : n + m ≤ cap
    · have hfit : n * i.size + news.length ≤ cur.size := by rw [hl, hcs, ← Nat.add_mul]; exact Nat.mul_le_mul_right _ hroom
      have hr2 := run_append_room (P := P) w t ty e i ht hi g n cap cur hg a m c news hl hnews h1 hroom hfit
      rw [hr] at hr2
      injection hr2 with e1 e2
      subst e1
      exact .inl rfl
    · have holds : ∀ (j : Nat) u, xs[j]? = some u → w.cell? ((⟨g, 0, none⟩ : Addr).add j) = some u := World.ownsRow.cells (base := base) (e := e) (v := .slice (some ⟨g, 0, none⟩) n cap) (n := n) ⟨hxl, .inr ⟨g, cap, cur, rfl, hbg, hg, hnc, hcm, hcs, htk⟩⟩ rfl
      subst hby
      have hsmall : n + m ≤ 9223372036854775807 := by simp only [maxLen] at h63; omega
      have hr2 := run_append_grow (P := P) w t ty e i z ht hi hz ⟨g, 0, none⟩ n cap xs hxl holds a m c news hl hnews (by omega) (by omega) (growslice_fits (by omega) hbytes)
      rw [hr] at hr2
      injection hr2 with e1 e2
      subst e1
      right
      intro g' hg'
      simp [Value.ownBlock] at hg'
      omega
theorem cut_left {sz k n : Nat} {a b : List Value} (ha : a.length = n * sz) (hk : k < n) : cut sz k (a ++ b) = cut sz k a := by
  have hkk : (k + 1) * sz ≤ n * sz := Nat.mul_le_mul_right sz hk
  rw [Nat.succ_mul] at hkk
  unfold cut
  rw [List.drop_append_of_le_length (by omega), List.take_append_of_le_length (by simp; omega)]
theorem cut_last {sz n : Nat} {a b : List Value} (ha : a.length = n * sz) (hb : b.length = sz) : cut sz n (a ++ b) = b := by
  unfold cut
  rw [← ha, List.drop_left, List.take_of_length_le (by omega)]
/-- an append of one element, to a row of the call's own -/
theorem wpList_append_row {P : Program} {w : World} {ops : Array Oper} {rest : List Oper} {o : Oper} {a : Act} {Q : Exit → Act → World → Prop} {α : Type} {T : Nat → Prop} {R : Rel α} (hgd : o.guard = none) (s x : Operand) (t : TypeId)
    (ho : o.op = .call { callee := .builtin .append, args := #[s, x], argTypes := #[t, t] })
    (base : Nat) (e : TypeId) (i : TypeInfo) (z : Value) (size bytes : Nat) (ht : P.underlying t = some (.slice e)) (hi : P.info? e = some i) (hz : i.zero = some z)
    (hsize : i.size = size) (hby : i.bytes = bytes) (hzs : z.cells.size = size) (hsz : 0 < size)
    (v : Value) (xs : List α) (hs : a.eval s = v) (hrow : RowF T R e size base w v xs)
    (ad : Addr) (c : Nat) (news : List Value) (y : α) (hx : a.eval x = .slice (some ad) 1 c) (hl : news.length = size) (hnews : ∀ (j : Nat) u, news[j]? = some u → w.cell? (ad.add j) = some u) (h1 : ∀ u ∈ news, u.oneCell' = true)
    (hfoot : Foot (fun b => b < w.heap.size ∧ T b ∧ some b ≠ v.ownBlock) R w y news)
    (h63 : xs.length + 1 ≤ maxLen) (hbytes : (xs.length + 1) * bytes ≤ 140737488355328) (hbase : base ≤ w.heap.size)
    (h : ∀ v' w', RowF T R e size base w' v' (xs ++ [y]) → w.grownBy w' v.ownBlock → (∀ w0, Lo w0 w → w0.heap.size ≤ base → Lo w0 w') → wpList P ops Q rest (a.put o.dst v') w') : wpList P ops Q (o :: rest) a w := by
  obtain ⟨cells, hown, hf⟩ := hrow
  refine wpList_plain hgd fun _ hK => ?_
  obtain ⟨v', w', hr, h2, h3, h4⟩ := run_append_own2 (P := P) w base t o.type e i z size bytes ht hi hz hsize hby hzs hsz v xs.length cells hown ad 1 c news (by omega) hnews h1 h63 hbytes hbase
  unfold Oper.wp execOp
  simp only [ho, resolve, invoke, builtin, Sem.run_bind, Sem.run_pure, Result.andThen_ok, List.map_toArray, List.map_cons, List.map_nil, hs, hx, hr]
  refine hK _ _ (h v' w' ⟨cells ++ news, by simpa using h2, ?_⟩ h3 fun w0 hl0 hb0 => hl0.grown h3 fun k hk => Nat.le_trans hb0 (hown.lt k hk).1)
  have hset : ∀ b, (b < w.heap.size ∧ T b ∧ some b ≠ v.ownBlock) → (b < w'.heap.size ∧ T b ∧ some b ≠ v'.ownBlock) := by
    intro b ⟨hb1, hb2, hb3⟩
    refine ⟨Nat.lt_of_lt_of_le hb1 h3.size, hb2, ?_⟩
    rcases h4 with h4 | h4
    · rw [h4]; exact hb3
    · intro e
      have := h4 b e.symm
      omega
  have hkeep : ∀ p : Addr, (p.block < w.heap.size ∧ T p.block ∧ some p.block ≠ v.ownBlock) → w'.cell? p = w.cell? p := fun p hp => World.cell?_of_block (h3.block _ hp.1 hp.2.2)
  intro k y' hy
  rcases Nat.lt_or_ge k xs.length with hk | hk
  · rw [List.getElem?_append_left hk] at hy
    rw [cut_left hown.1 hk]
    exact ((hf k y' hy).keep hkeep).mono hset
  · rw [List.getElem?_append_right hk] at hy
    have hk0 : k - xs.length = 0 := by
      rcases Nat.eq_zero_or_pos (k - xs.length) with h0 | h0
      · exact h0
      · rw [List.getElem?_eq_none (by simp; omega)] at hy; cases hy
    rw [hk0] at hy
    have hke : k = xs.length := by omega
    simp at hy
    subst hy hke
    rw [cut_last hown.1 hl]
    exact (hfoot.keep hkeep).mono hset
theorem one_cell {w : World} {b o : Nat} {v : Value} (h : w.cell? ⟨b, o, none⟩ = some v) : ∀ (j : Nat) u, [v][j]? = some u → w.cell? ((⟨b, o, none⟩ : Addr).add j) = some u := by
  intro j u hj
  rw [addr_add]
  match j, hj with
  | 0, hj => simp at hj; subst hj; simpa using h
end Go.Proofs.YtnclifgiakmmoaaGreat.Mem

/- A region that draws its order and makes memory, guarded operations among them: each operation ahead of N is shown once; from N on the order is forced. -/
namespace Go.Proofs.YtnclifgiakmmoaaGreat.Mem
set_option linter.unusedVariables false
set_option linter.unusedSimpArgs false
open Go.RowKit

def regionB3 (ops : Array Oper) (N M : Nat) : Bool :=
  decide (N ≤ ops.size) && forcedB ops N && (List.range ops.size).all fun i =>
    (match dstOf ops i with | some d => decide (writer ops d = some i) && decide (d < M) | none => true)
theorem wp_region_mix {P : Program} {id : Nat} {l : List Oper} {Q : Exit → Act → World → Prop} {a0 : Act} {w : World} (N M : Nat) (Φ : Nat → Value → World → Prop)
    (hm : P.follows .mixedOrders = true) (hM : a0.tmps.size = M) (hB : regionB3 l.toArray N M = true)
    (hstable : ∀ i v w1 w2, Φ i v w1 → Lo w1 w2 → Φ i v w2)
    (hspec : ∀ i o, i < N → l.toArray[i]? = some o → ∀ (a : Act) (w' : World), Lo w w' → (∀ j, (deps l.toArray i).contains j = true → ∀ d, dstOf l.toArray j = some d → Φ j (a.eval (.tmp d)) w') →
      (∀ t, ((writer l.toArray t).all fun j => decide (N ≤ j)) = true → a.eval (.tmp t) = a0.eval (.tmp t)) →
      (Region.wanted o (yielded l.toArray a.tmps) = true → o.wp P a w' (fun a' w'' => ∃ v, a' = a.put o.dst v ∧ Lo w' w'' ∧ Φ i v w'') Q) ∧ (Region.wanted o (yielded l.toArray a.tmps) = false → Φ i undef w'))
    (hfin : ∀ (v : Nat → Value) (w' : World), Lo w w' → (∀ i, i < N → Φ i (v i) w') → wpList P l.toArray Q (l.drop N) ((List.range N).foldl (fun a i => a.put (dstOf l.toArray i) (v i)) a0) w') :
    (Code.region id l.toArray true).wp P Q a0 w := by
  unfold regionB3 at hB
  simp only [Bool.and_eq_true, decide_eq_true_eq] at hB
  obtain ⟨⟨hN, hforced⟩, hall⟩ := hB
  rw [List.all_eq_true] at hall
  have hu : ∀ i d, i < l.toArray.size → dstOf l.toArray i = some d → writer l.toArray d = some i ∧ d < M := by
    intro i d hi hd
    have h1 := hall i (by simpa using hi)
    rw [hd] at h1
    simpa only [Bool.and_eq_true, decide_eq_true_eq] using h1
  refine wp_region_spec N Φ hm hN hforced (frame_none _ _) hstable ?_ ?_
  · intro i hi vals w' hlo hnone hd
    have hlt : i < l.toArray.size := by omega
    obtain ⟨o, ho⟩ : ∃ o, l.toArray[i]? = some o := ⟨_, Array.getElem?_eq_getElem hlt⟩
    have hput : ∀ v, (frame l.toArray a0 vals).put o.dst v = frame l.toArray a0 (setV vals i v) := by
      intro v
      cases hdst : o.dst with
      | some d =>
        have : dstOf l.toArray i = some d := by unfold dstOf; rw [ho]; exact hdst
        exact frame_put (hu i d hlt this).1 v
      | none =>
        refine frame_put_none (fun s hs => ?_) v v
        have := writer_spec hs
        rw [ho] at this
        simp only [Option.bind_some, hdst] at this
        cases this
    have hs := hspec i o hi ho (frame l.toArray a0 vals) w' hlo (by
      intro j hj d hjd
      obtain ⟨v, hv, hp⟩ := hd j (by simpa using hj)
      have hjs : j < l.toArray.size := by
        unfold dstOf at hjd
        rcases Nat.lt_or_ge j l.toArray.size with h | h
        · exact h
        · rw [Array.getElem?_eq_none h] at hjd; cases hjd
      obtain ⟨h1, h2⟩ := hu j d hjs hjd
      rw [frame_eval h1 hv (by rw [hM]; exact h2)]
      exact hp) (fun t ht => frame_old' ht hnone)
    unfold wpOp
    rw [ho]
    simp only
    cases hw : Region.wanted o (yielded l.toArray (frame l.toArray a0 vals).tmps)
    · simp only [Bool.false_eq_true, if_false]
      exact ⟨undef, hput _, Lo.refl _, hs.2 hw⟩
    · simp only [if_true]
      refine .inl (Oper.wp_mono ?_ (hs.1 hw))
      rintro a' w'' ⟨v, rfl, hl, hp⟩
      exact ⟨v, hput v, hl, hp⟩
  · intro vals w' hlo hv hn
    have hf := hfin (fun i => (vals i).getD undef) w' hlo (fun i hi => by obtain ⟨v, h1, h2⟩ := hv i hi; simp [h1, h2])
    rw [foldl_frame (fun i d hi hd => (hu i d hi hd).1) N hN] at hf
    have e : (fun i => if i < N then some ((vals i).getD undef) else none) = vals := by
      funext i
      by_cases h : i < N
      · obtain ⟨v, h1, _⟩ := hv i h
        rw [if_pos h, h1]; rfl
      · rw [if_neg h, hn i (by omega)]
    rw [e] at hf
    have hl := wpOps_eq_wpList (P := P) (ops := l.toArray) (Q := Q) (l.drop N) N (by intro j; rw [List.getElem?_drop]; simp)
    have hlen : (l.drop N).length = l.toArray.size - N := by simp
    rw [hlen] at hl
    rw [hl]
    exact hf
end Go.Proofs.YtnclifgiakmmoaaGreat.Mem

/- The program's tables, that stay: utf8's, where strings.Map is reached. -/
namespace Go.Proofs.YtnclifgiakmmoaaGreat.Sim
set_option linter.unusedVariables false
set_option linter.unusedSimpArgs false
def tabC : Nat → Nat → Option Value := fun _ _ => none
end Go.Proofs.YtnclifgiakmmoaaGreat.Sim
