/- Merged by bundles.py: SimI, SimJ, SimTab, Post, Open, PlMatch. -/
import Derived.Test.YtnclifgiakmmoaaA3
import Derived.Test.YtnclifgiakmmoaaA0
import Derived.ProofKit
import Derived.OpenShut
import Derived.Lib.SmallJoins
import Derived.ShutString
import Derived.ChangeSame
import Derived.Deep.Slices
/- A logic of states: rows of the call's own grow. -/
namespace Go.Proofs.Ytnclifgiakmmoaa.Sim
set_option linter.unusedVariables false
set_option linter.unusedSimpArgs false
open Go.RowKit Mem

theorem run_storeCells_atM (P : Program) (g o : Nat) (t : TypeId) (fz : Nat × Nat) : ∀ (vs : List Value) (i : Nat) (cur : Array Value) (w : World), w.heap[g]? = some (.cells cur t fz) → FzOk fz cur.size → o + i + vs.length ≤ cur.size → (∀ v ∈ vs, v.oneCell' = true) →
    (storeCells ⟨g, o, none⟩ vs i).run P w = .ok () (w.setRow g (cur.toList.take (o + i) ++ vs ++ cur.toList.drop (o + i + vs.length)).toArray)
  | [], i, cur, w, hg, _, _, _ => by
    simp only [storeCells, List.append_nil, List.length_nil, Nat.add_zero, List.take_append_drop, Array.toArray_toList]
    rw [setRow_self w g cur t fz hg]
    rfl
  | v :: rest, i, cur, w, hg, hfz, hl, h1 => by
    have hi : o + i < cur.size := by simp at hl; omega
    have hadd : (⟨g, o, none⟩ : Addr).add i = ⟨g, o + i, none⟩ := by unfold Addr.add; split <;> simp_all
    have hcell : w.cell? ⟨g, o + i, none⟩ = some cur[o + i] := by simp [World.cell?, hg, hi]
    have hfro : w.frozen? ⟨g, o + i, none⟩ = false := by
      obtain ⟨lo, hi'⟩ := fz
      unfold FzOk at hfz
      simp only at hfz
      simp only [World.frozen?, hg, Bool.and_eq_false_iff, decide_eq_false_iff_not]
      omega
    have hst : (store ((⟨g, o, none⟩ : Addr).add i) v).run P w = .ok () (w.setRow g (cur.setIfInBounds (o + i) v)) := by
      rw [hadd, run_store P w _ v _ (h1 v (by simp)), hcell]
      simp [hfro, setCell_eq_setRow w g (o + i) cur t fz v hg]
    have ih := run_storeCells_atM P g o t fz rest (i + 1) (cur.setIfInBounds (o + i) v) (w.setRow g (cur.setIfInBounds (o + i) v)) (setRow_heap w g cur _ t _ hg) (by simpa using hfz) (by simp at hl ⊢; omega) (fun x hx => h1 x (by simp [hx]))
    simp only [storeCells, Sem.run_bind, hst, Result.andThen_ok, ih, setRow_setRow]
    congr 3
    have e := list_seg_step cur.toList (o + i) v rest (by simp at hl ⊢; omega)
    simpa [Array.toList_setIfInBounds, Nat.add_assoc] using e
theorem run_append_roomM {P : Program} (w : World) (t ty e : TypeId) (i : TypeInfo) (ht : P.underlying t = some (.slice e)) (hi : P.info? e = some i)
    (g sLen sCap : Nat) (cur : Array Value) (fz : Nat × Nat) (hg : w.heap[g]? = some (.cells cur e fz)) (hfz : FzOk fz cur.size)
    (a : Addr) (m c : Nat) (news : List Value) (hl : news.length = m * i.size) (hnews : ∀ (j : Nat) u, news[j]? = some u → w.cell? (a.add j) = some u) (h1 : ∀ u ∈ news, u.oneCell' = true)
    (hroom : sLen + m ≤ sCap) (hfit : sLen * i.size + news.length ≤ cur.size) :
    (Builtin.append_ #[t, t] ty #[.slice (some ⟨g, 0, none⟩) sLen sCap, .slice (some a) m c]).run P w =
      .ok (.slice (some ⟨g, 0, none⟩) (sLen + m) sCap) (w.setRow g (cur.toList.take (sLen * i.size) ++ news ++ cur.toList.drop (sLen * i.size + news.length)).toArray) := by
  have hf := run_firstCells_some (P := P) w i.size m a m c news hl hnews
  have hst := run_storeCells_atM P g (sLen * i.size) e fz news 0 cur w hg hfz (by simpa using hfit) h1
  simp only [Nat.add_zero] at hst
  simp [Builtin.append_, run_underlying ht, sizeOf, typeInfo, hi, Builtin.lenOf, hroom, hf, Addr.add_lit, hst]
theorem run_append_own3 {P : Program} (w : World) (base : Nat) (t ty e : TypeId) (i : TypeInfo) (z : Value) (size bytes : Nat) (ht : P.underlying t = some (.slice e)) (hi : P.info? e = some i) (hz : i.zero = some z)
    (hsize : i.size = size) (hby : i.bytes = bytes) (hzs : z.cells.size = size) (hsz : 0 < size)
    (v : Value) (n : Nat) (xs : List Value) (hown : RowM w base e size v n xs)
    (a : Addr) (m c : Nat) (news : List Value) (hl : news.length = m * size) (hnews : ∀ (j : Nat) u, news[j]? = some u → w.cell? (a.add j) = some u) (h1 : ∀ u ∈ news, u.oneCell' = true)
    (h63 : n + m ≤ maxLen) (hbytes : (n + m) * bytes ≤ 140737488355328) (hbase : base ≤ w.heap.size) :
    ∃ v' w', (Builtin.append_ #[t, t] ty #[v, .slice (some a) m c]).run P w = .ok v' w' ∧ RowM w' base e size v' (n + m) (xs ++ news) ∧
      ((v'.ownBlock = v.ownBlock ∧ w.grownBy w' v.ownBlock) ∨ ((∀ g, v'.ownBlock = some g → w.heap.size ≤ g) ∧ Lo w w')) := by
  obtain ⟨hxl, ⟨rfl, rfl⟩ | ⟨g, cap, cur, rfl, hbg, ⟨fz, hg, hfz⟩, hnc, hcm, hcs, htk⟩⟩ := hown
  · obtain ⟨v2, w2, hr2, h22, h3, _⟩ := run_append_own (P := P) w w.heap.size t ty e i z size bytes ht hi hz hsize hby hzs hsz (.slice none 0 0) 0 xs ⟨hxl, .inl ⟨rfl, rfl⟩⟩ a m c news hl hnews h1 h63 hbytes (Nat.le_refl _)
    exact ⟨v2, w2, hr2, (RowM.of h22).low hbase, .inr ⟨fun g hg => (h22.lt g hg).1, Lo.of_grown h3⟩⟩
  · subst hsize
    have hlen : (xs ++ news).length = (n + m) * i.size := by rw [List.length_append, hxl, hl, Nat.add_mul]
    by_cases hroom : n + m ≤ cap
    · have hfit : n * i.size + news.length ≤ cur.size := by rw [hl, ← Nat.add_mul]; exact Nat.le_trans (Nat.mul_le_mul_right _ hroom) hcs
      have hr2 := run_append_roomM (P := P) w t ty e i ht hi g n cap cur fz hg hfz a m c news hl hnews h1 hroom hfit
      have hlt := (Array.getElem?_eq_some_iff.1 hg).1
      have hcl : cur.toList.length = cur.size := by simp
      have htl : (cur.toList.take (n * i.size)).length = n * i.size := by rw [List.length_take, hcl]; exact Nat.min_eq_left (Nat.le_trans (Nat.mul_le_mul_right _ hnc) hcs)
      refine ⟨_, _, hr2, ⟨hlen, .inr ⟨g, cap, _, rfl, hbg, ⟨fz, setRow_heap w g cur _ e fz hg, ?_⟩, hroom, hcm, ?_, ?_⟩⟩, .inl ⟨rfl, grown_set w g _⟩⟩
      · have : (cur.toList.take (n * i.size) ++ news ++ cur.toList.drop (n * i.size + news.length)).toArray.size = cur.size := by
          simp only [List.size_toArray, List.length_append, List.length_drop, htl]; rw [hcl]; omega
        rw [this]; exact hfz
      · simp only [List.size_toArray, List.length_append, List.length_drop, htl]; rw [hcl]; omega
      · simp only [List.append_assoc]
        rw [htk, ← List.append_assoc, ← hlen]
        exact List.take_left
    · have holds : ∀ (j : Nat) u, xs[j]? = some u → w.cell? ((⟨g, 0, none⟩ : Addr).add j) = some u := RowM.cells (base := base) (e := e) (v := .slice (some ⟨g, 0, none⟩) n cap) (n := n) ⟨hxl, .inr ⟨g, cap, cur, rfl, hbg, ⟨fz, hg, hfz⟩, hnc, hcm, hcs, htk⟩⟩ rfl
      subst hby
      have hsmall : n + m ≤ 9223372036854775807 := by simp only [maxLen] at h63; omega
      have hr2 := run_append_grow (P := P) w t ty e i z ht hi hz ⟨g, 0, none⟩ n cap xs hxl holds a m c news hl hnews (by omega) (by omega) (growslice_fits (by omega) hbytes)
      have hge := grownCap_ge w (n + m) cap e
      have hcm' : grownCap w (n + m) cap e ≤ maxLen := grownCap_le_maxLen w (n + m) cap e h63
      refine ⟨_, _, hr2, ⟨hlen, .inr ⟨w.heap.size, _, _, rfl, hbase, ⟨(0, 0), heap_alloc_new w.drew _, .inl rfl⟩, hge, hcm', ?_, ?_⟩⟩, .inr ⟨fun g' hg' => ?_, ((Lo.refl w).drew).alloc _⟩⟩
      · refine Nat.le_of_eq (Eq.symm ?_)
        simp only [Array.size_append, List.size_toArray, size_zeroCells, hzs, hxl, hl, ← Nat.add_mul]
        congr 1
        omega
      · simp only [Array.toList_append, List.append_assoc]
        rw [← List.append_assoc, ← hlen]
        exact List.take_left
      · simp [Value.ownBlock] at hg'
        omega
where
  grown_set (w : World) (g : Nat) (cur' : Array Value) : w.grownBy (w.setRow g cur') (some g) := by
    refine ⟨rfl, rfl, rfl, by simp [World.setRow], fun k hk hne => ?_⟩
    exact setRow_other w g k cur' (fun e => hne (by rw [e]))

theorem EnvG.same {C : Ctx} {bx bx' : List (Nat × List A)} {ow ow' : List (Nat × Own)} {w : World} {m : Mm} {g : Gh} (he : EnvG C bx ow w m g) (h1 : ∀ i, get bx' i = get bx i) (h2 : ∀ i, get ow' i = get ow i) : EnvG C bx' ow' w m g where
  lo := he.lo
  gm := he.gm
  sub := he.sub
  ext := he.ext
  gt := he.gt
  lb := fun i => by rw [h1]; exact he.lb i
  lw := fun i => by rw [h2]; exact he.lw i
  ln := fun i o h => by rw [h2] at h; exact he.ln i o h
  boxes := fun i cs h => by rw [h1] at h; exact he.boxes i cs h
  inj := fun i j ci cj hi hj => by rw [h1] at hi hj; exact he.inj i j ci cj hi hj
  owns := fun i o h => by
    rw [h2] at h
    obtain ⟨vs, h3, h4, h5, h6⟩ := he.owns i o h
    exact ⟨vs, h3, h4, h5, fun b hb => ⟨(h6 b hb).1, fun j cs hj => by rw [h1] at hj; exact (h6 b hb).2.1 j cs hj, (h6 b hb).2.2⟩⟩
  apart := fun i j oi oj hi hj => by rw [h2] at hi hj; exact he.apart i j oi oj hi hj
  pin := fun i o h => by rw [h2] at h; exact he.pin i o h
  pinb := fun i o h => by rw [h1] at h; exact he.pinb i o h

def Gh.setO (g : Gh) (i : Nat) (v : Value) (n : Nat) : Gh := { g with go := fun j => if j = i then v else g.go j, ln := fun j => if j = i then n else g.ln j, lw := fun j => if j = i then true else g.lw j }
/-- memory that stays, with a row -/
def rowm (m : Mm) (v : Value) (vs : List Value) : Mm := fun b o => if v.ownBlock = some b then vs[o]? else m b o
section
variable {C : Ctx} {bx : List (Nat × List A)} {ow : List (Nat × Own)} {w w' : World} {m m' : Mm} {g : Gh}
theorem AR0.setO {x : A} {u : Value} (h : AR0 m g x u) (hm : ∀ b o v, m b o = some v → m' b o = some v) {i n : Nat} {v : Value} (hi : g.lw i = false ∨ g.ln i < n) : AR0 m' (g.setO i v n) x u := by
  cases x with
  | t x => exact TR.mono hm h
  | own j k =>
    obtain ⟨h1, h2, h3, h4⟩ := h
    by_cases hji : j = i
    · subst hji
      rcases hi with hi | hi
      · rw [hi] at h1; cases h1
      · refine ⟨by simp [Gh.setO], by simp [Gh.setO]; omega, h3, fun e => ?_⟩
        simp [Gh.setO] at e; omega
    · exact ⟨by simp [Gh.setO, hji, h1], by simp [Gh.setO, hji, h2], h3, fun e => by simp [Gh.setO, hji] at e ⊢; exact h4 e⟩
  | oe j k sz kk off =>
    obtain ⟨h1, h2, h3, h4⟩ := h
    by_cases hji : j = i
    · subst hji
      rcases hi with hi | hi
      · rw [hi] at h1; cases h1
      · refine ⟨by simp [Gh.setO], by simp [Gh.setO]; omega, h3, fun e => ?_⟩
        simp [Gh.setO] at e; omega
    · exact ⟨by simp [Gh.setO, hji, h1], by simp [Gh.setO, hji, h2], h3, fun e => by simp [Gh.setO, hji] at e ⊢; exact h4 e⟩
  | sfx j k sz kk =>
    obtain ⟨h1, h2, h3, h4⟩ := h
    by_cases hji : j = i
    · subst hji
      rcases hi with hi | hi
      · rw [hi] at h1; cases h1
      · refine ⟨by simp [Gh.setO], by simp [Gh.setO]; omega, h3, fun e => ?_⟩
        simp [Gh.setO] at e; omega
    · exact ⟨by simp [Gh.setO, hji, h1], by simp [Gh.setO, hji, h2], h3, fun e => by
      have e' : k = g.ln j := by simpa [Gh.setO, hji] using e
      rw [show (g.setO i v n).go j = g.go j from by simp [Gh.setO, hji]]; exact h4 e'⟩
  | _ => exact h
theorem AR.setO {x : A} {u : Value} (h : AR m g x u) (hm : ∀ b o v, m b o = some v → m' b o = some v) {i n : Nat} {v : Value} (hi : g.lw i = false ∨ g.ln i < n) : AR m' (g.setO i v n) x u := h.lift fun _ _ h => h.setO hm hi
/-- a row in a new block, or one that has grown in its own -/
theorem EnvG.setO (he : EnvG C bx ow w m g) {i : Nat} (hp : Nat.ble 2000 i = false) {v : Value} {e : TypeId} {sz : Nat} {rows : List (List T)} {vs : List Value} (ho : RowM w' 0 e sz v rows.length vs) (hr : ∀ r ∈ rows, r.length = sz) (hc : CellsAre m rows.flatten vs)
    (hi : (∃ o, get ow i = some o ∧ o.rows.length < rows.length) ∨ get ow i = none)
    (hcase : ((∃ (o : Own) (us : List Value), get ow i = some o ∧ v.ownBlock = (g.go i).ownBlock ∧ w.grownBy w' (g.go i).ownBlock ∧ (∀ (k : Nat) u, us[k]? = some u → (vis i vs)[k]? = some u) ∧ ∀ b, (g.go i).ownBlock = some b → ∀ k : Nat, m b k = us[k]?)) ∨ ((∀ b, v.ownBlock = some b → w.heap.size ≤ b) ∧ Lo w w')) :
    EnvG C bx ((i, ⟨e, sz, rows⟩) :: ow) w' (rowm m v (vis i vs)) (g.setO i v rows.length) ∧ (∀ b o u, m b o = some u → rowm m v (vis i vs) b o = some u) := by
  have hmine : ∀ b, v.ownBlock = some b → C.mine b := by
    intro b hb
    rcases hcase with ⟨o, us, hget, hvb', _⟩ | ⟨hf, _⟩
    · obtain ⟨vs2, _, _, _, h4⟩ := he.owns i o hget
      exact (h4 b (hvb' ▸ hb)).2.2
    · exact .inl (Nat.le_trans he.lo.size (hf b hb))
  have hgrow : w.grownBy w' v.ownBlock := by
    rcases hcase with ⟨o, us, _, hb, hg, _⟩ | ⟨_, hl⟩
    · rw [hb]; exact hg
    · exact hl.grownBy _
  have hext : ∀ b o u, m b o = some u → rowm m v (vis i vs) b o = some u := by
    intro b o u hu
    unfold rowm
    split
    · rename_i hb
      rcases hcase with ⟨o', us, hget, hvb', _, hpre, hus⟩ | ⟨hf, _⟩
      · rw [hb] at hvb'
        rw [hus b hvb'.symm] at hu
        exact hpre o u hu
      · have := he.sub.lt hu; have := hf b hb; omega
    · exact hu
  have hne : ∀ j oj, get ow j = some oj → j ≠ i → ∀ b, (g.go j).ownBlock = some b → v.ownBlock ≠ some b := by
    intro j oj hj hji b hb hv
    rcases hcase with ⟨o', us, hget, hvb', _⟩ | ⟨hf, _⟩
    · exact he.apart j i oj o' hj hget hji b hb (hvb' ▸ hv)
    · obtain ⟨vs2, h1, _⟩ := he.owns j oj hj
      have := (h1.lt b hb).2; have := hf b hv; omega
  have hnbx : ∀ j cs, get bx j = some cs → v.ownBlock ≠ some (g.gb j) := by
    intro j cs hj hv
    rcases hcase with ⟨o', us, hget, hvb', _⟩ | ⟨hf, _⟩
    · obtain ⟨vs2, _, _, _, h4⟩ := he.owns i o' hget
      exact (h4 _ (hvb' ▸ hv)).2.1 j cs hj rfl
    · obtain ⟨vs2, ty, h1, _⟩ := he.boxes j cs hj
      have := block_lt h1; have := hf _ hv; omega
  have hAR : ∀ {x : A} {u : Value}, AR m g x u → AR (rowm m v (vis i vs)) (g.setO i v rows.length) x u := fun h => h.setO hext (by
    rcases hi with ⟨o, h1, h2⟩ | h1
    · right; rw [he.ln i o h1]; exact h2
    · left; rw [he.lw, h1]; rfl)
  refine ⟨{
    lo := he.lo.grown hgrow fun k hk => hmine k hk
    gm := he.gm
    sub := fun b o u hu => by
      unfold rowm at hu
      split at hu
      · rename_i hb
        have := ho.cells hb o u (vis_get hu)
        rwa [addr_add, Nat.zero_add] at this
      · rename_i hb
        have h1 := he.sub b o u hu
        rw [World.cell?_of_block (a := ⟨b, o, none⟩) (hgrow.block b (he.sub.lt hu) (fun e => hb e.symm))]; exact h1
    gt := fun b o u ht => hext b o u (he.gt b o u ht)
    ext := ⟨fun b o u hu => hext b o u (he.ext.keep b o u hu), fun b o hb hgb => by
      unfold rowm
      by_cases hvv : v.ownBlock = some b
      · rw [if_pos hvv]
        rcases hmine b hvv with h1 | h1
        · omega
        · rw [hgb] at h1; cases h1
      · rw [if_neg hvv]; exact he.ext.old b o hb hgb⟩
    lb := he.lb
    lw := fun j => by
      rw [get_cons]
      show (if j = i then true else g.lw j) = _
      by_cases hji : j = i
      · subst hji; simp
      · rw [if_neg hji, if_neg (fun e => hji e.symm)]; exact he.lw j
    ln := fun j o hj => by
      rw [get_cons] at hj
      show (if j = i then rows.length else g.ln j) = _
      by_cases hji : j = i
      · subst hji; rw [if_pos rfl] at hj; injection hj with hj; subst hj; simp
      · rw [if_neg (fun e => hji e.symm)] at hj; rw [if_neg hji]; exact he.ln j o hj
    boxes := fun j cs hj => by
      obtain ⟨vs2, ty, h1, h2, h3, h4, h5⟩ := he.boxes j cs hj
      refine ⟨vs2, ty, ?_, h2, fun q x u hx hu => ⟨hAR (h3 q x u hx hu).1, (h3 q x u hx hu).2⟩, h4, fun o => ?_⟩
      · exact (hgrow.block _ (block_lt h1) (fun e => hnbx j cs hj e.symm)).trans h1
      · show rowm m v (vis i vs) (g.gb j) o = none
        unfold rowm
        rw [if_neg (hnbx j cs hj)]; exact h5 o
    inj := he.inj
    owns := fun j o hj => by
      rw [get_cons] at hj
      by_cases hji : j = i
      · subst hji
        rw [if_pos rfl] at hj; injection hj with hj; subst hj
        have hgo : (g.setO j v rows.length).go j = v := by simp [Gh.setO]
        rw [hgo]
        refine ⟨vs, ho, hr, hc.mono hext, fun b hb => ⟨fun k => ?_, fun q cs hq => fun e => hnbx q cs hq (by rw [hb]; exact congrArg some e.symm), hmine b hb⟩⟩
        unfold rowm; rw [if_pos hb]
      · rw [if_neg (fun e => hji e.symm)] at hj
        have hgo : (g.setO i v rows.length).go j = g.go j := by simp [Gh.setO, hji]
        rw [hgo]
        obtain ⟨vs2, h1, h2, h3, h4⟩ := he.owns j o hj
        refine ⟨vs2, h1.kept hgrow ?_, h2, h3.mono hext, fun b hb => ⟨fun k => ?_, (h4 b hb).2⟩⟩
        · cases hb : (g.go j).ownBlock with
          | none => exact .inl rfl
          | some b => exact .inr fun e => hne j o hj hji b hb e.symm
        · unfold rowm
          rw [if_neg (hne j o hj hji b hb)]; exact (h4 b hb).1 k
    apart := fun j k oj ok hj hk hjk b hb => by
      rw [get_cons] at hj hk
      have hgo : ∀ q, (g.setO i v rows.length).go q = if q = i then v else g.go q := fun q => rfl
      rw [hgo] at hb ⊢
      by_cases hji : j = i
      · subst hji
        rw [if_pos rfl] at hb
        rw [if_neg (fun e => hjk e.symm)]
        rw [if_neg hjk] at hk
        intro hb2
        exact hne k ok hk (fun e => hjk e.symm) b hb2 hb
      · rw [if_neg hji] at hb
        rw [if_neg (fun e => hji e.symm)] at hj
        by_cases hki : k = i
        · subst hki; rw [if_pos rfl]; exact hne j oj hj hji b hb
        · rw [if_neg hki]
          rw [if_neg (fun e => hki e.symm)] at hk
          exact he.apart j k oj ok hj hk hjk b hb
    pin := fun j o hj hj2 => by
      rw [get_cons] at hj
      show (if j = i then v else g.go j) = _
      by_cases hji : i = j
      · subst hji; rw [hp] at hj2; cases hj2
      · rw [if_neg hji] at hj; rw [if_neg (fun e => hji e.symm)]; exact he.pin j o hj hj2
    pinb := he.pinb }, hext⟩
end

section
variable {P : Program} {N : Nat} {Q : Exit → St → Prop} {ops : Array Oper} {rest : List Oper} {o : Oper} {tm : List (Nat × A)} {bx : List (Nat × List A)} {ow : List (Nat × Own)}
/-- a slot without a row: a row of none -/
theorem weak_own0 (e sz : Nat) {s i : Nat} (hs : get tm s = some (.t (.v (.slice none 0 0)))) (hi : get ow i = none) (hp : Nat.ble 2000 i = false := by rfl) : Weak N ⟨tm, bx, ow⟩ ⟨(s, .own i 0) :: tm, bx, (i, ⟨e, sz, []⟩) :: ow⟩ := .mk fun C a w ⟨m, g, hr⟩ => by
  have he := hr.env
  have hv : a.eval (.tmp s) = .slice none 0 0 := tr_v (show TR m (.v (.slice none 0 0)) _ from hr.tmps s _ hs)
  obtain ⟨h1, h2⟩ := he.setO (hp := hp) (w' := w) (i := i) (v := .slice none 0 0) (e := e) (sz := sz) (rows := []) (vs := []) (.of (World.ownsRow_nil w 0 e sz)) (fun r h => by cases h) ⟨rfl, fun j t v h => by simp at h⟩ (.inr hi) (.inr ⟨fun b hb => (by cases hb), Lo.refl w⟩)
  have hlw : g.lw i = false := by rw [he.lw, hi]; rfl
  refine ⟨_, _, h1, hr.size, hr.defers, fun s' x hx => ?_⟩
  rw [get_cons] at hx
  split at hx
  · rename_i e'; subst e'; injection hx with hx; subst hx
    exact ⟨by simp [Gh.setO], by simp [Gh.setO], ⟨none, 0, hv⟩, fun _ => by simp [Gh.setO, hv]⟩
  · exact (hr.tmps s' x hx).setO h2 (.inl hlw)
/-- a box's cell without a row: a row of none -/
theorem weak_own0_bx (e sz : Nat) {i j q : Nat} {cs : List A} (hb : get bx i = some cs) (hs : cs[j]? = some (.t (.v (.slice none 0 0)))) (hi : get ow q = none) (hp : Nat.ble 2000 q = false := by rfl) (hw : wnB i = false := by rfl) : Weak N ⟨tm, bx, ow⟩ ⟨tm, (i, cs.set j (.own q 0)) :: bx, (q, ⟨e, sz, []⟩) :: ow⟩ := .mk fun C a w ⟨m, g, hr⟩ => by
  have he := hr.env
  obtain ⟨h1, h2⟩ := he.setO (hp := hp) (w' := w) (i := q) (v := .slice none 0 0) (e := e) (sz := sz) (rows := []) (vs := []) (.of (World.ownsRow_nil w 0 e sz)) (fun r h => by cases h) ⟨rfl, fun j t v h => by simp at h⟩ (.inr hi) (.inr ⟨fun b hb => (by cases hb), Lo.refl w⟩)
  have hlw : g.lw q = false := by rw [he.lw, hi]; rfl
  obtain ⟨vs, ty, h3, h4, h5, h6, h7⟩ := h1.boxes i cs hb
  have hjl : j < cs.length := (List.getElem?_eq_some_iff.1 hs).1
  have hcells : ACells (rowm m (.slice none 0 0) (vis q [])) (g.setO q (.slice none 0 0) 0) (cs.set j (.own q 0)) vs.toList := by
    refine ⟨by simp; exact h4.2 hw, fun k x u hx hu => ?_⟩
    rw [List.getElem?_set] at hx
    by_cases hjk : j = k
    · subst hjk
      rw [if_pos rfl, if_pos hjl] at hx
      injection hx with hx; subst hx
      obtain ⟨h8, h9⟩ := h5 j _ u hs (by simpa using hu)
      have hu' : u = .slice none 0 0 := tr_v (show TR _ (.v (.slice none 0 0)) _ from h8)
      exact ⟨⟨by simp [Gh.setO], by simp [Gh.setO], ⟨none, 0, hu'⟩, fun _ => by simp [Gh.setO, hu']⟩, h9⟩
    · rw [if_neg hjk] at hx
      exact h5 k x u hx (by simpa using hu)
  have h10 := h1.setAt hb (vs' := vs) ⟨rfl, rfl, rfl, Nat.le_refl _, fun _ _ _ => rfl⟩ h3 hcells
  exact ⟨_, _, h10, hr.size, hr.defers, fun s x hx => (hr.tmps s x hx).setO h2 (.inl hlw)⟩
/-- an append to a row of the call's own -/
theorem sops_append {t e sz by_ : Nat} {x z : Operand} {i n d : Nat} {y' : A} {rows rows2 : List (List T)} (hg : o.guard = none) (ho : o.op = .call { callee := .builtin .append, args := #[x, z], argTypes := #[t, t] }) (hd : o.dst = some d) (hN : Nat.blt d N = true)
    (hx : evA tm x = some (.own i n)) (hi : get ow i = some ⟨e, sz, rows⟩) (hn : n = rows.length) (hz : evA tm z = some y') (hz' : Vw ow y' (.sl sz rows2)) (hT : sliceE P t = some (e, sz, by_))
    (hb : (rows.length + rows2.length) * by_ ≤ 140737488355328) (hm : rows.length + rows2.length ≤ maxLen)
    (h : SOps P N ops Q rest ⟨(d, .own i (rows ++ rows2).length) :: tm, bx, (i, ⟨e, sz, rows ++ rows2⟩) :: ow⟩) (hp : Nat.ble 2000 i = false := by rfl) : SOps P N ops Q (o :: rest) ⟨tm, bx, ow⟩ := by
  refine sops_run (.free hg rfl) (fun C a w m g hr => ?_) h
  have he := hr.env
  obtain ⟨i', zv, hu, hi', hzz, h4, h5, h6, h7⟩ := sliceE_spec hT
  obtain ⟨hlw, _, hAx, hgo⟩ := hr.ev hx
  have hln := he.ln i _ hi
  have hvx := hgo (by rw [hln]; exact hn)
  have hvz : TR m (.sl sz rows2) (a.eval z) := hz'.ok he (hr.ev hz)
  obtain ⟨vs, ho1, hrl, hc, hbk⟩ := he.owns i _ hi
  dsimp only at ho1 hrl hc hbk
  have hrl2 : ∀ r ∈ rows2, r.length = sz := by generalize a.eval z = vz at hvz; cases hvz with | sl _ _ A b off cap u hc hm' hA hr hu' ht => exact hr
  have hform : ∃ A cap, a.eval z = .slice A rows2.length cap := by generalize a.eval z = vz at hvz; cases hvz with | sl _ _ A b off cap => exact ⟨A, cap, rfl⟩
  obtain ⟨Az, capz, hvv⟩ := hform
  have hexec : ∀ v' w', (Builtin.append_ #[t, t] o.type #[a.eval x, a.eval z]).run P w = .ok v' w' → (execOp a.eval o).run P w = .ok (.value v') w' := fun v' w' hh => by
    simp only [execOp, ho, resolve, invoke, builtin, Sem.run_bind, Sem.run_pure, Result.andThen_ok, List.map_toArray, List.map_cons, List.map_nil, hh]
  rw [hd]
  have hdN := Nat.lt_of_succ_le (Nat.le_of_ble_eq_true hN)
  rcases Nat.eq_zero_or_pos rows2.length with h0 | h0
  · have hr0 : rows2 = [] := List.eq_nil_of_length_eq_zero h0
    subst hr0
    obtain ⟨A, c, hA⟩ := hAx
    have hnc : n ≤ c := by
      obtain ⟨_, hcase⟩ := ho1
      rcases hcase with ⟨e1, e2⟩ | ⟨q, cap, cur, e1, _, _, e2, _⟩
      · omega
      · rw [← hvx, hA] at e1; injection e1 with e3 e4 e5; omega
    refine ⟨a.eval x, w, hexec _ _ (by rw [hvv, hA]; exact run_append_nothing (P := P) (w := w) t o.type e i' hu hi' A Az n c capz hnc), ?_⟩
    have hrel : Rel C N ⟨(d, .own i rows.length) :: tm, bx, ow⟩ (a.put (some d) (a.eval x)) w := ⟨m, g, hr.put he (fun x v h => h) hdN (by subst hn; exact hr.ev hx)⟩
    rw [List.append_nil]
    obtain ⟨m1, g1, hr1⟩ := hrel
    refine ⟨m1, g1, hr1.env.same (fun j => rfl) (fun j => ?_), hr1.size, hr1.defers, hr1.tmps⟩
    rw [get_cons]
    split
    · rename_i e'; subst e'; exact hi.symm
    · rfl
  · obtain ⟨b, off, us, rfl, hcu, hlu, hcell⟩ := TR.flat (hvv ▸ hvz) h0 h7
    obtain ⟨v', w', hrun, hown, hcase⟩ := run_append_own3 (P := P) w 0 t o.type e i' zv sz by_ hu hi' hzz h4 h5 h6 h7 (g.go i) rows.length vs ho1 ⟨b, off, none⟩ rows2.length capz us hlu (fun j u hj => by rw [addr_add]; exact he.sub _ _ _ (hcell j u hj)) hcu.one hm hb (Nat.zero_le _)
    refine ⟨v', w', hexec _ _ (by rw [hvv, hvx]; exact hrun), ?_⟩
    obtain ⟨h8, h9⟩ := he.setO (hp := hp) (i := i) (v := v') (e := e) (sz := sz) (rows := rows ++ rows2) (vs := vs ++ us) (by rw [List.length_append]; exact hown) (fun r hr' => by
        rcases List.mem_append.1 hr' with hr' | hr'
        · exact hrl r hr'
        · exact hrl2 r hr') (by rw [List.flatten_append]; exact hc.app hcu) (.inl ⟨_, hi, by simp; omega⟩) (by
        rcases hcase with ⟨e1, e2⟩ | hf
        · exact .inl ⟨_, vis i vs, hi, e1, e2, vis_pre fun k u hk => by rw [List.getElem?_append_left (List.getElem?_eq_some_iff.1 hk).1]; exact hk, fun b hb k => (hbk b hb).1 k⟩
        · exact .inr hf)
    refine ⟨_, _, hr.put h8 (fun x u h => h.setO h9 (.inr (by rw [hln]; simp; omega))) hdN ?_⟩
    refine ⟨by simp [Gh.setO], by simp [Gh.setO], ?_, fun _ => by simp [Gh.setO]⟩
    obtain ⟨_, hq⟩ := hown
    rcases hq with ⟨rfl, e2⟩ | ⟨q, cap, cur, rfl, _⟩
    · omega
    · exact ⟨some ⟨q, 0, none⟩, cap, by rw [List.length_append]⟩
end
section
variable {P : Program} {N : Nat} {Q : Exit → St → Prop} {bx : List (Nat × List A)} {ow : List (Nat × Own)} {o : Oper} {ρ : Operand → Option A}
theorem strI_zero {t : TypeId} {pl : List (Nat × Nat)} {zs : List Value} (h : strI P t = some (pl, zs)) : ∃ it z, P.info? t = some it ∧ it.zero = some z ∧ z.cells.toList = zs ∧ ∀ v ∈ zs, v.oneCell' = true := by
  unfold strI at h
  split at h
  · rename_i it fields h1 h2
    split at h
    · rename_i z places h3 h4
      cases hb : (z.cells.toList.all (·.oneCell')) with
      | false => rw [hb] at h; cases h
      | true =>
        rw [hb] at h
        injection h with h
        injection h with e1 e2
        exact ⟨it, z, h1, h3, e2, by rw [← e2]; exact List.all_eq_true.1 hb⟩
    · cases h
  · cases h
/-- a struct's variable, its zero in it -/
theorem sops_allocS {ops : Array Oper} {rest : List Oper} {tm : List (Nat × A)} {ty : TypeId} {d : Nat} {pl : List (Nat × Nat)} {zs : List Value} (hS : strI P ty = some (pl, zs)) (hg : GuardIs ops tm o true) (ho : o.op = .alloc ty) (hd : o.dst = some d) (hN : Nat.blt d N = true) (hi : get bx d = none)
    (h : SOps P N ops Q rest ⟨(d, .bp d 0) :: tm, (d, zs.map fun v => A.t (T.v v)) :: bx, ow⟩) (hp : Nat.ble 2000 d = false := by rfl) (hq : cellB d = true := by rfl) : SOps P N ops Q (o :: rest) ⟨tm, bx, ow⟩ := by
  obtain ⟨it, z, h1, h2, h3, h4⟩ := strI_zero hS
  refine sops_run hg (fun C a w m g hr => ?_) h
  have hlb : g.lb d = false := by rw [hr.env.lb, hi]; rfl
  refine ⟨.pointer (some ⟨w.heap.size, 0, none⟩), w.alloc (.cells z.cells ty), ?_, m, g.addB d w.heap.size, ?_⟩
  · simp [execOp, ho, Instr.alloc, zeroValue, typeInfo, h1, h2, newVar, newRow]
  · rw [hd]
    refine hr.put (hr.env.box hp hq hi (vs := z.cells) (ty := ty) ⟨by rw [h3]; simp, fun j x v hx hv => ?_⟩) (fun x v h => h.addB hlb) (Nat.lt_of_succ_le (Nat.le_of_ble_eq_true hN)) ⟨by simp [Gh.addB], by simp [Gh.addB]⟩
    rw [h3] at hv
    rw [List.getElem?_map, hv] at hx
    simp at hx; subst hx
    exact ⟨.v _, h4 v (List.mem_of_getElem? hv)⟩
theorem po_inc {t t2 : TypeId} {x y : Operand} {k : Nat} (ho : o.op = .binOp .add t x y t2) (hx : ρ x = some (.t (.v (.int .i64 (k : Int))))) (hy : ρ y = some (.t (.v (.int .i64 1)))) (h : (k : Int) + 1 ≤ 9223372036854775807) : PureOp P bx ow o ρ (.t (.v (.int .i64 ((k + 1 : Nat) : Int)))) :=
  po_arith ho hx hy (ar_add (wrap_i64 (by omega)) (by simp))
theorem map_at {α β : Type} {l : List α} {f : α → β} {k : Nat} (h : k < l.length) : (l.map f)[k]? = some (f l[k]) := by simp [h]
end
section
variable {P : Program} {N : Nat} {Q : Exit → St → Prop} {bx : List (Nat × List A)} {ow : List (Nat × Own)} {o : Oper} {ρ : Operand → Option A} {r : A}
theorem pix {t : TypeId} {x ix : Operand} {y : A} {sz k : Nat} {rows : List (List T)} {row : List T} {n : Int} {ik : IntKind} (ho : o.op = .indexAddr t x ix) (hT : sliceSz P t = some sz) (hx : ρ x = some y := by exact rfl) (hy : Vw ow y (.sl sz rows) := by first | exact .t _ | exact .own rfl (by first | rfl | assumption | (simp; done) | (simp; omega)) | exact .nil _ | exact .emp _ | exact .fn _) (hi : ρ ix = some (.t (.v (.int ik n))) := by exact rfl) (hn : n = (k : Int) := by first | rfl | omega) (hk : rows[k]? = some row := by first | rfl | assumption | exact map_at (by first | assumption | omega)) : PureOp P bx ow o ρ (.t (.tp row)) := po_index ho hx hy hi hT hn hk
theorem pln {x : Operand} {t : TypeId} {y : A} {sz : Nat} {rows : List (List T)} (ho : o.op = .call { callee := .builtin .len, args := #[x], argTypes := #[t] }) (hT : sliceSz P t = some sz) (hx : ρ x = some y := by exact rfl) (hy : Vw ow y (.sl sz rows) := by first | exact .t _ | exact .own rfl (by first | rfl | assumption | (simp; done) | (simp; omega)) | exact .nil _ | exact .emp _ | exact .fn _) : PureOp P bx ow o ρ (.t (.v (.int .i64 rows.length))) := po_len ho hx hy hT
theorem pkt {c x y : Operand} {b : Bool} (ho : o.op = .pick c x y) (hc : ρ c = some (.t (.v (.bool b))) := by exact rfl) (hb : b = true := by first | assumption | with_reducible rfl | decide | (simp only [decide_eq_true_eq, decide_eq_false_iff_not]; omega)) (hx : ρ x = some r := by exact rfl) : PureOp P bx ow o ρ r := po_pick_t ho hc hb hx
theorem pkf {c x y : Operand} {b : Bool} (ho : o.op = .pick c x y) (hc : ρ c = some (.t (.v (.bool b))) := by exact rfl) (hb : b = false := by first | assumption | with_reducible rfl | decide | (simp only [decide_eq_true_eq, decide_eq_false_iff_not]; omega)) (hx : ρ y = some r := by exact rfl) : PureOp P bx ow o ρ r := po_pick_f ho hc hb hx
theorem pc {i : Nat} {x : Operand} {y : A} {t : T} {xs : List (Nat × Operand)} {ts : List (Nat × T)} (hl : Parts ow ρ xs ts) (h : ρ x = some y := by exact rfl) (hv : Vw ow y t := by first | exact .t _ | exact .own rfl (by first | rfl | assumption | (simp; done) | (simp; omega)) | exact .nil _ | exact .emp _ | exact .fn _) : Parts ow ρ ((i, x) :: xs) ((i, t) :: ts) := .cons h hv hl
theorem dc {sz i : Nat} {x : Operand} {y : A} {t : T} {xs : List (Nat × Operand)} {rows : List (List T)} (hl : DParts ow ρ sz (i + 1) xs rows) (h : ρ x = some y := by exact rfl) (hv : Vw ow y t := by first | exact .t _ | exact .own rfl (by first | rfl | assumption | (simp; done) | (simp; omega)) | exact .nil _ | exact .emp _ | exact .fn _) (hk : t.okB = true := by exact rfl) (hn : Nat.beq t.cells.length sz = true := by exact rfl) : DParts ow ρ sz i ((i, x) :: xs) (t.cells :: rows) := .cons h hv hk hn hl
theorem pan {t e sz by_ : Nat} {x z : Operand} {y y' : A} {rows : List (List T)} (ho : o.op = .call { callee := .builtin .append, args := #[x, z], argTypes := #[t, t] }) (hT : sliceE P t = some (e, sz, by_)) (hg : o.guard = none := by exact rfl) (hx : ρ x = some y := by exact rfl) (hy : IsEmp y := by first | exact .emp | exact .nil) (hz : ρ z = some y' := by exact rfl) (hz' : Vw ow y' (.sl sz rows) := by first | exact .t _ | exact .own rfl (by first | rfl | assumption | (simp; done) | (simp; omega)) | exact .nil _ | exact .emp _ | exact .fn _) (hb : rows.length * by_ ≤ 140737488355328 := by first | assumption | (simp at *; omega)) (hm : rows.length ≤ maxLen := by first | assumption | (simp [maxLen] at *; omega)) : PureOp P bx ow o ρ (.t (.sl sz rows)) := po_append_new ho hg hx hy hz hz' hT hb hm
end
section
variable {P : Program} {N : Nat} {Q : Exit → St → Prop} {ops : Array Oper} {rest : List Oper} {o : Oper} {tm : List (Nat × A)} {bx : List (Nat × List A)} {ow : List (Nat × Own)}
theorem sap {t e sz by_ : Nat} {x z : Operand} {i n d : Nat} {y' : A} {rows rows2 : List (List T)} (ho : o.op = .call { callee := .builtin .append, args := #[x, z], argTypes := #[t, t] }) (hT : sliceE P t = some (e, sz, by_)) (h : SOps P N ops Q rest ⟨(d, .own i (rows ++ rows2).length) :: tm, bx, (i, ⟨e, sz, rows ++ rows2⟩) :: ow⟩) (hg : o.guard = none := by exact rfl) (hd : o.dst = some d := by exact rfl) (hN : Nat.blt d N = true := by exact rfl)
    (hx : evA tm x = some (.own i n) := by exact rfl) (hi : get ow i = some ⟨e, sz, rows⟩ := by exact rfl) (hn : n = rows.length := by first | rfl | (simp; done)) (hz : evA tm z = some y' := by exact rfl) (hz' : Vw ow y' (.sl sz rows2) := by first | exact .t _ | exact .own rfl (by first | rfl | assumption | (simp; done) | (simp; omega)) | exact .nil _ | exact .emp _ | exact .fn _) (hb : (rows.length + rows2.length) * by_ ≤ 140737488355328 := by first | assumption | (simp at *; omega)) (hm : rows.length + rows2.length ≤ maxLen := by first | assumption | (simp [maxLen] at *; omega)) (hp : Nat.ble 2000 i = false := by rfl) : SOps P N ops Q (o :: rest) ⟨tm, bx, ow⟩ := sops_append hg ho hd hN hx hi hn hz hz' hT hb hm h hp
end
end Go.Proofs.Ytnclifgiakmmoaa.Sim

/- A logic of states: from slices in memory to data, and back; contracts of other walks. -/
namespace Go.Proofs.Ytnclifgiakmmoaa.Sim
set_option linter.unusedVariables false
set_option linter.unusedSimpArgs false
open Go.RowKit Mem

theorem tr_rows_fwd {α : Type} {R : Mem.Rel α} {enc : α → List T} {sz : Nat} {m : Mm} {w : World} (hs : Sub m w) (h0 : 0 < sz) {l : List α} {v : Value} (h : TR m (.sl sz (l.map enc)) v) (hR : ∀ x ∈ l, ∀ us : List Value, CellsAre m (enc x) us → R w.heap.size w x us) :
    ∃ A cap, v = .slice A l.length cap ∧ SliceAt R sz w.heap.size w A l ∧ l.length ≤ cap ∧ cap ≤ maxLen := by
  have key : ∀ {rows : List (List T)} {v : Value}, TR m (.sl sz rows) v → rows = l.map enc → ∃ A cap, v = .slice A l.length cap ∧ SliceAt R sz w.heap.size w A l ∧ l.length ≤ cap ∧ cap ≤ maxLen := by
    intro rows v h he
    cases h with
    | sl _ _ A b off cap u hc hm hA hr hu ht =>
      have hll : rows.length = l.length := by rw [he]; simp
      refine ⟨A, cap, by rw [hll], ?_, by omega, hm⟩
      intro k x hx
      have hk : rows[k]? = some (enc x) := by rw [he]; simp [hx]
      have hne : rows ≠ [] := fun e => by rw [e] at hk; simp at hk
      have hel := hr (enc x) (List.mem_of_getElem? hk)
      have hat : ∀ (j : Nat) v, ((List.range sz).map (u k))[j]? = some v → ∃ t, (enc x)[j]? = some t ∧ v = u k j := fun j v hj => by
        have hjn : j < sz := by have := (List.getElem?_eq_some_iff.1 hj).1; simpa using this
        rw [List.getElem?_map, List.getElem?_range hjn] at hj
        exact ⟨_, List.getElem?_eq_getElem (by omega), by simpa using hj.symm⟩
      refine ⟨b, off, (List.range sz).map (u k), hA hne, ?_, by simp, ?_, ?_⟩
      · obtain ⟨t, h1⟩ : ∃ t, (enc x)[0]? = some t := ⟨_, List.getElem?_eq_getElem (by omega)⟩
        exact hs.lt (hu k 0 _ t hk h1).1
      · intro j v hj
        obtain ⟨t, h1, rfl⟩ := hat j v hj
        exact hs _ _ _ (hu k j _ t hk h1).1
      · refine hR x (List.mem_of_getElem? hx) _ ⟨by simp [hel], fun j t v h1 h2 => ?_⟩
        obtain ⟨t', h3, rfl⟩ := hat j v h2
        exact ⟨ht k j _ t hk h1, (hu k j _ t hk h1).2⟩
  exact key h rfl
theorem tr_rows_bwd {α : Type} {R : Mem.Rel α} {enc : α → List T} {sz B : Nat} (m : Mm) {w : World} {A : Option Addr} {l : List α} {cap : Nat} (hA : SliceAt R sz B w A l) (h1 : l.length ≤ cap) (h2 : cap ≤ maxLen) (hsz : ∀ x, (enc x).length = sz)
    (hR : ∀ x ∈ l, ∀ cs, R B w x cs → CellsAre m (enc x) cs) (hm : ∀ b o v, b < B → w.cell? ⟨b, o, none⟩ = some v → m b o = some v) : TR m (.sl sz (l.map enc)) (.slice A l.length cap) := by
  have hlen : (l.map enc).length = l.length := List.length_map _
  rw [← hlen] at h1 ⊢
  cases l with
  | nil => exact tr_nil m sz h2
  | cons x0 r =>
    obtain ⟨b, off, cs0, rfl, hb, -, -, -⟩ := hA 0 x0 rfl
    have hat : ∀ (k : Nat) row, ((x0 :: r).map enc)[k]? = some row → ∃ cs : List Value, cs.length = sz ∧ (∀ (j : Nat) v, cs[j]? = some v → m b (off + (k * sz + j)) = some v) ∧ CellsAre m row cs := by
      intro k row hk
      rw [List.getElem?_map] at hk
      cases hx : (x0 :: r)[k]? with
      | none => rw [hx] at hk; cases hk
      | some x =>
        rw [hx] at hk
        simp at hk; subst hk
        obtain ⟨b', off', cs, e, hb', hl, hc, hr⟩ := hA k x hx
        injection e with e; injection e with e1 e2; subst e1 e2
        exact ⟨cs, hl, fun j v hj => hm _ _ _ hb (hc j v hj), hR x (List.mem_of_getElem? hx) cs hr⟩
    refine .sl sz _ (some ⟨b, off, none⟩) b off cap (fun k j => (m b (off + (k * sz + j))).getD undef) h1 h2 (fun _ => rfl) ?_ ?_ ?_
    · intro row hrow
      obtain ⟨x, _, rfl⟩ := List.mem_map.1 hrow
      exact hsz x
    all_goals
      intro k j row t hk hj
      obtain ⟨cs, hl, hc, hce⟩ := hat k row hk
      have hjl : j < cs.length := by rw [hce.1]; exact (List.getElem?_eq_some_iff.1 hj).1
      have h3 := hc j cs[j] (List.getElem?_eq_getElem hjl)
      have h4 := hce.2 j t cs[j] hj (List.getElem?_eq_getElem hjl)
      rw [h3]
    · exact ⟨rfl, h4.2⟩
    · exact h4.1
theorem args1 {m : Mm} {t0 : T} {vals : Array Value} (hl : vals.size = [t0].length) (hv : ∀ (i : Nat) t v, [t0][i]? = some t → vals[i]? = some v → TR m t v) : ∃ x0, vals = #[x0] ∧ TR m t0 x0 := by
  obtain ⟨l⟩ := vals
  match l, hl with
  | [x0], _ => exact ⟨x0, rfl, hv 0 _ _ rfl rfl⟩
theorem args3 {m : Mm} {t0 t1 t2 : T} {vals : Array Value} (hl : vals.size = [t0, t1, t2].length) (hv : ∀ (i : Nat) t v, [t0, t1, t2][i]? = some t → vals[i]? = some v → TR m t v) : ∃ x0 x1 x2, vals = #[x0, x1, x2] ∧ TR m t0 x0 ∧ TR m t1 x1 ∧ TR m t2 x2 := by
  obtain ⟨l⟩ := vals
  match l, hl with
  | [x0, x1, x2], _ => exact ⟨x0, x1, x2, rfl, hv 0 _ _ rfl rfl, hv 1 _ _ rfl rfl, hv 2 _ _ rfl rfl⟩
theorem ent_of {P : Program} {f : FuncId} {fn : Func} {c : Code} (hf : P.funcs[f]? = some fn) (hb : fn.body = some c) (hname : (fn.name == "runtime.NumGoroutine") = false) : ∀ (args : Array Value) (w : World), (callFunc f args).run P w = .ok (.enter f args) w := fun args w => by
  have hname' : ¬ fn.name = "runtime.NumGoroutine" := by simpa using hname
  simp [callFunc, hf, hname', hb]
/-- what another walk shows: a result just so -/
theorem post_ex {m : Mm} {w w' : World} {v : Value} {t : T} (hs : Sub m w) (hl : Lo w w') (h : TR (upm m w w') t v) : ∃ v' m', Ending.returned v = .returned v' ∧ Lo w w' ∧ Ext m m' w.heap.size ∧ Sub m' w' ∧ TR m' t v' :=
  ⟨v, _, rfl, hl, ext_upm hs, upm_sub hs hl, h⟩
/-- the memory of a call's beginning, all of it -/
def allm (w : World) : Mm := fun b o => w.cell? ⟨b, o, none⟩
theorem sub_allm (w : World) : Sub (allm w) w := fun _ _ _ h => h
theorem PCalls.law {P : Program} {f : FuncId} {args : List T} {v : Value} (h : PCalls P f args (.v v)) (w : World) (vals : Array Value) (hl : vals.size = args.length) (hv : ∀ (i : Nat) t v, args[i]? = some t → vals[i]? = some v → TR (allm w) t v) (hT : GT (allm w) := by exact fun _ _ _ h => Option.noConfusion h) :
    Calls P f vals w fun e w' => e = .returned v ∧ Lo w w' :=
  (h.run (allm w) w vals (sub_allm w) hl hv hT).mono fun e w' ⟨x, m', h1, h2, _, _, h3⟩ => ⟨by rw [h1, tr_v h3], h2⟩
theorem cells_ex {m : Mm} {ts : List T} {us : List Value} (h : CellsAre m ts us) (vs : List Value) (he : ts = vs.map .v) : us = vs := by
  subst he
  refine List.ext_getElem? fun j => ?_
  by_cases hj : j < vs.length
  · have hju : j < us.length := by rw [h.1]; simpa using hj
    have := (h.2 j (.v vs[j]) us[j] (by simp [hj]) (List.getElem?_eq_getElem hju)).1
    rw [List.getElem?_eq_getElem hju, List.getElem?_eq_getElem hj, tr_v this]
  · rw [List.getElem?_eq_none (by rw [h.1]; simpa using hj), List.getElem?_eq_none (by omega)]
end Go.Proofs.Ytnclifgiakmmoaa.Sim

/- The program's types: cells, fields, elements. (Printed by mk_tab.py.) -/

namespace Go.Proofs.Ytnclifgiakmmoaa.Sim
open Go.RowKit Mem
set_option linter.unusedVariables false
set_option maxRecDepth 100000
def tabT : List (Nat × Bool × Nat) := [(1, false, 1), (2, false, 1), (3, false, 1), (4, false, 1), (5, false, 1), (6, false, 1), (7, true, 4), (8, true, 4), (9, false, 1), (10, false, 1), (11, false, 1), (12, false, 1), (13, true, 2), (14, true, 2), (15, false, 1), (16, false, 1), (17, false, 1), (18, true, 1), (19, true, 1), (21, false, 1), (22, false, 1), (23, false, 1), (24, false, 1), (25, true, 5), (26, true, 5), (27, false, 1), (28, false, 1), (29, false, 1), (30, true, 3), (31, true, 3), (32, true, 2), (33, true, 2), (34, false, 1), (35, true, 3), (36, true, 3), (37, false, 1), (38, false, 1), (39, true, 7), (40, true, 7), (41, false, 1), (42, false, 1), (43, false, 1), (44, false, 1), (46, false, 1), (47, false, 1), (48, false, 1), (49, false, 1), (50, false, 1), (51, false, 1), (52, false, 1), (53, false, 1), (54, true, 3), (55, true, 3), (56, false, 1), (57, true, 4), (58, true, 4), (59, true, 2), (60, true, 2), (61, false, 1), (62, true, 2), (63, true, 2), (64, false, 1), (66, false, 1), (67, false, 1), (68, false, 1), (69, true, 2), (70, true, 2), (71, false, 1), (72, false, 1), (73, false, 1), (74, false, 1), (75, false, 1), (76, false, 1), (77, false, 1), (78, false, 1), (79, false, 1), (80, false, 1), (81, false, 1), (83, false, 1), (84, false, 1), (85, false, 1), (86, true, 2), (87, true, 2), (88, false, 1), (89, false, 1), (90, false, 1), (91, false, 1), (92, false, 1), (93, false, 1), (94, false, 1), (95, false, 1), (96, false, 1), (97, false, 1), (98, false, 1), (99, false, 1), (100, false, 1), (101, false, 1), (102, false, 1), (103, false, 1), (104, false, 1), (105, false, 1), (106, false, 1), (107, false, 1), (108, false, 1), (109, true, 3), (110, true, 3), (111, true, 15), (112, false, 1), (113, false, 1), (114, true, 4), (115, true, 4), (116, true, 0), (117, true, 0), (118, true, 0), (119, false, 1), (120, false, 1), (121, false, 1), (122, false, 1), (123, false, 1), (124, false, 1), (125, false, 1), (126, true, 11), (127, true, 11), (128, false, 1)]
def tabS : List (Nat × Nat) := [(22, 5), (24, 3), (27, 3), (28, 4), (29, 2), (37, 2), (38, 1), (52, 2), (53, 2), (56, 1), (68, 1), (93, 1)]
def tabF : List (Nat × Nat × Nat) := [(7, 0, 0), (7, 1, 1), (7, 2, 2), (7, 3, 3), (8, 0, 0), (8, 1, 1), (8, 2, 2), (8, 3, 3), (13, 0, 0), (13, 1, 1), (14, 0, 0), (14, 1, 1), (18, 0, 0), (19, 0, 0), (25, 0, 0), (25, 1, 1), (25, 2, 2), (25, 3, 3), (25, 4, 4), (26, 0, 0), (26, 1, 1), (26, 2, 2), (26, 3, 3), (26, 4, 4), (30, 0, 0), (30, 1, 1), (30, 2, 2), (31, 0, 0), (31, 1, 1), (31, 2, 2), (32, 0, 0), (32, 1, 1), (33, 0, 0), (33, 1, 1), (35, 0, 0), (35, 1, 2), (36, 0, 0), (36, 1, 2), (39, 0, 0), (39, 1, 1), (39, 2, 2), (39, 3, 3), (39, 4, 4), (39, 5, 5), (39, 6, 6), (40, 0, 0), (40, 1, 1), (40, 2, 2), (40, 3, 3), (40, 4, 4), (40, 5, 5), (40, 6, 6), (54, 0, 0), (54, 1, 1), (54, 2, 2), (55, 0, 0), (55, 1, 1), (55, 2, 2), (57, 0, 0), (57, 1, 1), (57, 2, 2), (57, 3, 3), (58, 0, 0), (58, 1, 1), (58, 2, 2), (58, 3, 3), (59, 0, 0), (59, 1, 1), (60, 0, 0), (60, 1, 1), (62, 0, 0), (62, 1, 1), (63, 0, 0), (63, 1, 1), (69, 0, 0), (69, 1, 1), (70, 0, 0), (70, 1, 1), (86, 0, 0), (86, 1, 1), (87, 0, 0), (87, 1, 1), (109, 0, 0), (109, 1, 1), (109, 2, 2), (110, 0, 0), (110, 1, 1), (110, 2, 2), (114, 0, 0), (114, 1, 1), (114, 2, 2), (114, 3, 3), (115, 0, 0), (115, 1, 1), (115, 2, 2), (115, 3, 3), (126, 0, 0), (126, 1, 1), (126, 2, 2), (126, 3, 3), (126, 4, 4), (126, 5, 5), (126, 6, 6), (126, 7, 7), (126, 8, 8), (126, 9, 9), (126, 10, 10), (127, 0, 0), (127, 1, 1), (127, 2, 2), (127, 3, 3), (127, 4, 4), (127, 5, 5), (127, 6, 6), (127, 7, 7), (127, 8, 8), (127, 9, 9), (127, 10, 10)]
def tabE : List (Nat × Nat × Nat × Nat) := [(22, 26, 5, 64), (24, 31, 3, 72), (27, 55, 3, 72), (28, 58, 4, 96), (29, 60, 2, 40), (37, 63, 2, 32), (38, 5, 1, 1), (52, 70, 2, 24), (53, 87, 2, 16), (56, 3, 1, 8), (68, 52, 1, 24), (93, 9, 1, 16)]
def allB {α : Type} (p : α → Bool) : List α → Bool
  | [] => true
  | x :: r => p x && allB p r
theorem allB_mem {α : Type} {p : α → Bool} : ∀ {l : List α}, allB p l = true → ∀ x ∈ l, p x = true
  | [], _, x, h => by cases h
  | y :: r, h, x, hx => by
    simp only [allB, Bool.and_eq_true] at h
    rcases List.mem_cons.1 hx with rfl | hx
    · exact h.1
    · exact allB_mem h.2 x hx
def lk {β : Type} : List (Nat × β) → Nat → Option β
  | [], _ => none
  | (a, b) :: r, n => bif Nat.beq a n then some b else lk r n
theorem lk_mem {β : Type} : ∀ {l : List (Nat × β)} {n : Nat} {b : β}, lk l n = some b → (n, b) ∈ l
  | [], n, b, h => by cases h
  | (a, b') :: r, n, b, h => by
    unfold lk at h
    cases hb : Nat.beq a n with
    | true => rw [hb] at h; injection h with h; subst h; rw [Nat.eq_of_beq_eq_true hb]; exact List.mem_cons_self
    | false => rw [hb] at h; exact List.mem_cons_of_mem _ (lk_mem h)
def lk2 {β : Type} : List (Nat × Nat × β) → Nat → Nat → Option β
  | [], _, _ => none
  | (a, c, b) :: r, n, k => bif Nat.beq a n then (bif Nat.beq c k then some b else lk2 r n k) else lk2 r n k
theorem lk2_mem {β : Type} : ∀ {l : List (Nat × Nat × β)} {n k : Nat} {b : β}, lk2 l n k = some b → (n, k, b) ∈ l
  | [], n, k, b, h => by cases h
  | (a, c, b') :: r, n, k, b, h => by
    unfold lk2 at h
    cases hb : Nat.beq a n with
    | true =>
      rw [hb] at h
      cases hc : Nat.beq c k with
      | true => rw [hc] at h; injection h with h; subst h; rw [Nat.eq_of_beq_eq_true hb, Nat.eq_of_beq_eq_true hc]; exact List.mem_cons_self
      | false => rw [hc] at h; exact List.mem_cons_of_mem _ (lk2_mem h)
    | false => rw [hb] at h; exact List.mem_cons_of_mem _ (lk2_mem h)
theorem okT : allB (fun x => decide (tyI Try.prog x.1 = some x.2)) tabT = true := by kernel_rfl
theorem okS : allB (fun x => decide (sliceSz Try.prog x.1 = some x.2)) tabS = true := by kernel_rfl
theorem okF : allB (fun x => decide (fieldOff Try.prog x.1 x.2.1 = some x.2.2)) tabF = true := by kernel_rfl
theorem okE : allB (fun x => decide (sliceE Try.prog x.1 = some x.2)) tabE = true := by kernel_rfl
theorem tyE {t : Nat} {x : Nat × Nat × Nat} (h : lk tabE t = some x) : sliceE Try.prog t = some x := of_decide_eq_true (allB_mem okE _ (lk_mem h))
theorem str26 : strI Try.prog 26 = some ([(0, 1), (1, 1), (2, 1), (3, 1), (4, 1)], [.int .u64 0, .string ⟨#[]⟩, .int .u64 0, .int .i64 0, .slice none 0 0]) := by kernel_rfl
theorem str31 : strI Try.prog 31 = some ([(0, 1), (1, 1), (2, 1)], [.slice none 0 0, .slice none 0 0, .slice none 0 0]) := by kernel_rfl
theorem str55 : strI Try.prog 55 = some ([(0, 1), (1, 1), (2, 1)], [.slice none 0 0, .slice none 0 0, .slice none 0 0]) := by kernel_rfl
theorem str58 : strI Try.prog 58 = some ([(0, 1), (1, 1), (2, 1), (3, 1)], [.slice none 0 0, .slice none 0 0, .slice none 0 0, .slice none 0 0]) := by kernel_rfl
theorem str60 : strI Try.prog 60 = some ([(0, 1), (1, 1)], [.string ⟨#[]⟩, .slice none 0 0]) := by kernel_rfl
theorem tyT {t : Nat} {x : Bool × Nat} (h : lk tabT t = some x) : tyI Try.prog t = some x := of_decide_eq_true (allB_mem okT _ (lk_mem h))
theorem tyS {t n : Nat} (h : lk tabS t = some n) : sliceSz Try.prog t = some n := of_decide_eq_true (allB_mem okS _ (lk_mem h))
theorem tyF {t f k : Nat} (h : lk2 tabF t f = some k) : fieldOff Try.prog t f = some k := of_decide_eq_true (allB_mem okF _ (lk2_mem h))
theorem mixed : Try.prog.follows .mixedOrders = true := by kernel_rfl
end Go.Proofs.Ytnclifgiakmmoaa.Sim

/- The rows' last step: arguments opened, the row shut where only new memory was made. -/
namespace Go.Proofs.Ytnclifgiakmmoaa.Post
set_option linter.unusedVariables false
set_option linter.unusedSimpArgs false
open Go.RowKit Go.WideShapes Go.ChangeShapes Go.Joins Mem
section
variable {H : Type} {enc : TypeId × Value → H} {P : Program}
theorem post_of_below {f : Func} {s : ChangeSpec} {apart fresh handsOn again : Bool} {W W' : World} {args : Array Value} {v : Value} {ds gs : List (DataW H)} {before pa pv : List MemPlace}
    (hW : DataW.Whole enc P f.params.toList s.vars apart W args.toList ds gs before)
    (hres : ∀ (b : Nat) (sp : Nat → Bool) (hd : Bool), DataW.TrodAll enc P W' b sp hd f.resultTypes.toList (v.resultList f.resultTypes.size) (s.fn H (ds ++ gs)).results [])
    (hargs : ∀ sp : Nat → Bool, (∀ p ∈ before, sp p.block = true) → DataW.TrodAll enc P W' 0 sp true f.params.toList args.toList (s.fn H (ds ++ gs)).args pa)
    (hvars : ∀ sp : Nat → Bool, (∀ p ∈ before, sp p.block = true) → DataW.TrodVars enc P W' sp s.vars (s.fn H (ds ++ gs)).vars pv)
    (hps : before = pa ++ pv) (hb : Below W.heap.size W W')
    (hok : ∀ (j : Nat) (t : TypeId) (r : Value), f.resultTypes[j]? = some t → (v.resultList f.resultTypes.size)[j]? = some r → Value.okWide P W' .any 0 t r) :
    s.post enc P f apart fresh handsOn again W args v W' := by
  have hlt : ∀ p ∈ before, p.block < W.heap.size := fun p hp => hW.lt p hp
  have hold : ∀ p ∈ before, (fun b => decide (b < W.heap.size)) p.block = true := fun p hp => by simpa using hlt p hp
  refine ⟨ds, gs, before, [], pa, pv, hW, hres _ _ _, hargs _ hold, hvars _ hold, World.keptBut_mono (fun p hp => ⟨hp, ?_⟩) (hb.frame (· ∈ before)), fun _ => ?_⟩
  · rw [hps, List.mem_append] at hp
    exact Or.inr hp
  · obtain ⟨_, _, _, _, _, hz, hn⟩ := hW
    refine ⟨hok, _, _, ([] ++ pa) ++ pv, ⟨[] ++ pa, pv, trodAll_append (hargs _ (fun _ _ => rfl)) (hres _ _ _), hvars _ (fun _ _ => rfl), rfl, ?_, ?_⟩, ?_⟩
    · intro b off hp
      have hin : MemPlace.cell b off ∈ before := by rw [hps]; simpa using hp
      rw [hb.frozen (hlt _ hin)]
      exact hz b off hin
    · intro ha
      have := hn ha
      rw [hps] at this
      simpa using this
    · intro p hp _
      rw [hps]
      simpa using hp
theorem trodAll_stays {W W' : World} {sp' : Nat → Bool} (hl : laidOutB P = true) : ∀ {ts : List TypeId} {vs : List Value} {ds : List (DataW H)} {ps : List MemPlace}, (∀ t ∈ ts, P.readableRec t = true ∧ t < P.types.size) →
    DataW.TrodAll enc P W 0 (fun _ => true) true ts vs ds ps → (∀ p ∈ ps, W.sameAt W' p) → (∀ p ∈ ps, sp' p.block = true) → DataW.TrodAll enc P W' 0 sp' true ts vs ds ps
  | [], vs, ds, ps, _, h, _, _ => by obtain ⟨rfl, rfl, rfl⟩ := trodAll_nil h; exact trodAll_mk0
  | t :: ts, vs, ds, ps, hr, h, hs, hsp => by
    obtain ⟨v, vs', d, ds', p, q, rfl, rfl, rfl, h0, r0⟩ := trodAll_cons h
    obtain ⟨hr1, hr2⟩ := hr t (by simp)
    exact trodAll_cons_mk (WideElems.Trod_stays hl hr1 hr2 h0 (fun x hx => hs x (by simp [hx])) (fun x hx => hsp x (by simp [hx])))
      (trodAll_stays hl (fun t ht => hr t (by simp [ht])) r0 (fun x hx => hs x (by simp [hx])) (fun x hx => hsp x (by simp [hx])))

/-- A LAW's END: it returned true, and nothing that was there has turned. -/
theorem law_post {f : Func} {s : ChangeSpec} {apart fresh handsOn again : Bool} {W W' : World} {args : Array Value} {ds gs : List (DataW H)} {before : List MemPlace} {tb : TypeId}
    (hl : laidOutB P = true) (hr : ∀ t ∈ f.params.toList, P.readableRec t = true ∧ t < P.types.size) (hvars : s.vars = []) (hb1 : P.underlying tb = some .bool) (hres : f.resultTypes = #[tb])
    (hfn : gs = [] → s.fn H (ds ++ gs) = { results := [.lit (.bool true)], args := ds })
    (hW : DataW.Whole enc P f.params.toList s.vars apart W args.toList ds gs before) (hb : Lo W W') : s.post enc P f apart fresh handsOn again W args (.bool true) W' := by
  have hW' := hW
  obtain ⟨p, q, hA, hV, rfl, _, _⟩ := hW
  rw [hvars] at hV
  obtain ⟨rfl, rfl⟩ := trodVars_none hV
  have hf := hfn rfl
  have hlt : ∀ x ∈ p, x.block < W.heap.size := fun x hx => hW'.lt x (by simp [hx])
  refine post_of_below (pa := p) (pv := []) hW' ?_ ?_ ?_ rfl hb ?_
  · intro b sp hd
    rw [hf, hres]
    exact trodAll_mk1 (shut_bool hb1 _)
  · intro sp hsp
    rw [hf]
    exact trodAll_stays hl hr hA (fun x hx => Below.same hb (hlt x hx)) (fun x hx => hsp x (by simp [hx]))
  · intro sp _
    rw [hf, hvars]
    rfl
  · exact ok_one hres rfl (okWide_bool_mk hb1 _)
end
theorem Try.own : ownKnob Try.prog.godebug = none := by kernel_rfl
theorem Try.laidOut : laidOutB Try.prog = true := by kernel_rfl
theorem Try.cellsTerm : Try.prog.cellsOf 70 = 2 := by kernel_rfl
end Go.Proofs.Ytnclifgiakmmoaa.Post

/- Arguments opened: what a reading says of the cells, type by type. -/
namespace Go.Proofs.Ytnclifgiakmmoaa.Opn
set_option linter.unusedVariables false
set_option linter.unusedSimpArgs false
open Go.RowKit Go.WideShapes Go.ChangeShapes Go.Joins Mem

/-- a reading at type t gives R -/
def Opens {α : Type} (t : TypeId) (R : Rel α) : Prop :=
  ∀ (H : Type) (enc : TypeId × Value → H) (w : World) (base : Nat) (spare : Nat → Bool) (held : Bool) (fuel : Nat) (cs : List Value) (x : DataW H × List MemPlace), DataW.trod enc Try.prog w base spare held fuel t cs = some x → ∃ y, R w.heap.size w y cs

theorem slice_opens {α : Type} [Inhabited α] {t e sz : Nat} {R : Rel α} (ht : Try.prog.underlying t = some (.slice e)) (hC : Try.prog.cellsOf e = sz) (hsz : 0 < sz) (hR : Opens e R)
    {H : Type} {enc : TypeId × Value → H} {w : World} {base : Nat} {spare : Nat → Bool} {held : Bool} {fuel : Nat} {cs : List Value} {x : DataW H × List MemPlace} (h : DataW.trod enc Try.prog w base spare held fuel t cs = some x) :
    ∃ (A : Option Addr) (cap : Nat) (xs : List α), cs = [.slice A xs.length cap] ∧ SliceAt R sz w.heap.size w A xs ∧ xs.length ≤ cap ∧ cap ≤ maxLen := by
  rcases Go.Deep.open_slice ht h with ⟨hcs, _⟩ | ⟨a, len, cap, m, n, D, Pl, hcs, hb, hl, hm, hmm, hx, hi⟩
  · exact ⟨none, 0, [], hcs, SliceAt.nil, Nat.le_refl _, Nat.zero_le _⟩
  · have hlm : len ≤ m := by rw [hmm]; split <;> omega
    have hex : ∀ i, i < len → ∃ (y : α) (cs' : List Value), w.cells? base (a.add (i * sz)) sz = some cs' ∧ R w.heap.size w y cs' := by
      intro i hil
      obtain ⟨cs', hc, ht'⟩ := hi i (by omega)
      rw [hC] at hc
      obtain ⟨y, hy⟩ := hR H enc w base spare held n cs' _ ht'
      exact ⟨y, cs', hc, hy⟩
    have hf : ∃ f : Nat → α, ∀ i, i < len → ∃ cs', w.cells? base (a.add (i * sz)) sz = some cs' ∧ R w.heap.size w (f i) cs' := by
      refine ⟨fun i => if h : i < len then (hex i h).choose else default, fun i hil => ?_⟩
      simp only [dif_pos hil]
      exact (hex i hil).choose_spec
    obtain ⟨f, hf⟩ := hf
    refine ⟨some a, cap, (List.range len).map f, by simpa using hcs, ?_, by simpa using hl, hm⟩
    intro k y hk
    have hkl : k < len := by
      rcases Nat.lt_or_ge k len with h' | h'
      · exact h'
      · rw [List.getElem?_eq_none (by simpa using h')] at hk; cases hk
    rw [List.getElem?_map, List.getElem?_range hkl] at hk
    simp at hk; subst hk
    obtain ⟨cs', hc, hr⟩ := hf k hkl
    obtain ⟨_, hlen, hat⟩ := World.cells?_some hc
    have h0 : w.cell? ((a.add (k * sz)).add 0) = some (cs'[0]'(by omega)) := by rw [hat 0 hsz, List.getElem?_eq_getElem]
    obtain ⟨b, off, spot⟩ := a
    have hspot : k = 0 → spot = none := by
      intro hk0; subst hk0
      simp [Addr.add] at h0
      cases spot with
      | none => rfl
      | some q =>
        simp only [World.cell?] at h0
        split at h0
        · simp at h0
        · cases h0
    -- the row's address bears no spot: its first element shows it
    have hsp : spot = none := by
      rcases Nat.eq_zero_or_pos k with hk0 | hk0
      · exact hspot hk0
      · obtain ⟨cs0, hc0, _⟩ := hf 0 (by omega)
        obtain ⟨_, hlen0, hat0⟩ := World.cells?_some hc0
        have h00 : w.cell? (((⟨b, off, spot⟩ : Addr).add (0 * sz)).add 0) = some (cs0[0]'(by omega)) := by rw [hat0 0 hsz, List.getElem?_eq_getElem]
        simp [Addr.add] at h00
        cases spot with
        | none => rfl
        | some q =>
          simp only [World.cell?] at h00
          split at h00
          · simp at h00
          · cases h00
    subst hsp
    have hadd : ∀ j, ((⟨b, off, none⟩ : Addr).add (k * sz)).add j = ⟨b, off + (k * sz + j), none⟩ := by
      intro j
      rw [Go.Deep.add_add, addr_add]
    refine ⟨b, off, cs', rfl, ?_, hlen, ?_, hr⟩
    · have := World.block_lt_of_cell? w _ h0
      rw [hadd] at this
      exact this
    · intro j v hj
      have hjl : j < sz := by rw [← hlen]; exact (List.getElem?_eq_some_iff.1 hj).1
      rw [← hadd, hat j hjl, hj]
end Go.Proofs.Ytnclifgiakmmoaa.Opn

/- Plain functions and laws for chapter 7 (terms): no program in sight. -/
namespace Go.Proofs.Ytnclifgiakmmoaa.Pl
set_option linter.unusedVariables false
set_option linter.unusedSimpArgs false

abbrev Bs := List UInt8

def okc (c : UInt8) : Bool := decide (33 ≤ c.toNat) && decide (c.toNat ≤ 126) && !(c.toNat == 42) && !(c.toNat == 44)
def may (k : Int) (l : Bs) : Bool := l.all okc && (if k = 4 then l.isEmpty else decide (1 ≤ k) && decide (k ≤ 3) && decide (1 ≤ l.length) && decide (l.length ≤ 64))
def hasPre (s p : Bs) : Bool := decide (p.length ≤ s.length) && (s.take p.length == p)
def hasSuf (s p : Bs) : Bool := decide (p.length ≤ s.length) && (s.drop (s.length - p.length) == p)
def hits (k : Int) (l s : Bs) : Bool := if k = 1 then s == l else if k = 2 then hasPre s l else if k = 3 then hasSuf s l else !s.isEmpty
def matches_ (k : Int) (l s : Bs) : Bool := may k l && hits k l s
structure Term where
  k : Int
  s : ByteArray
/- may -/
theorem may_kinds {k : Int} {l : Bs} (h : may k l = true) : k = 1 ∨ k = 2 ∨ k = 3 ∨ k = 4 := by
  unfold may at h
  by_cases h4 : k = 4
  · omega
  · simp [h4] at h; omega
/- lists -/
theorem matches_of_may {k : Int} {l s : Bs} (h : may k l = true) : matches_ k l s = hits k l s := by simp [matches_, h]
end Go.Proofs.Ytnclifgiakmmoaa.Pl
