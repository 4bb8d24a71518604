/- Merged by bundles.py: SimI. -/
import Derived.Test.YtnclifgiakmmoaaGreatH5
/- A logic of states: rows of the call's own grow. -/
namespace Go.Proofs.YtnclifgiakmmoaaGreat.Sim
set_option linter.unusedVariables false
set_option linter.unusedSimpArgs false
open Go.RowKit Mem

theorem run_storeCells_atM (P : Program) (g o : Nat) (t : TypeId) (fz : Nat × Nat) : ∀ (vs : List Value) (i : Nat) (cur : Array Value) (w : World), w.heap[g]? = some (.cells cur t fz) → FzOk fz cur.size → o + i + vs.length ≤ cur.size → (∀ v ∈ vs, v.oneCell' = true) →
    (storeCells ⟨g, o, none⟩ vs i).run P w = .ok () (w.setRow g (cur.toList.take (o + i) ++ vs ++ cur.toList.drop (o + i + vs.length)).toArray)
  | [], i, cur, w, hg, _, _, _ => by
    simp only [storeCells, List.append_nil, List.length_nil, Nat.add_zero, List.take_append_drop, Array.toArray_toList]
    rw [setRow_self w g cur t fz hg]
    rfl
  | v :: rest, i, cur, w, hg, hfz, hl, h1 => by
    have hi : o + i < cur.size := by simp at hl; omega
    have hadd : (⟨g, o, none⟩ : Addr).add i = ⟨g, o + i, none⟩ := by unfold Addr.add; split <;> simp_all
    have hcell : w.cell? ⟨g, o + i, none⟩ = some cur[o + i] := by simp [World.cell?, hg, hi]
    have hfro : w.frozen? ⟨g, o + i, none⟩ = false := by
      obtain ⟨lo, hi'⟩ := fz
      unfold FzOk at hfz
      simp only at hfz
      simp only [World.frozen?, hg, Bool.and_eq_false_iff, decide_eq_false_iff_not]
      omega
    have hst : (store ((⟨g, o, none⟩ : Addr).add i) v).run P w = .ok () (w.setRow g (cur.setIfInBounds (o + i) v)) := by
      rw [hadd, run_store P w _ v _ (h1 v (by simp)), hcell]
      simp [hfro, setCell_eq_setRow w g (o + i) cur t fz v hg]
    have ih := run_storeCells_atM P g o t fz rest (i + 1) (cur.setIfInBounds (o + i) v) (w.setRow g (cur.setIfInBounds (o + i) v)) (setRow_heap w g cur _ t _ hg) (by simpa using hfz) (by simp at hl ⊢; omega) (fun x hx => h1 x (by simp [hx]))
    simp only [storeCells, Sem.run_bind, hst, Result.andThen_ok, ih, setRow_setRow]
    congr 3
    have e := list_seg_step cur.toList (o + i) v rest (by simp at hl ⊢; omega)
    simpa [Array.toList_setIfInBounds, Nat.add_assoc] using e
theorem run_append_roomM {P : Program} (w : World) (t ty e : TypeId) (i : TypeInfo) (ht : P.underlying t = some (.slice e)) (hi : P.info? e = some i)
    (g sLen sCap : Nat) (cur : Array Value) (fz : Nat × Nat) (hg : w.heap[g]? = some (.cells cur e fz)) (hfz : FzOk fz cur.size)
    (a : Addr) (m c : Nat) (news : List Value) (hl : news.length = m * i.size) (hnews : ∀ (j : Nat) u, news[j]? = some u → w.cell? (a.add j) = some u) (h1 : ∀ u ∈ news, u.oneCell' = true)
    (hroom : sLen + m ≤ sCap) (hfit : sLen * i.size + news.length ≤ cur.size) :
    (Builtin.append_ #[t, t] ty #[.slice (some ⟨g, 0, none⟩) sLen sCap, .slice (some a) m c]).run P w =
      .ok (.slice (some ⟨g, 0, none⟩) (sLen + m) sCap) (w.setRow g (cur.toList.take (sLen * i.size) ++ news ++ cur.toList.drop (sLen * i.size + news.length)).toArray) := by
  have hf := run_firstCells_some (P := P) w i.size m a m c news hl hnews
  have hst := run_storeCells_atM P g (sLen * i.size) e fz news 0 cur w hg hfz (by simpa using hfit) h1
  simp only [Nat.add_zero] at hst
  simp [Builtin.append_, run_underlying ht, sizeOf, typeInfo, hi, Builtin.lenOf, hroom, hf, Addr.add_lit, hst]
theorem run_append_own3 {P : Program} (w : World) (base : Nat) (t ty e : TypeId) (i : TypeInfo) (z : Value) (size bytes : Nat) (ht : P.underlying t = some (.slice e)) (hi : P.info? e = some i) (hz : i.zero = some z)
    (hsize : i.size = size) (hby : i.bytes = bytes) (hzs : z.cells.size = size) (hsz : 0 < size)
    (v : Value) (n : Nat) (xs : List Value) (hown : RowM w base e size v n xs)
    (a : Addr) (m c : Nat) (news : List Value) (hl : news.length = m * size) (hnews : ∀ (j : Nat) u, news[j]? = some u → w.cell? (a.add j) = some u) (h1 : ∀ u ∈ news, u.oneCell' = true)
    (h63 : n + m ≤ maxLen) (hbytes : (n + m) * bytes ≤ 140737488355328) (hbase : base ≤ w.heap.size) :
    ∃ v' w', (Builtin.append_ #[t, t] ty #[v, .slice (some a) m c]).run P w = .ok v' w' ∧ RowM w' base e size v' (n + m) (xs ++ news) ∧
      ((v'.ownBlock = v.ownBlock ∧ w.grownBy w' v.ownBlock) ∨ ((∀ g, v'.ownBlock = some g → w.heap.size ≤ g) ∧ Lo w w')) := by
  obtain ⟨hxl, ⟨rfl, rfl⟩ | ⟨g, cap, cur, rfl, hbg, ⟨fz, hg, hfz⟩, hnc, hcm, hcs, htk⟩⟩ := hown
  · obtain ⟨v2, w2, hr2, h22, h3, _⟩ := run_append_own (P := P) w w.heap.size t ty e i z size bytes ht hi hz hsize hby hzs hsz (.slice none 0 0) 0 xs ⟨hxl, .inl ⟨rfl, rfl⟩⟩ a m c news hl hnews h1 h63 hbytes (Nat.le_refl _)
    exact ⟨v2, w2, hr2, (RowM.of h22).low hbase, .inr ⟨fun g hg => (h22.lt g hg).1, Lo.of_grown h3⟩⟩
  · subst hsize
    have hlen : (xs ++ news).length = (n + m) * i.size := by rw [List.length_append, hxl, hl, Nat.add_mul]
    by_cases hroom : n + m ≤ cap
    · have hfit : n * i.size + news.length ≤ cur.size := by rw [hl, ← Nat.add_mul]; exact Nat.le_trans (Nat.mul_le_mul_right _ hroom) hcs
      have hr2 := run_append_roomM (P := P) w t ty e i ht hi g n cap cur fz hg hfz a m c news hl hnews h1 hroom hfit
      have hlt := (Array.getElem?_eq_some_iff.1 hg).1
      have hcl : cur.toList.length = cur.size := by simp
      have htl : (cur.toList.take (n * i.size)).length = n * i.size := by rw [List.length_take, hcl]; exact Nat.min_eq_left (Nat.le_trans (Nat.mul_le_mul_right _ hnc) hcs)
      refine ⟨_, _, hr2, ⟨hlen, .inr ⟨g, cap, _, rfl, hbg, ⟨fz, setRow_heap w g cur _ e fz hg, ?_⟩, hroom, hcm, ?_, ?_⟩⟩, .inl ⟨rfl, grown_set w g _⟩⟩
      · have : (cur.toList.take (n * i.size) ++ news ++ cur.toList.drop (n * i.size + news.length)).toArray.size = cur.size := by
          simp only [List.size_toArray, List.length_append, List.length_drop, htl]; rw [hcl]; omega
        rw [this]; exact hfz
      · simp only [List.size_toArray, List.length_append, List.length_drop, htl]; rw [hcl]; omega
      · simp only [List.append_assoc]
        rw [htk, ← List.append_assoc, ← hlen]
        exact List.take_left
    · have holds : ∀ (j : Nat) u, xs[j]? = some u → w.cell? ((⟨g, 0, none⟩ : Addr).add j) = some u := RowM.cells (base := base) (e := e) (v := .slice (some ⟨g, 0, none⟩) n cap) (n := n) ⟨hxl, .inr ⟨g, cap, cur, rfl, hbg, ⟨fz, hg, hfz⟩, hnc, hcm, hcs, htk⟩⟩ rfl
      subst hby
      have hsmall : n + m ≤ 9223372036854775807 := by simp only [maxLen] at h63; omega
      have hr2 := run_append_grow (P := P) w t ty e i z ht hi hz ⟨g, 0, none⟩ n cap xs hxl holds a m c news hl hnews (by omega) (by omega) (growslice_fits (by omega) hbytes)
      have hge := grownCap_ge w (n + m) cap e
      have hcm' : grownCap w (n + m) cap e ≤ maxLen := grownCap_le_maxLen w (n + m) cap e h63
      refine ⟨_, _, hr2, ⟨hlen, .inr ⟨w.heap.size, _, _, rfl, hbase, ⟨(0, 0), heap_alloc_new w.drew _, .inl rfl⟩, hge, hcm', ?_, ?_⟩⟩, .inr ⟨fun g' hg' => ?_, ((Lo.refl w).drew).alloc _⟩⟩
      · refine Nat.le_of_eq (Eq.symm ?_)
        simp only [Array.size_append, List.size_toArray, size_zeroCells, hzs, hxl, hl, ← Nat.add_mul]
        congr 1
        omega
      · simp only [Array.toList_append, List.append_assoc]
        rw [← List.append_assoc, ← hlen]
        exact List.take_left
      · simp [Value.ownBlock] at hg'
        omega
where
  grown_set (w : World) (g : Nat) (cur' : Array Value) : w.grownBy (w.setRow g cur') (some g) := by
    refine ⟨rfl, rfl, rfl, by simp [World.setRow], fun k hk hne => ?_⟩
    exact setRow_other w g k cur' (fun e => hne (by rw [e]))

theorem EnvG.same {C : Ctx} {bx bx' : List (Nat × List A)} {ow ow' : List (Nat × Own)} {w : World} {m : Mm} {g : Gh} (he : EnvG C bx ow w m g) (h1 : ∀ i, get bx' i = get bx i) (h2 : ∀ i, get ow' i = get ow i) : EnvG C bx' ow' w m g where
  lo := he.lo
  gm := he.gm
  sub := he.sub
  ext := he.ext
  gt := he.gt
  lb := fun i => by rw [h1]; exact he.lb i
  lw := fun i => by rw [h2]; exact he.lw i
  ln := fun i o h => by rw [h2] at h; exact he.ln i o h
  boxes := fun i cs h => by rw [h1] at h; exact he.boxes i cs h
  inj := fun i j ci cj hi hj => by rw [h1] at hi hj; exact he.inj i j ci cj hi hj
  owns := fun i o h => by
    rw [h2] at h
    obtain ⟨vs, h3, h4, h5, h6⟩ := he.owns i o h
    exact ⟨vs, h3, h4, h5, fun b hb => ⟨(h6 b hb).1, fun j cs hj => by rw [h1] at hj; exact (h6 b hb).2.1 j cs hj, (h6 b hb).2.2⟩⟩
  apart := fun i j oi oj hi hj => by rw [h2] at hi hj; exact he.apart i j oi oj hi hj
  pin := fun i o h => by rw [h2] at h; exact he.pin i o h
  pinb := fun i o h => by rw [h1] at h; exact he.pinb i o h
  rs := he.rsF (fun _ => False) (fun i R _ hi => ⟨by rw [h1] at hi; exact hi, rfl, rfl⟩) (fun i cs _ hi _ => ⟨rfl, cs, by rw [h1] at hi; exact hi⟩) (fun _ h => h.elim) (fun _ _ _ => rfl) (fun _ _ _ h => h) (fun _ _ _ h => h) (fun j cs hj hcj => .inl ⟨j, cs, by rw [h1] at hj; exact hj, hcj, rfl⟩) (fun j o hj b hb => .inl ⟨j, o, by rw [h2] at hj; exact hj, hb⟩)
  nb := fun i n hi h => by rw [h1] at h; exact he.nb i n hi h
  nf := he.nf

def Gh.setO (g : Gh) (i : Nat) (v : Value) (n : Nat) : Gh := { g with go := fun j => if j = i then v else g.go j, ln := fun j => if j = i then n else g.ln j, lw := fun j => if j = i then true else g.lw j }
/-- memory that stays, with a row -/
def rowm (m : Mm) (v : Value) (vs : List Value) : Mm := fun b o => if v.ownBlock = some b then vs[o]? else m b o
section
variable {C : Ctx} {bx : List (Nat × List A)} {ow : List (Nat × Own)} {w w' : World} {m m' : Mm} {g : Gh}
theorem AR0.setO {x : A} {u : Value} (h : AR0 m g x u) (hm : ∀ b o v, m b o = some v → m' b o = some v) {i n : Nat} {v : Value} (hi : g.lw i = false ∨ g.ln i < n) : AR0 m' (g.setO i v n) x u := by
  cases x with
  | t x => exact TR.mono hm h
  | own j k =>
    obtain ⟨h1, h2, h3, h4⟩ := h
    by_cases hji : j = i
    · subst hji
      rcases hi with hi | hi
      · rw [hi] at h1; cases h1
      · refine ⟨by simp [Gh.setO], by simp [Gh.setO]; omega, h3, fun e => ?_⟩
        simp [Gh.setO] at e; omega
    · exact ⟨by simp [Gh.setO, hji, h1], by simp [Gh.setO, hji, h2], h3, fun e => by simp [Gh.setO, hji] at e ⊢; exact h4 e⟩
  | ev j k u0 =>
    obtain ⟨h1, h2, h3, h4⟩ := h
    by_cases hji : j = i
    · subst hji
      rcases hi with hi | hi
      · rw [hi] at h1; cases h1
      · refine ⟨by simp [Gh.setO], by simp [Gh.setO]; omega, h3, fun e => ?_⟩
        simp [Gh.setO] at e; omega
    · exact ⟨by simp [Gh.setO, hji, h1], by simp [Gh.setO, hji, h2], h3, fun e => by simp [Gh.setO, hji] at e ⊢; exact h4 e⟩
  | oe j k sz kk off =>
    obtain ⟨h1, h2, h3, h4⟩ := h
    by_cases hji : j = i
    · subst hji
      rcases hi with hi | hi
      · rw [hi] at h1; cases h1
      · refine ⟨by simp [Gh.setO], by simp [Gh.setO]; omega, h3, fun e => ?_⟩
        simp [Gh.setO] at e; omega
    · exact ⟨by simp [Gh.setO, hji, h1], by simp [Gh.setO, hji, h2], h3, fun e => by simp [Gh.setO, hji] at e ⊢; exact h4 e⟩
  | sfx j k sz kk =>
    obtain ⟨h1, h2, h3, h4⟩ := h
    by_cases hji : j = i
    · subst hji
      rcases hi with hi | hi
      · rw [hi] at h1; cases h1
      · refine ⟨by simp [Gh.setO], by simp [Gh.setO]; omega, h3, fun e => ?_⟩
        simp [Gh.setO] at e; omega
    · exact ⟨by simp [Gh.setO, hji, h1], by simp [Gh.setO, hji, h2], h3, fun e => by
      have e' : k = g.ln j := by simpa [Gh.setO, hji] using e
      rw [show (g.setO i v n).go j = g.go j from by simp [Gh.setO, hji]]; exact h4 e'⟩
  | _ => exact h
theorem AR.setO {x : A} {u : Value} (h : AR m g x u) (hm : ∀ b o v, m b o = some v → m' b o = some v) {i n : Nat} {v : Value} (hi : g.lw i = false ∨ g.ln i < n) : AR m' (g.setO i v n) x u := h.lift fun _ _ h => h.setO hm hi
/-- a row in a new block, or one that has grown in its own -/
theorem EnvG.setO (he : EnvG C bx ow w m g) {i : Nat} (hp : Nat.ble 2000 i = false) {v : Value} {e : TypeId} {sz : Nat} {rows : List (List T)} {vs : List Value} (ho : RowM w' 0 e sz v rows.length vs) (hr : ∀ r ∈ rows, r.length = sz) (hc : CellsAre m rows.flatten vs)
    (hi : (∃ o, get ow i = some o ∧ o.rows.length < rows.length) ∨ get ow i = none)
    (hcase : ((∃ (o : Own) (us : List Value), get ow i = some o ∧ v.ownBlock = (g.go i).ownBlock ∧ w.grownBy w' (g.go i).ownBlock ∧ (∀ (k : Nat) u, us[k]? = some u → (vis i vs)[k]? = some u) ∧ ∀ b, (g.go i).ownBlock = some b → ∀ k : Nat, m b k = us[k]?)) ∨ ((∀ b, v.ownBlock = some b → w.heap.size ≤ b) ∧ Lo w w')) :
    EnvG C bx ((i, ⟨e, sz, rows⟩) :: ow) w' (rowm m v (vis i vs)) (g.setO i v rows.length) ∧ (∀ b o u, m b o = some u → rowm m v (vis i vs) b o = some u) := by
  have hmine : ∀ b, v.ownBlock = some b → C.mine b := by
    intro b hb
    rcases hcase with ⟨o, us, hget, hvb', _⟩ | ⟨hf, _⟩
    · obtain ⟨vs2, _, _, _, h4⟩ := he.owns i o hget
      exact (h4 b (hvb' ▸ hb)).2.2
    · exact .inl (Nat.le_trans he.lo.size (hf b hb))
  have hgrow : w.grownBy w' v.ownBlock := by
    rcases hcase with ⟨o, us, _, hb, hg, _⟩ | ⟨_, hl⟩
    · rw [hb]; exact hg
    · exact hl.grownBy _
  have hext : ∀ b o u, m b o = some u → rowm m v (vis i vs) b o = some u := by
    intro b o u hu
    unfold rowm
    split
    · rename_i hb
      rcases hcase with ⟨o', us, hget, hvb', _, hpre, hus⟩ | ⟨hf, _⟩
      · rw [hb] at hvb'
        rw [hus b hvb'.symm] at hu
        exact hpre o u hu
      · have := he.sub.lt hu; have := hf b hb; omega
    · exact hu
  have hne : ∀ j oj, get ow j = some oj → j ≠ i → ∀ b, (g.go j).ownBlock = some b → v.ownBlock ≠ some b := by
    intro j oj hj hji b hb hv
    rcases hcase with ⟨o', us, hget, hvb', _⟩ | ⟨hf, _⟩
    · exact he.apart j i oj o' hj hget hji b hb (hvb' ▸ hv)
    · obtain ⟨vs2, h1, _⟩ := he.owns j oj hj
      have := (h1.lt b hb).2; have := hf b hv; omega
  have hnbx : ∀ j cs, get bx j = some cs → chB j = false → v.ownBlock ≠ some (g.gb j) := by
    intro j cs hj hcj hv
    rcases hcase with ⟨o', us, hget, hvb', _⟩ | ⟨hf, _⟩
    · obtain ⟨vs2, _, _, _, h4⟩ := he.owns i o' hget
      exact (h4 _ (hvb' ▸ hv)).2.1 j cs hj hcj rfl
    · obtain ⟨vs2, ty, h1, _⟩ := he.boxes j cs hj hcj
      have := block_lt h1; have := hf _ hv; omega
  have hAR : ∀ {x : A} {u : Value}, AR m g x u → AR (rowm m v (vis i vs)) (g.setO i v rows.length) x u := fun h => h.setO hext (by
    rcases hi with ⟨o, h1, h2⟩ | h1
    · right; rw [he.ln i o h1]; exact h2
    · left; rw [he.lw, h1]; rfl)
  refine ⟨{
    nb := he.nb
    nf := fun b o u hb hu => by
      unfold rowm at hu
      split at hu
      · rename_i hvb; exact ho.nf hvb (vis_get hu)
      · rename_i hvb
        rw [nfB_eq (hgrow.block b (he.sub.lt hu) (fun e => hvb e.symm))]; exact he.nf b o u hb hu
    lo := he.lo.grown hgrow fun k hk => hmine k hk
    gm := he.gm
    sub := fun b o u hu => by
      unfold rowm at hu
      split at hu
      · rename_i hb
        have := ho.cells hb o u (vis_get hu)
        rwa [addr_add, Nat.zero_add] at this
      · rename_i hb
        have h1 := he.sub b o u hu
        rw [World.cell?_of_block (a := ⟨b, o, none⟩) (hgrow.block b (he.sub.lt hu) (fun e => hb e.symm))]; exact h1
    gt := fun b o u ht => hext b o u (he.gt b o u ht)
    ext := ⟨fun b o u hu => hext b o u (he.ext.keep b o u hu), fun b o hb hgb => by
      unfold rowm
      by_cases hvv : v.ownBlock = some b
      · rw [if_pos hvv]
        rcases hmine b hvv with h1 | h1
        · omega
        · rw [hgb] at h1; cases h1
      · rw [if_neg hvv]; exact he.ext.old b o hb hgb⟩
    lb := he.lb
    lw := fun j => by
      rw [get_cons]
      show (if j = i then true else g.lw j) = _
      by_cases hji : j = i
      · subst hji; simp
      · rw [if_neg hji, if_neg (fun e => hji e.symm)]; exact he.lw j
    ln := fun j o hj => by
      rw [get_cons] at hj
      show (if j = i then rows.length else g.ln j) = _
      by_cases hji : j = i
      · subst hji; rw [if_pos rfl] at hj; injection hj with hj; subst hj; simp
      · rw [if_neg (fun e => hji e.symm)] at hj; rw [if_neg hji]; exact he.ln j o hj
    boxes := fun j cs hj hcj => by
      obtain ⟨vs2, ty, h1, h2, h3, h4, h5⟩ := he.boxes j cs hj hcj
      refine ⟨vs2, ty, ?_, h2, fun q x u hx hu => ⟨hAR (h3 q x u hx hu).1, (h3 q x u hx hu).2⟩, h4, fun o => ?_⟩
      · exact (hgrow.block _ (block_lt h1) (fun e => hnbx j cs hj hcj e.symm)).trans h1
      · show rowm m v (vis i vs) (g.gb j) o = none
        unfold rowm
        rw [if_neg (hnbx j cs hj hcj)]; exact h5 o
    inj := he.inj
    owns := fun j o hj => by
      rw [get_cons] at hj
      by_cases hji : j = i
      · subst hji
        rw [if_pos rfl] at hj; injection hj with hj; subst hj
        have hgo : (g.setO j v rows.length).go j = v := by simp [Gh.setO]
        rw [hgo]
        refine ⟨vs, ho, hr, hc.mono hext, fun b hb => ⟨fun k => ?_, fun q cs hq hcq => fun e => hnbx q cs hq hcq (by rw [hb]; exact congrArg some e.symm), hmine b hb⟩⟩
        unfold rowm; rw [if_pos hb]
      · rw [if_neg (fun e => hji e.symm)] at hj
        have hgo : (g.setO i v rows.length).go j = g.go j := by simp [Gh.setO, hji]
        rw [hgo]
        obtain ⟨vs2, h1, h2, h3, h4⟩ := he.owns j o hj
        refine ⟨vs2, h1.kept hgrow ?_, h2, h3.mono hext, fun b hb => ⟨fun k => ?_, (h4 b hb).2⟩⟩
        · cases hb : (g.go j).ownBlock with
          | none => exact .inl rfl
          | some b => exact .inr fun e => hne j o hj hji b hb e.symm
        · unfold rowm
          rw [if_neg (hne j o hj hji b hb)]; exact (h4 b hb).1 k
    apart := fun j k oj ok hj hk hjk b hb => by
      rw [get_cons] at hj hk
      have hgo : ∀ q, (g.setO i v rows.length).go q = if q = i then v else g.go q := fun q => rfl
      rw [hgo] at hb ⊢
      by_cases hji : j = i
      · subst hji
        rw [if_pos rfl] at hb
        rw [if_neg (fun e => hjk e.symm)]
        rw [if_neg hjk] at hk
        intro hb2
        exact hne k ok hk (fun e => hjk e.symm) b hb2 hb
      · rw [if_neg hji] at hb
        rw [if_neg (fun e => hji e.symm)] at hj
        by_cases hki : k = i
        · subst hki; rw [if_pos rfl]; exact hne j oj hj hji b hb
        · rw [if_neg hki]
          rw [if_neg (fun e => hki e.symm)] at hk
          exact he.apart j k oj ok hj hk hjk b hb
    pin := fun j o hj hj2 => by
      rw [get_cons] at hj
      show (if j = i then v else g.go j) = _
      by_cases hji : i = j
      · subst hji; rw [hp] at hj2; cases hj2
      · rw [if_neg hji] at hj; rw [if_neg (fun e => hji e.symm)]; exact he.pin j o hj hj2
    pinb := he.pinb
    rs := he.rsF (fun k => v.ownBlock = some k ∧ k < w.heap.size) (fun j R _ hj => ⟨hj, rfl, rfl⟩) (fun j cs _ hj _ => ⟨rfl, cs, hj⟩) (fun k hk => by
      rcases hcase with ⟨o', us, hget, hvb', _⟩ | ⟨hf, _⟩
      · exact .inr ⟨i, o', hget, hvb' ▸ hk.1⟩
      · have := hf k hk.1; omega) (fun k hk hn => hgrow.block k hk (fun e => hn ⟨e.symm, hk⟩)) hext (fun b hb hn h o => by
      unfold rowm
      rw [if_neg (fun e => hn ⟨e, hb⟩)]; exact h o) (fun j cs hj hcj => .inl ⟨j, cs, hj, hcj, rfl⟩) (fun j o hj b hb => by
      rw [get_cons] at hj
      have hgo : ∀ q, (g.setO i v rows.length).go q = if q = i then v else g.go q := fun q => rfl
      rw [hgo] at hb
      by_cases hji : j = i
      · rw [if_pos hji] at hb
        rcases hcase with ⟨o', us, hget, hvb', _⟩ | ⟨hf, _⟩
        · exact .inl ⟨i, o', hget, hvb' ▸ hb⟩
        · exact .inr (.inl (hf b hb))
      · rw [if_neg hji] at hb
        rw [if_neg (fun e => hji e.symm)] at hj
        exact .inl ⟨j, o, hj, hb⟩) }, hext⟩
end

section
variable {P : Program} {N : Nat} {Q : Exit → St → Prop} {ops : Array Oper} {rest : List Oper} {o : Oper} {tm : List (Nat × A)} {bx : List (Nat × List A)} {ow : List (Nat × Own)}
/-- a slot without a row: a row of none -/
theorem weak_own0 (e sz : Nat) {s i : Nat} (hs : get tm s = some (.t (.v (.slice none 0 0)))) (hi : get ow i = none) (hp : Nat.ble 2000 i = false := by rfl) : Weak N ⟨tm, bx, ow⟩ ⟨(s, .own i 0) :: tm, bx, (i, ⟨e, sz, []⟩) :: ow⟩ := .mk fun C a w ⟨m, g, hr⟩ => by
  have he := hr.env
  have hv : a.eval (.tmp s) = .slice none 0 0 := tr_v (show TR m (.v (.slice none 0 0)) _ from hr.tmps s _ hs)
  obtain ⟨h1, h2⟩ := he.setO (hp := hp) (w' := w) (i := i) (v := .slice none 0 0) (e := e) (sz := sz) (rows := []) (vs := []) (.of (World.ownsRow_nil w 0 e sz)) (fun r h => by cases h) ⟨rfl, fun j t v h => by simp at h⟩ (.inr hi) (.inr ⟨fun b hb => (by cases hb), Lo.refl w⟩)
  have hlw : g.lw i = false := by rw [he.lw, hi]; rfl
  refine ⟨_, _, h1, hr.size, hr.defers, fun s' x hx => ?_⟩
  rw [get_cons] at hx
  split at hx
  · rename_i e'; subst e'; injection hx with hx; subst hx
    exact ⟨by simp [Gh.setO], by simp [Gh.setO], ⟨none, 0, hv⟩, fun _ => by simp [Gh.setO, hv]⟩
  · exact (hr.tmps s' x hx).setO h2 (.inl hlw)
/-- a box's cell without a row: a row of none -/
theorem weak_own0_bx (e sz : Nat) {i j q : Nat} {cs : List A} (hb : get bx i = some cs) (hs : cs[j]? = some (.t (.v (.slice none 0 0)))) (hi : get ow q = none) (hp : Nat.ble 2000 q = false := by rfl) (hw : wnB i = false := by rfl) (hch : chB i = false := by rfl) : Weak N ⟨tm, bx, ow⟩ ⟨tm, (i, cs.set j (.own q 0)) :: bx, (q, ⟨e, sz, []⟩) :: ow⟩ := .mk fun C a w ⟨m, g, hr⟩ => by
  have he := hr.env
  obtain ⟨h1, h2⟩ := he.setO (hp := hp) (w' := w) (i := q) (v := .slice none 0 0) (e := e) (sz := sz) (rows := []) (vs := []) (.of (World.ownsRow_nil w 0 e sz)) (fun r h => by cases h) ⟨rfl, fun j t v h => by simp at h⟩ (.inr hi) (.inr ⟨fun b hb => (by cases hb), Lo.refl w⟩)
  have hlw : g.lw q = false := by rw [he.lw, hi]; rfl
  obtain ⟨vs, ty, h3, h4, h5, h6, h7⟩ := h1.boxes i cs hb hch
  have hjl : j < cs.length := (List.getElem?_eq_some_iff.1 hs).1
  have hcells : ACells (rowm m (.slice none 0 0) (vis q [])) (g.setO q (.slice none 0 0) 0) (cs.set j (.own q 0)) vs.toList := by
    refine ⟨by simp; exact h4.2.1 hw hch, fun k x u hx hu => ?_⟩
    rw [List.getElem?_set] at hx
    by_cases hjk : j = k
    · subst hjk
      rw [if_pos rfl, if_pos hjl] at hx
      injection hx with hx; subst hx
      obtain ⟨h8, h9⟩ := h5 j _ u hs (by simpa using hu)
      have hu' : u = .slice none 0 0 := tr_v (show TR _ (.v (.slice none 0 0)) _ from h8)
      exact ⟨⟨by simp [Gh.setO], by simp [Gh.setO], ⟨none, 0, hu'⟩, fun _ => by simp [Gh.setO, hu']⟩, h9⟩
    · rw [if_neg hjk] at hx
      exact h5 k x u hx (by simpa using hu)
  have h10 := h1.setAt hb (vs' := vs) ⟨rfl, rfl, rfl, Nat.le_refl _, fun _ _ _ => rfl⟩ h3 hcells hw hch
  exact ⟨_, _, h10, hr.size, hr.defers, fun s x hx => (hr.tmps s x hx).setO h2 (.inl hlw)⟩
/-- an append to a row of the call's own -/
theorem sops_append {t e sz by_ : Nat} {x z : Operand} {i n d : Nat} {y' : A} {rows rows2 : List (List T)} (hg : o.guard = none) (ho : o.op = .call { callee := .builtin .append, args := #[x, z], argTypes := #[t, t] }) (hd : o.dst = some d) (hN : Nat.blt d N = true)
    (hx : evA tm x = some (.own i n)) (hi : get ow i = some ⟨e, sz, rows⟩) (hn : n = rows.length) (hz : evA tm z = some y') (hz' : Vw ow y' (.sl sz rows2)) (hT : sliceE P t = some (e, sz, by_))
    (hb : (rows.length + rows2.length) * by_ ≤ 140737488355328) (hm : rows.length + rows2.length ≤ maxLen)
    (h : SOps P N ops Q rest ⟨(d, .own i (rows ++ rows2).length) :: tm, bx, (i, ⟨e, sz, rows ++ rows2⟩) :: ow⟩) (hp : Nat.ble 2000 i = false := by rfl) : SOps P N ops Q (o :: rest) ⟨tm, bx, ow⟩ := by
  refine sops_run (.free hg rfl) (fun C a w m g hr => ?_) h
  have he := hr.env
  obtain ⟨i', zv, hu, hi', hzz, h4, h5, h6, h7⟩ := sliceE_spec hT
  obtain ⟨hlw, _, hAx, hgo⟩ := hr.ev hx
  have hln := he.ln i _ hi
  have hvx := hgo (by rw [hln]; exact hn)
  have hvz : TR m (.sl sz rows2) (a.eval z) := hz'.ok he (hr.ev hz)
  obtain ⟨vs, ho1, hrl, hc, hbk⟩ := he.owns i _ hi
  dsimp only at ho1 hrl hc hbk
  have hrl2 : ∀ r ∈ rows2, r.length = sz := by generalize a.eval z = vz at hvz; cases hvz with | sl _ _ A b off cap u hc hm' hA hr hu' ht => exact hr
  have hform : ∃ A cap, a.eval z = .slice A rows2.length cap := by generalize a.eval z = vz at hvz; cases hvz with | sl _ _ A b off cap => exact ⟨A, cap, rfl⟩
  obtain ⟨Az, capz, hvv⟩ := hform
  have hexec : ∀ v' w', (Builtin.append_ #[t, t] o.type #[a.eval x, a.eval z]).run P w = .ok v' w' → (execOp a.eval o).run P w = .ok (.value v') w' := fun v' w' hh => by
    simp only [execOp, ho, resolve, invoke, builtin, Sem.run_bind, Sem.run_pure, Result.andThen_ok, List.map_toArray, List.map_cons, List.map_nil, hh]
  rw [hd]
  have hdN := Nat.lt_of_succ_le (Nat.le_of_ble_eq_true hN)
  rcases Nat.eq_zero_or_pos rows2.length with h0 | h0
  · have hr0 : rows2 = [] := List.eq_nil_of_length_eq_zero h0
    subst hr0
    obtain ⟨A, c, hA⟩ := hAx
    have hnc : n ≤ c := by
      obtain ⟨_, hcase⟩ := ho1
      rcases hcase with ⟨e1, e2⟩ | ⟨q, cap, cur, e1, _, _, e2, _⟩
      · omega
      · rw [← hvx, hA] at e1; injection e1 with e3 e4 e5; omega
    refine ⟨a.eval x, w, hexec _ _ (by rw [hvv, hA]; exact run_append_nothing (P := P) (w := w) t o.type e i' hu hi' A Az n c capz hnc), ?_⟩
    have hrel : Rel C N ⟨(d, .own i rows.length) :: tm, bx, ow⟩ (a.put (some d) (a.eval x)) w := ⟨m, g, hr.put he (fun x v h => h) hdN (by subst hn; exact hr.ev hx)⟩
    rw [List.append_nil]
    obtain ⟨m1, g1, hr1⟩ := hrel
    refine ⟨m1, g1, hr1.env.same (fun j => rfl) (fun j => ?_), hr1.size, hr1.defers, hr1.tmps⟩
    rw [get_cons]
    split
    · rename_i e'; subst e'; exact hi.symm
    · rfl
  · obtain ⟨b, off, us, rfl, hcu, hlu, hcell⟩ := TR.flat (hvv ▸ hvz) h0 h7
    obtain ⟨v', w', hrun, hown, hcase⟩ := run_append_own3 (P := P) w 0 t o.type e i' zv sz by_ hu hi' hzz h4 h5 h6 h7 (g.go i) rows.length vs ho1 ⟨b, off, none⟩ rows2.length capz us hlu (fun j u hj => by rw [addr_add]; exact he.sub _ _ _ (hcell j u hj)) hcu.one hm hb (Nat.zero_le _)
    refine ⟨v', w', hexec _ _ (by rw [hvv, hvx]; exact hrun), ?_⟩
    obtain ⟨h8, h9⟩ := he.setO (hp := hp) (i := i) (v := v') (e := e) (sz := sz) (rows := rows ++ rows2) (vs := vs ++ us) (by rw [List.length_append]; exact hown) (fun r hr' => by
        rcases List.mem_append.1 hr' with hr' | hr'
        · exact hrl r hr'
        · exact hrl2 r hr') (by rw [List.flatten_append]; exact hc.app hcu) (.inl ⟨_, hi, by simp; omega⟩) (by
        rcases hcase with ⟨e1, e2⟩ | hf
        · exact .inl ⟨_, vis i vs, hi, e1, e2, vis_pre fun k u hk => by rw [List.getElem?_append_left (List.getElem?_eq_some_iff.1 hk).1]; exact hk, fun b hb k => (hbk b hb).1 k⟩
        · exact .inr hf)
    refine ⟨_, _, hr.put h8 (fun x u h => h.setO h9 (.inr (by rw [hln]; simp; omega))) hdN ?_⟩
    refine ⟨by simp [Gh.setO], by simp [Gh.setO], ?_, fun _ => by simp [Gh.setO]⟩
    obtain ⟨_, hq⟩ := hown
    rcases hq with ⟨rfl, e2⟩ | ⟨q, cap, cur, rfl, _⟩
    · omega
    · exact ⟨some ⟨q, 0, none⟩, cap, by rw [List.length_append]⟩
/-- a literal of none: a row of the call's own -/
theorem sops_build0 {t e sz by_ d : Nat} (hg : GuardIs ops tm o true) (ho : o.op = .buildSlice t 0 #[]) (hd : o.dst = some d) (hN : Nat.blt d N = true) (hT : sliceE P t = some (e, sz, by_)) (hi : get ow d = none)
    (h : SOps P N ops Q rest ⟨(d, .own d 0) :: tm, bx, (d, ⟨e, sz, []⟩) :: ow⟩) (hp : Nat.ble 2000 d = false := by rfl) : SOps P N ops Q (o :: rest) ⟨tm, bx, ow⟩ := by
  refine sops_run hg (fun C a w m g hr => ?_) h
  have he := hr.env
  obtain ⟨i', zv, hu, hi', _⟩ := sliceE_spec hT
  have hlw : g.lw d = false := by rw [he.lw, hi]; rfl
  refine ⟨.slice (some ⟨w.heap.size, 0, none⟩) 0 0, w.alloc (.cells #[] e), ?_, ?_⟩
  · simp [execOp, ho, Instr.buildSlice, run_underlying hu, sizeOf, typeInfo, hi', Instr.fill, newRow]
    congr 2
    exact Array.eq_empty_of_size_eq_zero (by simp)
  · obtain ⟨h8, h9⟩ := he.setO (hp := hp) (w' := w.alloc (.cells #[] e)) (i := d) (v := .slice (some ⟨w.heap.size, 0, none⟩) 0 0) (e := e) (sz := sz) (rows := []) (vs := []) (.of (World.ownsRow_made w #[] 0 (Nat.zero_le _) (Nat.zero_le _) (by simp))) (fun r h => by cases h) ⟨rfl, fun j t v h => by simp at h⟩ (.inr hi) (.inr ⟨fun b hb => by injection hb with hb; subst hb; exact Nat.le_refl _, (Lo.refl w).alloc _⟩)
    rw [hd]
    exact ⟨_, _, hr.put h8 (fun x u h => h.setO h9 (.inl hlw)) (Nat.lt_of_succ_le (Nat.le_of_ble_eq_true hN)) ⟨by simp [Gh.setO], by simp [Gh.setO], ⟨_, _, rfl⟩, fun _ => by simp [Gh.setO]⟩⟩
/-- an append onto nil: a row of the call's own -/
theorem sops_append_nil {t e sz by_ : Nat} {x z : Operand} {d : Nat} {y' : A} {rows2 : List (List T)} (hg : o.guard = none) (ho : o.op = .call { callee := .builtin .append, args := #[x, z], argTypes := #[t, t] }) (hd : o.dst = some d) (hN : Nat.blt d N = true)
    (hx : evA tm x = some (.t (.v (.slice none 0 0)))) (hi : get ow d = none) (hz : evA tm z = some y') (hz' : Vw ow y' (.sl sz rows2)) (hT : sliceE P t = some (e, sz, by_))
    (hb : rows2.length * by_ ≤ 140737488355328) (hm : rows2.length ≤ maxLen)
    (h : SOps P N ops Q rest ⟨(d, .own d rows2.length) :: tm, bx, (d, ⟨e, sz, rows2⟩) :: ow⟩) (hp : Nat.ble 2000 d = false := by rfl) : SOps P N ops Q (o :: rest) ⟨tm, bx, ow⟩ := by
  refine sops_run (.free hg rfl) (fun C a w m g hr => ?_) h
  have he := hr.env
  obtain ⟨i', zv, hu, hi', hzz, h4, h5, h6, h7⟩ := sliceE_spec hT
  have hvx := tr_v (show TR m (.v (.slice none 0 0)) _ from hr.ev hx)
  have hvz : TR m (.sl sz rows2) (a.eval z) := hz'.ok he (hr.ev hz)
  have hrl2 : ∀ r ∈ rows2, r.length = sz := by generalize a.eval z = vz at hvz; cases hvz with | sl _ _ A b off cap u hc hm' hA hr hu' ht => exact hr
  have hform : ∃ A cap, a.eval z = .slice A rows2.length cap := by generalize a.eval z = vz at hvz; cases hvz with | sl _ _ A b off cap => exact ⟨A, cap, rfl⟩
  obtain ⟨Az, capz, hvv⟩ := hform
  have hexec : ∀ v' w', (Builtin.append_ #[t, t] o.type #[a.eval x, a.eval z]).run P w = .ok v' w' → (execOp a.eval o).run P w = .ok (.value v') w' := fun v' w' hh => by
    simp only [execOp, ho, resolve, invoke, builtin, Sem.run_bind, Sem.run_pure, Result.andThen_ok, List.map_toArray, List.map_cons, List.map_nil, hh]
  have hlw : g.lw d = false := by rw [he.lw, hi]; rfl
  rw [hd]
  have hdN := Nat.lt_of_succ_le (Nat.le_of_ble_eq_true hN)
  rcases Nat.eq_zero_or_pos rows2.length with h0 | h0
  · have hr0 : rows2 = [] := List.eq_nil_of_length_eq_zero h0
    subst hr0
    refine ⟨.slice none 0 0, w, hexec _ _ (by rw [hvv, hvx]; exact run_append_nothing (P := P) (w := w) t o.type e i' hu hi' none Az 0 0 capz (Nat.le_refl _)), ?_⟩
    obtain ⟨h8, h9⟩ := he.setO (hp := hp) (w' := w) (i := d) (v := .slice none 0 0) (e := e) (sz := sz) (rows := []) (vs := []) (.of (World.ownsRow_nil w 0 e sz)) (fun r h => by cases h) ⟨rfl, fun j t v h => by simp at h⟩ (.inr hi) (.inr ⟨fun b hb => (by cases hb), Lo.refl w⟩)
    exact ⟨_, _, hr.put h8 (fun x u h => h.setO h9 (.inl hlw)) hdN ⟨by simp [Gh.setO], by simp [Gh.setO], ⟨_, _, rfl⟩, fun _ => by simp [Gh.setO]⟩⟩
  · obtain ⟨b, off, us, rfl, hcu, hlu, hcell⟩ := TR.flat (hvv ▸ hvz) h0 h7
    obtain ⟨v', w', hrun, hown, hcase⟩ := run_append_own3 (P := P) w w.heap.size t o.type e i' zv sz by_ hu hi' hzz h4 h5 h6 h7 (.slice none 0 0) 0 [] (.of (World.ownsRow_nil w w.heap.size e sz)) ⟨b, off, none⟩ rows2.length capz us hlu (fun j u hj => by rw [addr_add]; exact he.sub _ _ _ (hcell j u hj)) hcu.one (by omega) (by rw [Nat.zero_add]; exact hb) (Nat.le_refl _)
    rw [Nat.zero_add, List.nil_append] at hown
    have hlo : Lo w w' := by
      rcases hcase with ⟨_, e2⟩ | hf
      · exact Lo.of_grown e2
      · exact hf.2
    refine ⟨v', w', hexec _ _ (by rw [hvv, hvx]; exact hrun), ?_⟩
    obtain ⟨h8, h9⟩ := he.setO (hp := hp) (i := d) (v := v') (e := e) (sz := sz) (rows := rows2) (vs := us) (hown.low (Nat.zero_le _)) hrl2 hcu (.inr hi) (.inr ⟨fun b hb => (hown.lt b hb).1, hlo⟩)
    refine ⟨_, _, hr.put h8 (fun x u h => h.setO h9 (.inl hlw)) hdN ⟨by simp [Gh.setO], by simp [Gh.setO], ?_, fun _ => by simp [Gh.setO]⟩⟩
    obtain ⟨_, hq⟩ := hown
    rcases hq with ⟨rfl, e2⟩ | ⟨q, cap, cur, rfl, _⟩
    · omega
    · exact ⟨_, _, rfl⟩
end
section
variable {P : Program} {N : Nat} {Q : Exit → St → Prop} {bx : List (Nat × List A)} {ow : List (Nat × Own)} {o : Oper} {ρ : Operand → Option A}
theorem strI_zero {t : TypeId} {pl : List (Nat × Nat)} {zs : List Value} (h : strI P t = some (pl, zs)) : ∃ it z, P.info? t = some it ∧ it.zero = some z ∧ z.cells.toList = zs ∧ ∀ v ∈ zs, v.oneCell' = true := by
  unfold strI at h
  split at h
  · rename_i it fields h1 h2
    split at h
    · rename_i z places h3 h4
      cases hb : (z.cells.toList.all (·.oneCell')) with
      | false => rw [hb] at h; cases h
      | true =>
        rw [hb] at h
        injection h with h
        injection h with e1 e2
        exact ⟨it, z, h1, h3, e2, by rw [← e2]; exact List.all_eq_true.1 hb⟩
    · cases h
  · cases h
/-- a struct's variable, its zero in it -/
theorem sops_allocS {ops : Array Oper} {rest : List Oper} {tm : List (Nat × A)} {ty : TypeId} {d : Nat} {pl : List (Nat × Nat)} {zs : List Value} (hS : strI P ty = some (pl, zs)) (hg : GuardIs ops tm o true) (ho : o.op = .alloc ty) (hd : o.dst = some d) (hN : Nat.blt d N = true) (hi : get bx d = none)
    (h : SOps P N ops Q rest ⟨(d, .bp d 0) :: tm, (d, zs.map fun v => A.t (T.v v)) :: bx, ow⟩) (hp : Nat.ble 2000 d = false := by rfl) (hq : cellB d = true := by rfl) : SOps P N ops Q (o :: rest) ⟨tm, bx, ow⟩ := by
  obtain ⟨it, z, h1, h2, h3, h4⟩ := strI_zero hS
  refine sops_run hg (fun C a w m g hr => ?_) h
  have hlb : g.lb d = false := by rw [hr.env.lb, hi]; rfl
  refine ⟨.pointer (some ⟨w.heap.size, 0, none⟩), w.alloc (.cells z.cells ty), ?_, m, g.addB d w.heap.size, ?_⟩
  · simp [execOp, ho, Instr.alloc, zeroValue, typeInfo, h1, h2, newVar, newRow]
  · rw [hd]
    refine hr.put (hr.env.box hp hq hi (vs := z.cells) (ty := ty) ⟨by rw [h3]; simp, fun j x v hx hv => ?_⟩) (fun x v h => h.addB hlb) (Nat.lt_of_succ_le (Nat.le_of_ble_eq_true hN)) ⟨by simp [Gh.addB], by simp [Gh.addB]⟩
    rw [h3] at hv
    rw [List.getElem?_map, hv] at hx
    simp at hx; subst hx
    exact ⟨.v _, h4 v (List.mem_of_getElem? hv)⟩
theorem swp_draw_all {id : Nat} {l : List Oper} {tm : List (Nat × A)} (hm : P.follows .mixedOrders = true) (hB : regionB3 l.toArray l.length N = true) (hD : depsB l.toArray l.length = true)
    (h : SDraw P N bx ow l.toArray Q [] l tm) : SWp P N (.region id l.toArray true) Q ⟨tm, bx, ow⟩ :=
  swp_draw l.length hm hB hD (by rw [List.drop_length, List.take_length]; exact h)
theorem po_inc {t t2 : TypeId} {x y : Operand} {k : Nat} (ho : o.op = .binOp .add t x y t2) (hx : ρ x = some (.t (.v (.int .i64 (k : Int))))) (hy : ρ y = some (.t (.v (.int .i64 1)))) (h : (k : Int) + 1 ≤ 9223372036854775807) : PureOp P bx ow o ρ (.t (.v (.int .i64 ((k + 1 : Nat) : Int)))) :=
  po_arith ho hx hy (ar_add (wrap_i64 (by omega)) (by simp))
theorem map_at {α β : Type} {l : List α} {f : α → β} {k : Nat} (h : k < l.length) : (l.map f)[k]? = some (f l[k]) := by simp [h]
end
section
variable {P : Program} {N : Nat} {Q : Exit → St → Prop} {bx : List (Nat × List A)} {ow : List (Nat × Own)} {o : Oper} {ρ : Operand → Option A} {r : A}
theorem pix {t : TypeId} {x ix : Operand} {y : A} {sz k : Nat} {rows : List (List T)} {row : List T} {n : Int} {ik : IntKind} (ho : o.op = .indexAddr t x ix) (hT : sliceSz P t = some sz) (hx : ρ x = some y := by exact rfl) (hy : Vw ow y (.sl sz rows) := by first | exact .t _ | exact .own rfl (by first | rfl | assumption | (simp; done) | (simp; omega)) | exact .nil _ | exact .emp _ | exact .fn _ | exact .fr _ _) (hi : ρ ix = some (.t (.v (.int ik n))) := by exact rfl) (hn : n = (k : Int) := by first | rfl | omega) (hk : rows[k]? = some row := by first | rfl | assumption | exact map_at (by first | assumption | omega)) : PureOp P bx ow o ρ (.t (.tp row)) := po_index ho hx hy hi hT hn hk
theorem pln {x : Operand} {t : TypeId} {y : A} {sz : Nat} {rows : List (List T)} (ho : o.op = .call { callee := .builtin .len, args := #[x], argTypes := #[t] }) (hT : sliceSz P t = some sz) (hx : ρ x = some y := by exact rfl) (hy : Vw ow y (.sl sz rows) := by first | exact .t _ | exact .own rfl (by first | rfl | assumption | (simp; done) | (simp; omega)) | exact .nil _ | exact .emp _ | exact .fn _ | exact .fr _ _) : PureOp P bx ow o ρ (.t (.v (.int .i64 rows.length))) := po_len ho hx hy hT
theorem pkt {c x y : Operand} {b : Bool} (ho : o.op = .pick c x y) (hc : ρ c = some (.t (.v (.bool b))) := by exact rfl) (hb : b = true := by first | assumption | with_reducible rfl | decide | (simp only [decide_eq_true_eq, decide_eq_false_iff_not]; omega)) (hx : ρ x = some r := by exact rfl) : PureOp P bx ow o ρ r := po_pick_t ho hc hb hx
theorem pkf {c x y : Operand} {b : Bool} (ho : o.op = .pick c x y) (hc : ρ c = some (.t (.v (.bool b))) := by exact rfl) (hb : b = false := by first | assumption | with_reducible rfl | decide | (simp only [decide_eq_true_eq, decide_eq_false_iff_not]; omega)) (hx : ρ y = some r := by exact rfl) : PureOp P bx ow o ρ r := po_pick_f ho hc hb hx
theorem pc {i : Nat} {x : Operand} {y : A} {t : T} {xs : List (Nat × Operand)} {ts : List (Nat × T)} (hl : Parts ow ρ xs ts) (h : ρ x = some y := by exact rfl) (hv : Vw ow y t := by first | exact .t _ | exact .own rfl (by first | rfl | assumption | (simp; done) | (simp; omega)) | exact .nil _ | exact .emp _ | exact .fn _ | exact .fr _ _) : Parts ow ρ ((i, x) :: xs) ((i, t) :: ts) := .cons h hv hl
theorem dc {sz i : Nat} {x : Operand} {y : A} {t : T} {xs : List (Nat × Operand)} {rows : List (List T)} (hl : DParts ow ρ sz (i + 1) xs rows) (h : ρ x = some y := by exact rfl) (hv : Vw ow y t := by first | exact .t _ | exact .own rfl (by first | rfl | assumption | (simp; done) | (simp; omega)) | exact .nil _ | exact .emp _ | exact .fn _ | exact .fr _ _) (hk : t.okB = true := by exact rfl) (hn : Nat.beq t.cells.length sz = true := by exact rfl) : DParts ow ρ sz i ((i, x) :: xs) (t.cells :: rows) := .cons h hv hk hn hl
theorem pan {t e sz by_ : Nat} {x z : Operand} {y y' : A} {rows : List (List T)} (ho : o.op = .call { callee := .builtin .append, args := #[x, z], argTypes := #[t, t] }) (hT : sliceE P t = some (e, sz, by_)) (hg : o.guard = none := by exact rfl) (hx : ρ x = some y := by exact rfl) (hy : IsEmp y := by first | exact .emp | exact .nil) (hz : ρ z = some y' := by exact rfl) (hz' : Vw ow y' (.sl sz rows) := by first | exact .t _ | exact .own rfl (by first | rfl | assumption | (simp; done) | (simp; omega)) | exact .nil _ | exact .emp _ | exact .fn _ | exact .fr _ _) (hb : rows.length * by_ ≤ 140737488355328 := by first | assumption | (simp at *; omega)) (hm : rows.length ≤ maxLen := by first | assumption | (simp [maxLen] at *; omega)) : PureOp P bx ow o ρ (.t (.sl sz rows)) := po_append_new ho hg hx hy hz hz' hT hb hm
end
section
variable {P : Program} {N : Nat} {Q : Exit → St → Prop} {ops : Array Oper} {rest : List Oper} {o : Oper} {tm : List (Nat × A)} {bx : List (Nat × List A)} {ow : List (Nat × Own)}
theorem sap {t e sz by_ : Nat} {x z : Operand} {i n d : Nat} {y' : A} {rows rows2 : List (List T)} (ho : o.op = .call { callee := .builtin .append, args := #[x, z], argTypes := #[t, t] }) (hT : sliceE P t = some (e, sz, by_)) (h : SOps P N ops Q rest ⟨(d, .own i (rows ++ rows2).length) :: tm, bx, (i, ⟨e, sz, rows ++ rows2⟩) :: ow⟩) (hg : o.guard = none := by exact rfl) (hd : o.dst = some d := by exact rfl) (hN : Nat.blt d N = true := by exact rfl)
    (hx : evA tm x = some (.own i n) := by exact rfl) (hi : get ow i = some ⟨e, sz, rows⟩ := by exact rfl) (hn : n = rows.length := by first | rfl | (simp; done)) (hz : evA tm z = some y' := by exact rfl) (hz' : Vw ow y' (.sl sz rows2) := by first | exact .t _ | exact .own rfl (by first | rfl | assumption | (simp; done) | (simp; omega)) | exact .nil _ | exact .emp _ | exact .fn _ | exact .fr _ _) (hb : (rows.length + rows2.length) * by_ ≤ 140737488355328 := by first | assumption | (simp at *; omega)) (hm : rows.length + rows2.length ≤ maxLen := by first | assumption | (simp [maxLen] at *; omega)) (hp : Nat.ble 2000 i = false := by rfl) : SOps P N ops Q (o :: rest) ⟨tm, bx, ow⟩ := sops_append hg ho hd hN hx hi hn hz hz' hT hb hm h hp
theorem san {t e sz by_ : Nat} {x z : Operand} {d : Nat} {y' : A} {rows2 : List (List T)} (ho : o.op = .call { callee := .builtin .append, args := #[x, z], argTypes := #[t, t] }) (hT : sliceE P t = some (e, sz, by_)) (h : SOps P N ops Q rest ⟨(d, .own d rows2.length) :: tm, bx, (d, ⟨e, sz, rows2⟩) :: ow⟩) (hg : o.guard = none := by exact rfl) (hd : o.dst = some d := by exact rfl) (hN : Nat.blt d N = true := by exact rfl)
    (hx : evA tm x = some (.t (.v (.slice none 0 0))) := by exact rfl) (hi : get ow d = none := by exact rfl) (hz : evA tm z = some y' := by exact rfl) (hz' : Vw ow y' (.sl sz rows2) := by first | exact .t _ | exact .own rfl (by first | rfl | assumption | (simp; done) | (simp; omega)) | exact .nil _ | exact .emp _ | exact .fn _ | exact .fr _ _) (hb : rows2.length * by_ ≤ 140737488355328 := by first | assumption | (simp at *; omega)) (hm : rows2.length ≤ maxLen := by first | assumption | (simp [maxLen] at *; omega)) (hp : Nat.ble 2000 d = false := by rfl) : SOps P N ops Q (o :: rest) ⟨tm, bx, ow⟩ := sops_append_nil hg ho hd hN hx hi hz hz' hT hb hm h hp
end
end Go.Proofs.YtnclifgiakmmoaaGreat.Sim
