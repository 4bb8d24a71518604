/- A logic of states: rows of the call's own grow. -/
import Derived.Test.YtmjckopplkihlaaSimH
namespace Go.Proofs.Ytmjckopplkihlaa.Sim
set_option linter.unusedVariables false
set_option linter.unusedSimpArgs false
open Go.RowKit Mem

theorem run_append_own3 {P : Program} (w : World) (base : Nat) (t ty e : TypeId) (i : TypeInfo) (z : Value) (size bytes : Nat) (ht : P.underlying t = some (.slice e)) (hi : P.info? e = some i) (hz : i.zero = some z)
    (hsize : i.size = size) (hby : i.bytes = bytes) (hzs : z.cells.size = size) (hsz : 0 < size)
    (v : Value) (n : Nat) (xs : List Value) (hown : w.ownsRow base e size v n xs)
    (a : Addr) (m c : Nat) (news : List Value) (hl : news.length = m * size) (hnews : ∀ (j : Nat) u, news[j]? = some u → w.cell? (a.add j) = some u) (h1 : ∀ u ∈ news, u.oneCell' = true)
    (h63 : n + m ≤ maxLen) (hbytes : (n + m) * bytes ≤ 140737488355328) (hbase : base ≤ w.heap.size) :
    ∃ v' w', (Builtin.append_ #[t, t] ty #[v, .slice (some a) m c]).run P w = .ok v' w' ∧ w'.ownsRow base e size v' (n + m) (xs ++ news) ∧
      ((v'.ownBlock = v.ownBlock ∧ w.grownBy w' v.ownBlock) ∨ ((∀ g, v'.ownBlock = some g → w.heap.size ≤ g) ∧ Lo w w')) := by
  obtain ⟨v', w', hr, h2, h3, _⟩ := run_append_own (P := P) w base t ty e i z size bytes ht hi hz hsize hby hzs hsz v n xs hown a m c news hl hnews h1 h63 hbytes hbase
  refine ⟨v', w', hr, h2, ?_⟩
  obtain ⟨hxl, ⟨rfl, rfl⟩ | ⟨g, cap, cur, rfl, hbg, hg, hnc, hcm, hcs, htk⟩⟩ := hown
  · obtain ⟨v2, w2, hr2, h22, _⟩ := run_append_own (P := P) w w.heap.size t ty e i z size bytes ht hi hz hsize hby hzs hsz (.slice none 0 0) 0 xs ⟨hxl, .inl ⟨rfl, rfl⟩⟩ a m c news hl hnews h1 h63 hbytes (Nat.le_refl _)
    rw [hr] at hr2
    injection hr2 with e1 e2
    subst e1 e2
    exact .inr ⟨fun g hg => (h22.lt g hg).1, Lo.of_grown h3⟩
  · subst hsize
    by_cases hroom : n + m ≤ cap
    · have hfit : n * i.size + news.length ≤ cur.size := by rw [hl, hcs, ← Nat.add_mul]; exact Nat.mul_le_mul_right _ hroom
      have hr2 := run_append_room (P := P) w t ty e i ht hi g n cap cur hg a m c news hl hnews h1 hroom hfit
      rw [hr] at hr2
      injection hr2 with e1 e2
      subst e1
      exact .inl ⟨rfl, h3⟩
    · have holds : ∀ (j : Nat) u, xs[j]? = some u → w.cell? ((⟨g, 0, none⟩ : Addr).add j) = some u := World.ownsRow.cells (base := base) (e := e) (v := .slice (some ⟨g, 0, none⟩) n cap) (n := n) ⟨hxl, .inr ⟨g, cap, cur, rfl, hbg, hg, hnc, hcm, hcs, htk⟩⟩ rfl
      subst hby
      have hsmall : n + m ≤ 9223372036854775807 := by simp only [maxLen] at h63; omega
      have hr2 := run_append_grow (P := P) w t ty e i z ht hi hz ⟨g, 0, none⟩ n cap xs hxl holds a m c news hl hnews (by omega) (by omega) (growslice_fits (by omega) hbytes)
      rw [hr] at hr2
      injection hr2 with e1 e2
      subst e1 e2
      right
      refine ⟨fun g' hg' => ?_, ((Lo.refl w).drew).alloc _⟩
      simp [Value.ownBlock] at hg'
      omega

theorem EnvG.same {C : Ctx} {bx bx' : List (Nat × List A)} {ow ow' : List (Nat × Own)} {w : World} {m : Mm} {g : Gh} (he : EnvG C bx ow w m g) (h1 : ∀ i, get bx' i = get bx i) (h2 : ∀ i, get ow' i = get ow i) : EnvG C bx' ow' w m g where
  lo := he.lo
  sub := he.sub
  ext := he.ext
  lb := fun i => by rw [h1]; exact he.lb i
  lw := fun i => by rw [h2]; exact he.lw i
  ln := fun i o h => by rw [h2] at h; exact he.ln i o h
  boxes := fun i cs h => by rw [h1] at h; exact he.boxes i cs h
  inj := fun i j ci cj hi hj => by rw [h1] at hi hj; exact he.inj i j ci cj hi hj
  owns := fun i o h => by
    rw [h2] at h
    obtain ⟨vs, h3, h4, h5, h6⟩ := he.owns i o h
    exact ⟨vs, h3, h4, h5, fun b hb => ⟨(h6 b hb).1, fun j cs hj => by rw [h1] at hj; exact (h6 b hb).2 j cs hj⟩⟩
  apart := fun i j oi oj hi hj => by rw [h2] at hi hj; exact he.apart i j oi oj hi hj

def Gh.setO (g : Gh) (i : Nat) (v : Value) (n : Nat) : Gh := { g with go := fun j => if j = i then v else g.go j, ln := fun j => if j = i then n else g.ln j, lw := fun j => if j = i then true else g.lw j }
/-- memory that stays, with a row -/
def rowm (m : Mm) (v : Value) (vs : List Value) : Mm := fun b o => if v.ownBlock = some b then vs[o]? else m b o
section
variable {C : Ctx} {bx : List (Nat × List A)} {ow : List (Nat × Own)} {w w' : World} {m m' : Mm} {g : Gh}
theorem AR.setO {x : A} {u : Value} (h : AR m g x u) (hm : ∀ b o v, m b o = some v → m' b o = some v) {i n : Nat} {v : Value} (hi : g.lw i = false ∨ g.ln i < n) : AR m' (g.setO i v n) x u := by
  cases x with
  | t x => exact TR.mono hm h
  | bp j off => exact h
  | emp => exact h
  | own j k =>
    obtain ⟨h1, h2, h3, h4⟩ := h
    by_cases hji : j = i
    · subst hji
      rcases hi with hi | hi
      · rw [hi] at h1; cases h1
      · refine ⟨by simp [Gh.setO], by simp [Gh.setO]; omega, h3, fun e => ?_⟩
        simp [Gh.setO] at e; omega
    · exact ⟨by simp [Gh.setO, hji, h1], by simp [Gh.setO, hji, h2], h3, fun e => by simp [Gh.setO, hji] at e ⊢; exact h4 e⟩
/-- a row in a new block, or one that has grown in its own -/
theorem EnvG.setO (he : EnvG C bx ow w m g) {i : Nat} {v : Value} {e : TypeId} {sz : Nat} {rows : List (List T)} {vs : List Value} (ho : w'.ownsRow C.w0.heap.size e sz v rows.length vs) (hr : ∀ r ∈ rows, r.length = sz) (hc : CellsAre m rows.flatten vs)
    (hi : (∃ o, get ow i = some o ∧ o.rows.length < rows.length) ∨ get ow i = none)
    (hcase : ((∃ (o : Own) (us : List Value), get ow i = some o ∧ v.ownBlock = (g.go i).ownBlock ∧ w.grownBy w' (g.go i).ownBlock ∧ (∀ (k : Nat) u, us[k]? = some u → vs[k]? = some u) ∧ ∀ b, (g.go i).ownBlock = some b → ∀ k : Nat, m b k = us[k]?)) ∨ ((∀ b, v.ownBlock = some b → w.heap.size ≤ b) ∧ Lo w w')) :
    EnvG C bx ((i, ⟨e, sz, rows⟩) :: ow) w' (rowm m v vs) (g.setO i v rows.length) ∧ (∀ b o u, m b o = some u → rowm m v vs b o = some u) := by
  have hvb := ho.lt
  have hgrow : w.grownBy w' v.ownBlock := by
    rcases hcase with ⟨o, us, _, hb, hg, _⟩ | ⟨_, hl⟩
    · rw [hb]; exact hg
    · exact hl.grownBy _
  have hext : ∀ b o u, m b o = some u → rowm m v vs b o = some u := by
    intro b o u hu
    unfold rowm
    split
    · rename_i hb
      rcases hcase with ⟨o', us, hget, hvb', _, hpre, hus⟩ | ⟨hf, _⟩
      · rw [hb] at hvb'
        rw [hus b hvb'.symm] at hu
        exact hpre o u hu
      · have := he.sub.lt hu; have := hf b hb; omega
    · exact hu
  have hne : ∀ j oj, get ow j = some oj → j ≠ i → ∀ b, (g.go j).ownBlock = some b → v.ownBlock ≠ some b := by
    intro j oj hj hji b hb hv
    rcases hcase with ⟨o', us, hget, hvb', _⟩ | ⟨hf, _⟩
    · exact he.apart j i oj o' hj hget hji b hb (hvb' ▸ hv)
    · obtain ⟨vs2, h1, _⟩ := he.owns j oj hj
      have := (h1.lt b hb).2; have := hf b hv; omega
  have hnbx : ∀ j cs, get bx j = some cs → v.ownBlock ≠ some (g.gb j) := by
    intro j cs hj hv
    rcases hcase with ⟨o', us, hget, hvb', _⟩ | ⟨hf, _⟩
    · obtain ⟨vs2, _, _, _, h4⟩ := he.owns i o' hget
      exact (h4 _ (hvb' ▸ hv)).2 j cs hj rfl
    · obtain ⟨vs2, ty, h1, _⟩ := he.boxes j cs hj
      have := block_lt h1; have := hf _ hv; omega
  have hAR : ∀ {x : A} {u : Value}, AR m g x u → AR (rowm m v vs) (g.setO i v rows.length) x u := fun h => h.setO hext (by
    rcases hi with ⟨o, h1, h2⟩ | h1
    · right; rw [he.ln i o h1]; exact h2
    · left; rw [he.lw, h1]; rfl)
  refine ⟨{
    lo := he.lo.grown hgrow fun k hk => (hvb k hk).1
    sub := fun b o u hu => by
      unfold rowm at hu
      split at hu
      · rename_i hb
        have := ho.cells hb o u hu
        rwa [addr_add, Nat.zero_add] at this
      · rename_i hb
        have h1 := he.sub b o u hu
        rw [World.cell?_of_block (a := ⟨b, o, none⟩) (hgrow.block b (he.sub.lt hu) (fun e => hb e.symm))]; exact h1
    ext := ⟨fun b o u hu => hext b o u (he.ext.1 b o u hu), fun b o hb => by
      unfold rowm
      rw [if_neg (fun e => by have := (hvb b e).1; omega)]
      exact he.ext.2 b o hb⟩
    lb := he.lb
    lw := fun j => by
      rw [get_cons]
      show (if j = i then true else g.lw j) = _
      by_cases hji : j = i
      · subst hji; simp
      · rw [if_neg hji, if_neg (fun e => hji e.symm)]; exact he.lw j
    ln := fun j o hj => by
      rw [get_cons] at hj
      show (if j = i then rows.length else g.ln j) = _
      by_cases hji : j = i
      · subst hji; rw [if_pos rfl] at hj; injection hj with hj; subst hj; simp
      · rw [if_neg (fun e => hji e.symm)] at hj; rw [if_neg hji]; exact he.ln j o hj
    boxes := fun j cs hj => by
      obtain ⟨vs2, ty, h1, h2, h3, h4, h5⟩ := he.boxes j cs hj
      refine ⟨vs2, ty, ?_, h2, fun q x u hx hu => ⟨hAR (h3 q x u hx hu).1, (h3 q x u hx hu).2⟩, h4, fun o => ?_⟩
      · exact (hgrow.block _ (block_lt h1) (fun e => hnbx j cs hj e.symm)).trans h1
      · show rowm m v vs (g.gb j) o = none
        unfold rowm
        rw [if_neg (hnbx j cs hj)]; exact h5 o
    inj := he.inj
    owns := fun j o hj => by
      rw [get_cons] at hj
      by_cases hji : j = i
      · subst hji
        rw [if_pos rfl] at hj; injection hj with hj; subst hj
        have hgo : (g.setO j v rows.length).go j = v := by simp [Gh.setO]
        rw [hgo]
        refine ⟨vs, ho, hr, hc.mono hext, fun b hb => ⟨fun k => ?_, fun q cs hq => fun e => hnbx q cs hq (by rw [hb]; exact congrArg some e.symm)⟩⟩
        unfold rowm; rw [if_pos hb]
      · rw [if_neg (fun e => hji e.symm)] at hj
        have hgo : (g.setO i v rows.length).go j = g.go j := by simp [Gh.setO, hji]
        rw [hgo]
        obtain ⟨vs2, h1, h2, h3, h4⟩ := he.owns j o hj
        refine ⟨vs2, h1.kept hgrow ?_, h2, h3.mono hext, fun b hb => ⟨fun k => ?_, (h4 b hb).2⟩⟩
        · cases hb : (g.go j).ownBlock with
          | none => exact .inl rfl
          | some b => exact .inr fun e => hne j o hj hji b hb e.symm
        · unfold rowm
          rw [if_neg (hne j o hj hji b hb)]; exact (h4 b hb).1 k
    apart := fun j k oj ok hj hk hjk b hb => by
      rw [get_cons] at hj hk
      have hgo : ∀ q, (g.setO i v rows.length).go q = if q = i then v else g.go q := fun q => rfl
      rw [hgo] at hb ⊢
      by_cases hji : j = i
      · subst hji
        rw [if_pos rfl] at hb
        rw [if_neg (fun e => hjk e.symm)]
        rw [if_neg hjk] at hk
        intro hb2
        exact hne k ok hk (fun e => hjk e.symm) b hb2 hb
      · rw [if_neg hji] at hb
        rw [if_neg (fun e => hji e.symm)] at hj
        by_cases hki : k = i
        · subst hki; rw [if_pos rfl]; exact hne j oj hj hji b hb
        · rw [if_neg hki]
          rw [if_neg (fun e => hki e.symm)] at hk
          exact he.apart j k oj ok hj hk hjk b hb }, hext⟩
end

section
variable {P : Program} {N : Nat} {Q : Exit → St → Prop} {ops : Array Oper} {rest : List Oper} {o : Oper} {tm : List (Nat × A)} {bx : List (Nat × List A)} {ow : List (Nat × Own)}
/-- a slot without a row: a row of none -/
theorem weak_own0 (e sz : Nat) {s i : Nat} (hs : get tm s = some (.t (.v (.slice none 0 0)))) (hi : get ow i = none) : Weak N ⟨tm, bx, ow⟩ ⟨(s, .own i 0) :: tm, bx, (i, ⟨e, sz, []⟩) :: ow⟩ := .mk fun C a w ⟨m, g, hr⟩ => by
  have he := hr.env
  have hv : a.eval (.tmp s) = .slice none 0 0 := tr_v (show TR m (.v (.slice none 0 0)) _ from hr.tmps s _ hs)
  obtain ⟨h1, h2⟩ := he.setO (w' := w) (i := i) (v := .slice none 0 0) (e := e) (sz := sz) (rows := []) (vs := []) (World.ownsRow_nil w C.w0.heap.size e sz) (fun r h => by cases h) ⟨rfl, fun j t v h => by simp at h⟩ (.inr hi) (.inr ⟨fun b hb => (by cases hb), Lo.refl w⟩)
  have hlw : g.lw i = false := by rw [he.lw, hi]; rfl
  refine ⟨_, _, h1, hr.size, hr.defers, fun s' x hx => ?_⟩
  rw [get_cons] at hx
  split at hx
  · rename_i e'; subst e'; injection hx with hx; subst hx
    exact ⟨by simp [Gh.setO], by simp [Gh.setO], ⟨none, 0, hv⟩, fun _ => by simp [Gh.setO, hv]⟩
  · exact (hr.tmps s' x hx).setO h2 (.inl hlw)
/-- a box's cell without a row: a row of none -/
theorem weak_own0_bx (e sz : Nat) {i j q : Nat} {cs : List A} (hb : get bx i = some cs) (hs : cs[j]? = some (.t (.v (.slice none 0 0)))) (hi : get ow q = none) : Weak N ⟨tm, bx, ow⟩ ⟨tm, (i, cs.set j (.own q 0)) :: bx, (q, ⟨e, sz, []⟩) :: ow⟩ := .mk fun C a w ⟨m, g, hr⟩ => by
  have he := hr.env
  obtain ⟨h1, h2⟩ := he.setO (w' := w) (i := q) (v := .slice none 0 0) (e := e) (sz := sz) (rows := []) (vs := []) (World.ownsRow_nil w C.w0.heap.size e sz) (fun r h => by cases h) ⟨rfl, fun j t v h => by simp at h⟩ (.inr hi) (.inr ⟨fun b hb => (by cases hb), Lo.refl w⟩)
  have hlw : g.lw q = false := by rw [he.lw, hi]; rfl
  obtain ⟨vs, ty, h3, h4, h5, h6, h7⟩ := h1.boxes i cs hb
  have hjl : j < cs.length := (List.getElem?_eq_some_iff.1 hs).1
  have hcells : ACells (rowm m (.slice none 0 0) []) (g.setO q (.slice none 0 0) 0) (cs.set j (.own q 0)) vs.toList := by
    refine ⟨by simp; exact h4, fun k x u hx hu => ?_⟩
    rw [List.getElem?_set] at hx
    by_cases hjk : j = k
    · subst hjk
      rw [if_pos rfl, if_pos hjl] at hx
      injection hx with hx; subst hx
      obtain ⟨h8, h9⟩ := h5 j _ u hs (by simpa using hu)
      have hu' : u = .slice none 0 0 := tr_v (show TR _ (.v (.slice none 0 0)) _ from h8)
      exact ⟨⟨by simp [Gh.setO], by simp [Gh.setO], ⟨none, 0, hu'⟩, fun _ => by simp [Gh.setO, hu']⟩, h9⟩
    · rw [if_neg hjk] at hx
      exact h5 k x u hx (by simpa using hu)
  have h10 := h1.setB hb h3 (vs' := vs) hcells
  rw [show w.setRow ((g.setO q (.slice none 0 0) ([] : List (List T)).length).gb i) vs = w from setRow_self w (g.gb i) vs ty (0, 0) h3] at h10
  exact ⟨_, _, h10, hr.size, hr.defers, fun s x hx => (hr.tmps s x hx).setO h2 (.inl hlw)⟩
/-- an append to a row of the call's own -/
theorem sops_append {t e sz by_ : Nat} {x z : Operand} {i n d : Nat} {y' : A} {rows rows2 : List (List T)} (hg : o.guard = none) (ho : o.op = .call { callee := .builtin .append, args := #[x, z], argTypes := #[t, t] }) (hd : o.dst = some d) (hN : Nat.blt d N = true)
    (hx : evA tm x = some (.own i n)) (hi : get ow i = some ⟨e, sz, rows⟩) (hn : n = rows.length) (hz : evA tm z = some y') (hz' : Vw ow y' (.sl sz rows2)) (hT : sliceE P t = some (e, sz, by_))
    (hb : (rows.length + rows2.length) * by_ ≤ 140737488355328) (hm : rows.length + rows2.length ≤ maxLen)
    (h : SOps P N ops Q rest ⟨(d, .own i (rows ++ rows2).length) :: tm, bx, (i, ⟨e, sz, rows ++ rows2⟩) :: ow⟩) : SOps P N ops Q (o :: rest) ⟨tm, bx, ow⟩ := by
  refine sops_run (.free hg rfl) (fun C a w m g hr => ?_) h
  have he := hr.env
  obtain ⟨i', zv, hu, hi', hzz, h4, h5, h6, h7⟩ := sliceE_spec hT
  obtain ⟨hlw, _, hAx, hgo⟩ := hr.ev hx
  have hln := he.ln i _ hi
  have hvx := hgo (by rw [hln]; exact hn)
  have hvz : TR m (.sl sz rows2) (a.eval z) := hz'.ok he (hr.ev hz)
  obtain ⟨vs, ho1, hrl, hc, hbk⟩ := he.owns i _ hi
  dsimp only at ho1 hrl hc hbk
  have hrl2 : ∀ r ∈ rows2, r.length = sz := by generalize a.eval z = vz at hvz; cases hvz with | sl _ _ A b off cap u hc hm' hA hr hu' ht => exact hr
  have hform : ∃ A cap, a.eval z = .slice A rows2.length cap := by generalize a.eval z = vz at hvz; cases hvz with | sl _ _ A b off cap => exact ⟨A, cap, rfl⟩
  obtain ⟨Az, capz, hvv⟩ := hform
  have hexec : ∀ v' w', (Builtin.append_ #[t, t] o.type #[a.eval x, a.eval z]).run P w = .ok v' w' → (execOp a.eval o).run P w = .ok (.value v') w' := fun v' w' hh => by
    simp only [execOp, ho, resolve, invoke, builtin, Sem.run_bind, Sem.run_pure, Result.andThen_ok, List.map_toArray, List.map_cons, List.map_nil, hh]
  rw [hd]
  have hdN := Nat.lt_of_succ_le (Nat.le_of_ble_eq_true hN)
  rcases Nat.eq_zero_or_pos rows2.length with h0 | h0
  · have hr0 : rows2 = [] := List.eq_nil_of_length_eq_zero h0
    subst hr0
    obtain ⟨A, c, hA⟩ := hAx
    have hnc : n ≤ c := by
      obtain ⟨_, hcase⟩ := ho1
      rcases hcase with ⟨e1, e2⟩ | ⟨q, cap, cur, e1, _, _, e2, _⟩
      · omega
      · rw [← hvx, hA] at e1; injection e1 with e3 e4 e5; omega
    refine ⟨a.eval x, w, hexec _ _ (by rw [hvv, hA]; exact run_append_nothing (P := P) (w := w) t o.type e i' hu hi' A Az n c capz hnc), ?_⟩
    have hrel : Rel C N ⟨(d, .own i rows.length) :: tm, bx, ow⟩ (a.put (some d) (a.eval x)) w := ⟨m, g, hr.put he (fun x v h => h) hdN (by subst hn; exact hr.ev hx)⟩
    rw [List.append_nil]
    obtain ⟨m1, g1, hr1⟩ := hrel
    refine ⟨m1, g1, hr1.env.same (fun j => rfl) (fun j => ?_), hr1.size, hr1.defers, hr1.tmps⟩
    rw [get_cons]
    split
    · rename_i e'; subst e'; exact hi.symm
    · rfl
  · obtain ⟨b, off, us, rfl, hcu, hlu, hcell⟩ := TR.flat (hvv ▸ hvz) h0 h7
    obtain ⟨v', w', hrun, hown, hcase⟩ := run_append_own3 (P := P) w C.w0.heap.size t o.type e i' zv sz by_ hu hi' hzz h4 h5 h6 h7 (g.go i) rows.length vs ho1 ⟨b, off, none⟩ rows2.length capz us hlu (fun j u hj => by rw [addr_add]; exact he.sub _ _ _ (hcell j u hj)) hcu.one hm hb he.lo.size
    refine ⟨v', w', hexec _ _ (by rw [hvv, hvx]; exact hrun), ?_⟩
    obtain ⟨h8, h9⟩ := he.setO (i := i) (v := v') (e := e) (sz := sz) (rows := rows ++ rows2) (vs := vs ++ us) (by rw [List.length_append]; exact hown) (fun r hr' => by
        rcases List.mem_append.1 hr' with hr' | hr'
        · exact hrl r hr'
        · exact hrl2 r hr') (by rw [List.flatten_append]; exact hc.app hcu) (.inl ⟨_, hi, by simp; omega⟩) (by
        rcases hcase with ⟨e1, e2⟩ | hf
        · exact .inl ⟨_, vs, hi, e1, e2, fun k u hk => by rw [List.getElem?_append_left (List.getElem?_eq_some_iff.1 hk).1]; exact hk, fun b hb k => (hbk b hb).1 k⟩
        · exact .inr hf)
    refine ⟨_, _, hr.put h8 (fun x u h => h.setO h9 (.inr (by rw [hln]; simp; omega))) hdN ?_⟩
    refine ⟨by simp [Gh.setO], by simp [Gh.setO], ?_, fun _ => by simp [Gh.setO]⟩
    obtain ⟨_, hq⟩ := hown
    rcases hq with ⟨rfl, e2⟩ | ⟨q, cap, cur, rfl, _⟩
    · omega
    · exact ⟨some ⟨q, 0, none⟩, cap, by rw [List.length_append]⟩
/-- a literal of none: a row of the call's own -/
theorem sops_build0 {t e sz by_ d : Nat} (hg : GuardIs ops tm o true) (ho : o.op = .buildSlice t 0 #[]) (hd : o.dst = some d) (hN : Nat.blt d N = true) (hT : sliceE P t = some (e, sz, by_)) (hi : get ow d = none)
    (h : SOps P N ops Q rest ⟨(d, .own d 0) :: tm, bx, (d, ⟨e, sz, []⟩) :: ow⟩) : SOps P N ops Q (o :: rest) ⟨tm, bx, ow⟩ := by
  refine sops_run hg (fun C a w m g hr => ?_) h
  have he := hr.env
  obtain ⟨i', zv, hu, hi', _⟩ := sliceE_spec hT
  have hlw : g.lw d = false := by rw [he.lw, hi]; rfl
  refine ⟨.slice (some ⟨w.heap.size, 0, none⟩) 0 0, w.alloc (.cells #[] e), ?_, ?_⟩
  · simp [execOp, ho, Instr.buildSlice, run_underlying hu, sizeOf, typeInfo, hi', Instr.fill, newRow]
    congr 2
    exact Array.eq_empty_of_size_eq_zero (by simp)
  · obtain ⟨h8, h9⟩ := he.setO (w' := w.alloc (.cells #[] e)) (i := d) (v := .slice (some ⟨w.heap.size, 0, none⟩) 0 0) (e := e) (sz := sz) (rows := []) (vs := []) (World.ownsRow_made w #[] 0 he.lo.size (Nat.zero_le _) (by simp)) (fun r h => by cases h) ⟨rfl, fun j t v h => by simp at h⟩ (.inr hi) (.inr ⟨fun b hb => by injection hb with hb; subst hb; exact Nat.le_refl _, (Lo.refl w).alloc _⟩)
    rw [hd]
    exact ⟨_, _, hr.put h8 (fun x u h => h.setO h9 (.inl hlw)) (Nat.lt_of_succ_le (Nat.le_of_ble_eq_true hN)) ⟨by simp [Gh.setO], by simp [Gh.setO], ⟨_, _, rfl⟩, fun _ => by simp [Gh.setO]⟩⟩
/-- an append onto nil: a row of the call's own -/
theorem sops_append_nil {t e sz by_ : Nat} {x z : Operand} {d : Nat} {y' : A} {rows2 : List (List T)} (hg : o.guard = none) (ho : o.op = .call { callee := .builtin .append, args := #[x, z], argTypes := #[t, t] }) (hd : o.dst = some d) (hN : Nat.blt d N = true)
    (hx : evA tm x = some (.t (.v (.slice none 0 0)))) (hi : get ow d = none) (hz : evA tm z = some y') (hz' : Vw ow y' (.sl sz rows2)) (hT : sliceE P t = some (e, sz, by_))
    (hb : rows2.length * by_ ≤ 140737488355328) (hm : rows2.length ≤ maxLen)
    (h : SOps P N ops Q rest ⟨(d, .own d rows2.length) :: tm, bx, (d, ⟨e, sz, rows2⟩) :: ow⟩) : SOps P N ops Q (o :: rest) ⟨tm, bx, ow⟩ := by
  refine sops_run (.free hg rfl) (fun C a w m g hr => ?_) h
  have he := hr.env
  obtain ⟨i', zv, hu, hi', hzz, h4, h5, h6, h7⟩ := sliceE_spec hT
  have hvx := tr_v (show TR m (.v (.slice none 0 0)) _ from hr.ev hx)
  have hvz : TR m (.sl sz rows2) (a.eval z) := hz'.ok he (hr.ev hz)
  have hrl2 : ∀ r ∈ rows2, r.length = sz := by generalize a.eval z = vz at hvz; cases hvz with | sl _ _ A b off cap u hc hm' hA hr hu' ht => exact hr
  have hform : ∃ A cap, a.eval z = .slice A rows2.length cap := by generalize a.eval z = vz at hvz; cases hvz with | sl _ _ A b off cap => exact ⟨A, cap, rfl⟩
  obtain ⟨Az, capz, hvv⟩ := hform
  have hexec : ∀ v' w', (Builtin.append_ #[t, t] o.type #[a.eval x, a.eval z]).run P w = .ok v' w' → (execOp a.eval o).run P w = .ok (.value v') w' := fun v' w' hh => by
    simp only [execOp, ho, resolve, invoke, builtin, Sem.run_bind, Sem.run_pure, Result.andThen_ok, List.map_toArray, List.map_cons, List.map_nil, hh]
  have hlw : g.lw d = false := by rw [he.lw, hi]; rfl
  rw [hd]
  have hdN := Nat.lt_of_succ_le (Nat.le_of_ble_eq_true hN)
  rcases Nat.eq_zero_or_pos rows2.length with h0 | h0
  · have hr0 : rows2 = [] := List.eq_nil_of_length_eq_zero h0
    subst hr0
    refine ⟨.slice none 0 0, w, hexec _ _ (by rw [hvv, hvx]; exact run_append_nothing (P := P) (w := w) t o.type e i' hu hi' none Az 0 0 capz (Nat.le_refl _)), ?_⟩
    obtain ⟨h8, h9⟩ := he.setO (w' := w) (i := d) (v := .slice none 0 0) (e := e) (sz := sz) (rows := []) (vs := []) (World.ownsRow_nil w C.w0.heap.size e sz) (fun r h => by cases h) ⟨rfl, fun j t v h => by simp at h⟩ (.inr hi) (.inr ⟨fun b hb => (by cases hb), Lo.refl w⟩)
    exact ⟨_, _, hr.put h8 (fun x u h => h.setO h9 (.inl hlw)) hdN ⟨by simp [Gh.setO], by simp [Gh.setO], ⟨_, _, rfl⟩, fun _ => by simp [Gh.setO]⟩⟩
  · obtain ⟨b, off, us, rfl, hcu, hlu, hcell⟩ := TR.flat (hvv ▸ hvz) h0 h7
    obtain ⟨v', w', hrun, hown, hcase⟩ := run_append_own3 (P := P) w w.heap.size t o.type e i' zv sz by_ hu hi' hzz h4 h5 h6 h7 (.slice none 0 0) 0 [] (World.ownsRow_nil w w.heap.size e sz) ⟨b, off, none⟩ rows2.length capz us hlu (fun j u hj => by rw [addr_add]; exact he.sub _ _ _ (hcell j u hj)) hcu.one (by omega) (by rw [Nat.zero_add]; exact hb) (Nat.le_refl _)
    rw [Nat.zero_add, List.nil_append] at hown
    have hlo : Lo w w' := by
      rcases hcase with ⟨_, e2⟩ | hf
      · exact Lo.of_grown e2
      · exact hf.2
    refine ⟨v', w', hexec _ _ (by rw [hvv, hvx]; exact hrun), ?_⟩
    obtain ⟨h8, h9⟩ := he.setO (i := d) (v := v') (e := e) (sz := sz) (rows := rows2) (vs := us) (owns_base hown he.lo.size) hrl2 hcu (.inr hi) (.inr ⟨fun b hb => (hown.lt b hb).1, hlo⟩)
    refine ⟨_, _, hr.put h8 (fun x u h => h.setO h9 (.inl hlw)) hdN ⟨by simp [Gh.setO], by simp [Gh.setO], ?_, fun _ => by simp [Gh.setO]⟩⟩
    obtain ⟨_, hq⟩ := hown
    rcases hq with ⟨rfl, e2⟩ | ⟨q, cap, cur, rfl, _⟩
    · omega
    · exact ⟨_, _, rfl⟩
end
section
variable {P : Program} {N : Nat} {Q : Exit → St → Prop} {bx : List (Nat × List A)} {ow : List (Nat × Own)} {o : Oper} {ρ : Operand → Option A}
theorem strI_zero {t : TypeId} {pl : List (Nat × Nat)} {zs : List Value} (h : strI P t = some (pl, zs)) : ∃ it z, P.info? t = some it ∧ it.zero = some z ∧ z.cells.toList = zs ∧ ∀ v ∈ zs, v.oneCell' = true := by
  unfold strI at h
  split at h
  · rename_i it fields h1 h2
    split at h
    · rename_i z places h3 h4
      cases hb : (z.cells.toList.all (·.oneCell')) with
      | false => rw [hb] at h; cases h
      | true =>
        rw [hb] at h
        injection h with h
        injection h with e1 e2
        exact ⟨it, z, h1, h3, e2, by rw [← e2]; exact List.all_eq_true.1 hb⟩
    · cases h
  · cases h
/-- a struct's variable, its zero in it -/
theorem sops_allocS {ops : Array Oper} {rest : List Oper} {tm : List (Nat × A)} {ty : TypeId} {d : Nat} {pl : List (Nat × Nat)} {zs : List Value} (hS : strI P ty = some (pl, zs)) (hg : GuardIs ops tm o true) (ho : o.op = .alloc ty) (hd : o.dst = some d) (hN : Nat.blt d N = true) (hi : get bx d = none)
    (h : SOps P N ops Q rest ⟨(d, .bp d 0) :: tm, (d, zs.map fun v => A.t (T.v v)) :: bx, ow⟩) : SOps P N ops Q (o :: rest) ⟨tm, bx, ow⟩ := by
  obtain ⟨it, z, h1, h2, h3, h4⟩ := strI_zero hS
  refine sops_run hg (fun C a w m g hr => ?_) h
  have hlb : g.lb d = false := by rw [hr.env.lb, hi]; rfl
  refine ⟨.pointer (some ⟨w.heap.size, 0, none⟩), w.alloc (.cells z.cells ty), ?_, m, g.addB d w.heap.size, ?_⟩
  · simp [execOp, ho, Instr.alloc, zeroValue, typeInfo, h1, h2, newVar, newRow]
  · rw [hd]
    refine hr.put (hr.env.box hi (vs := z.cells) (ty := ty) ⟨by rw [h3]; simp, fun j x v hx hv => ?_⟩) (fun x v h => h.addB hlb) (Nat.lt_of_succ_le (Nat.le_of_ble_eq_true hN)) ⟨by simp [Gh.addB], by simp [Gh.addB]⟩
    rw [h3] at hv
    rw [List.getElem?_map, hv] at hx
    simp at hx; subst hx
    exact ⟨.v _, h4 v (List.mem_of_getElem? hv)⟩
theorem swp_draw_all {id : Nat} {l : List Oper} {tm : List (Nat × A)} (hm : P.follows .mixedOrders = true) (hB : regionB3 l.toArray l.length N = true) (hD : depsB l.toArray l.length = true)
    (h : SDraw P N bx ow l.toArray Q [] l tm) : SWp P N (.region id l.toArray true) Q ⟨tm, bx, ow⟩ :=
  swp_draw l.length hm hB hD (by rw [List.drop_length, List.take_length]; exact h)
theorem po_inc {t t2 : TypeId} {x y : Operand} {k : Nat} (ho : o.op = .binOp .add t x y t2) (hx : ρ x = some (.t (.v (.int .i64 (k : Int))))) (hy : ρ y = some (.t (.v (.int .i64 1)))) (h : (k : Int) + 1 ≤ 9223372036854775807) : PureOp P bx ow o ρ (.t (.v (.int .i64 ((k + 1 : Nat) : Int)))) :=
  po_arith ho hx hy (ar_add (wrap_i64 (by omega)) (by simp))
theorem po_dec {t t2 : TypeId} {x y : Operand} {k : Nat} (ho : o.op = .binOp .sub t x y t2) (hx : ρ x = some (.t (.v (.int .i64 (k : Int))))) (hy : ρ y = some (.t (.v (.int .i64 1)))) (h : 1 ≤ k ∧ (k : Int) ≤ 9223372036854775807) : PureOp P bx ow o ρ (.t (.v (.int .i64 ((k - 1 : Nat) : Int)))) :=
  po_arith ho hx hy (ar_sub (wrap_i64 (by omega)) (by omega))
theorem map_at {α β : Type} {l : List α} {f : α → β} {k : Nat} (h : k < l.length) : (l.map f)[k]? = some (f l[k]) := by simp [h]
end
end Go.Proofs.Ytmjckopplkihlaa.Sim
