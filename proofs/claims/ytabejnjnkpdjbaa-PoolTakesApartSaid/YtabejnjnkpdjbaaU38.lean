/- Merged by bundles.py: SimWd, PlApart, SimAk, Open0. -/
import Derived.Test.YtabejnjnkpdjbaaU37
import Derived.Test.YtabejnjnkpdjbaaU21
import Derived.Test.YtabejnjnkpdjbaaU15
import Derived.Test.YtabejnjnkpdjbaaU14
import Derived.Test.YtabejnjnkpdjbaaU0
import Derived.Deep.Slices
/- wide: how much there is of an inlet. -/
namespace Go.Proofs.Ytabejnjnkpdjbaa.Sim
set_option linter.unusedVariables false
set_option linter.unusedSimpArgs false
open Go.RowKit Mem
def wK (q : PTk) : Nat := 1 + q.bytes.length / 64
def wI (t : PIn) : Nat := (t.taken.map wK).sum
def wL (l : List PIn) : Nat := l.length + (l.map wI).sum
def wideB (l : List PIn) : Bool := decide (500 < wL l)
structure SmI (t : PIn) : Prop where
  taken : t.taken.length ≤ 9223372036854775807
  each : ∀ q ∈ t.taken, q.bytes.length ≤ 9223372036854775807
def SWo (l : List PIn) (x : Nat × Nat) : St := ⟨[(1, .bp 1 0), (3, .t (i64T (x.2 : Int))), (4, .t (i64T (x.1 : Int)))], [(1, (inlT l).map .t)], []⟩
def SWi (l : List PIn) (i : Nat) (x : Nat × Nat) : St := ⟨[(1, .bp 1 0), (3, .t (i64T (x.2 : Int))), (4, .t (i64T (i : Int))), (5, .t (i64T (x.1 : Int)))], [(1, (inlT l).map .t)], []⟩
set_option maxRecDepth 100000 in
set_option maxHeartbeats 4000000 in
theorem wide_ (l : List PIn) (hn : l.length ≤ 9223372036854775807) (hs : ∀ t ∈ l, SmI t) : PCalls Try.prog 14 [.agg (inlT l)] (.v (.bool (wideB l))) := by
  have hml : (l.map inT').length = l.length := List.length_map _
  refine pcalls_of Try.func14 rfl rfl Try.ntmps14 rfl ?_
  unfold inlT
  repeat' (first | refine rg 0 (aq10 ?_) | (refine rg 1 ?_; refine oFb ?_; refine oLb ?_; refine sp (pln rfl (tyS rfl)) ?_; refine oAs ?_; refine oN ?_) | refine rg 2 (aq0 ?_) | refine gc ?_ | refine ct ?_ | refine cf ?_ | refine sc ?_ ?_ <;> intro hc | refine rq rfl (rt .nil) ?_)
  rw [hml]
  refine swp_fam (SWo l) (fun x => x.1 ≤ l.length ∧ cnt x.2 (l.length + ((l.take x.1).map wI).sum) (wL l)) (fun x => l.length - x.1) (0, l.length) (weak_sub (.cons rfl rfl rfl (.cons rfl rfl rfl (.cons rfl rfl rfl .nil))) (.cons rfl rfl rfl .nil) .nil) ⟨Nat.zero_le _, .inl ⟨by simp, by unfold wL; omega⟩⟩ ?_
  rintro ⟨i, n⟩ ⟨hi, hc⟩
  dsimp only at hi hc
  unfold SWo inlT
  dsimp only
  have hall : l.length + (l.map wI).sum = wL l := rfl
  by_cases hlt : i < l.length
  · have hltI : (i : Int) < ((l.map inT').length : Int) := by omega
    by_cases h5 : n ≤ 500
    · have h5I : (n : Int) ≤ 500 := by omega
      have hc1 : n = l.length + ((l.take i).map wI).sum := by rcases hc with ⟨h, _⟩ | ⟨h, _⟩ <;> omega
      have hst := sum_take wI l i hlt
      have hrow : (l.map inT')[i]? = some (inT' l[i]) := map_at_some hlt
      have hsm := hs _ (List.getElem_mem hlt)
      have hle := sum_take_le wI l (i + 1)
      generalize l[i] = t at *
      have htk : (t.taken.map takR).length = t.taken.length := List.length_map _
      repeat' (first | refine rg 3 (aq93 ?_) | refine rg 5 (aq0 ?_) | refine gc ?_ | refine ct ?_ | refine cf ?_ | refine sc ?_ ?_ <;> intro hc | refine rq rfl (rt .nil) ?_)
      refine swp_fam (SWi l i) (fun x => x.1 ≤ t.taken.length ∧ cnt x.2 (n + ((t.taken.take x.1).map wK).sum) (wL l)) (fun x => t.taken.length - x.1) (0, n) (weak_sub (.cons rfl rfl rfl (.cons rfl rfl rfl (.cons rfl rfl rfl (.cons rfl rfl rfl .nil)))) (.cons rfl rfl rfl .nil) .nil) ⟨Nat.zero_le _, .inl ⟨by simp, by omega⟩⟩ ?_
      rintro ⟨k, m⟩ ⟨hk, hd⟩
      dsimp only at hk hd
      unfold SWi inlT
      dsimp only
      have hwt : wI t = (t.taken.map wK).sum := rfl
      by_cases hkl : k < t.taken.length
      · have hklI : (k : Int) < ((t.taken.map takR).length : Int) := by omega
        by_cases h6 : m ≤ 500
        · have h6I : (m : Int) ≤ 500 := by omega
          have hd1 : m = n + ((t.taken.take k).map wK).sum := by rcases hd with ⟨h, _⟩ | ⟨h, _⟩ <;> omega
          have hsq := sum_take wK t.taken k hkl
          have hrowq : (t.taken.map takR)[k]? = some (takR t.taken[k]) := map_at_some hkl
          have hlq := sum_take_le wK t.taken (k + 1)
          have hq := hsm.each _ (List.getElem_mem hkl)
          generalize t.taken[k] = q at *
          have hb : (q.bytes.map byteT).length = q.bytes.length := List.length_map _
          have hw : wK q = 1 + (q.bytes.map byteT).length / 64 := by rw [hb]; rfl
          have hkb := hsm.taken
          repeat' (first | refine rg 6 (aq94 ?_) | (refine rg 8 ?_; refine oMv ?_; refine oFb ?_; refine oLb ?_; refine oMv ?_; refine sp (pix rfl (tyS rfl)) ?_; (first | refine oFb ?_ | refine oFd ?_); (first | refine oLb ?_ | refine oLd ?_); refine oMv ?_; refine sp (pix rfl (tyS rfl)) ?_; (first | refine oFb ?_ | refine oFd ?_); (first | refine oLb ?_ | refine oLd ?_); refine sp (pln rfl (tyS rfl)) ?_; refine sp (po_quo rfl rfl rfl (by omega)) ?_; (first | refine sp (xinc rfl) ?_ | refine sp (xadd rfl) ?_); (first | refine sp (xinc rfl) ?_ | refine sp (xadd rfl) ?_); refine oAs ?_; refine oN ?_) | refine gc ?_ | refine ct ?_ | refine cf ?_ | refine sc ?_ ?_ <;> intro hc | refine rq rfl (rt .nil) ?_)
          refine rg 8 ?_
          refine oMv ?_
          refine oFb ?_
          refine oLb ?_
          refine oMv ?_
          refine sp (po_index rfl rfl (.t _) rfl (tyS rfl) rfl hrow) ?_
          refine oFd ?_
          refine oLd ?_
          refine oMv ?_
          refine sp (po_index rfl rfl (.t _) rfl (tyS rfl) rfl hrowq) ?_
          refine oFd ?_
          refine oLd ?_
          refine sp (pln rfl (tyS rfl)) ?_
          refine sp (po_quo64 rfl rfl rfl (by omega)) ?_
          refine sp (po_lens rfl rfl rfl (by omega)) ?_
          refine sp (po_addn rfl rfl rfl (by omega)) ?_
          refine oAs ?_
          refine oN ?_
          refine gc ?_
          rw [← hw]
          repeat' (first | refine rg 7 (aq18 ?_) | refine gc ?_ | refine ct ?_ | refine cf ?_ | refine sc ?_ ?_ <;> intro hc | refine rq rfl (rt .nil) ?_)
          exact fam_next (k + 1, m + wK q) (by show t.taken.length - (k + 1) < t.taken.length - k; omega) (weak_sub (.cons rfl rfl rfl (.cons rfl rfl rfl (.cons rfl rfl rfl (.cons rfl rfl rfl .nil)))) (.cons rfl rfl rfl .nil) .nil) ⟨hkl, .inl ⟨by show m + wK q = _; dsimp only; rw [hsq]; omega, by show m + wK q ≤ _; omega⟩⟩
        · have h6I : ¬ (m : Int) ≤ 500 := by omega
          have h6m : 500 < m := by omega
          have hmw : m ≤ wL l := by rcases hd with ⟨_, h⟩ | ⟨_, h⟩ <;> exact h
          repeat' (first | refine fam_exit ?_ | refine rg 6 (aq94 ?_) | refine rg 4 (aq18 ?_) | refine gc ?_ | refine ct ?_ | refine cf ?_ | refine sc ?_ ?_ <;> intro hc | refine rq rfl (rt .nil) ?_)
          exact fam_next (i + 1, m) (by show l.length - (i + 1) < l.length - i; omega) (weak_sub (.cons rfl rfl rfl (.cons rfl rfl rfl (.cons rfl rfl rfl .nil))) (.cons rfl rfl rfl .nil) .nil) ⟨hlt, .inr ⟨h6m, hmw⟩⟩
      · have hklI : ¬ (k : Int) < ((t.taken.map takR).length : Int) := by omega
        have hke : k = t.taken.length := by omega
        have hd2 : cnt m (l.length + ((l.take (i + 1)).map wI).sum) (wL l) := by
          rw [hke, List.take_length] at hd
          rw [hst]
          rcases hd with ⟨h, h'⟩ | h
          · exact .inl ⟨by omega, h'⟩
          · exact .inr h
        repeat' (first | refine fam_exit ?_ | refine rg 6 (aq95 ?_) | refine rg 4 (aq18 ?_) | refine gc ?_ | refine ct ?_ | refine cf ?_ | refine sc ?_ ?_ <;> intro hc | refine rq rfl (rt .nil) ?_)
        exact fam_next (i + 1, m) (by show l.length - (i + 1) < l.length - i; omega) (weak_sub (.cons rfl rfl rfl (.cons rfl rfl rfl (.cons rfl rfl rfl .nil))) (.cons rfl rfl rfl .nil) .nil) ⟨hlt, hd2⟩
    · have h5I : ¬ (n : Int) ≤ 500 := by omega
      have hmw : n ≤ wL l := by rcases hc with ⟨_, h⟩ | ⟨_, h⟩ <;> exact h
      have hb : wideB l = true := decide_eq_true (by omega)
      have hI : (500 : Int) < (n : Int) := by omega
      have hd : decide ((500 : Int) < (n : Int)) = true := decide_eq_true hI
      rw [hb]
      repeat' (first | refine fam_exit ?_ | refine rg 3 (aq93 ?_) | refine rg 9 (aq51 ?_) | refine gc ?_ | refine ct ?_ | refine cf ?_ | refine sc ?_ ?_ <;> intro hc | refine rq rfl (rt .nil) ?_)
      rw [hd]; rfl
  · have hltI : ¬ (i : Int) < ((l.map inT').length : Int) := by omega
    have hie : i = l.length := by omega
    rw [hie, List.take_length] at hc
    have hd : decide ((500 : Int) < (n : Int)) = wideB l := by
      unfold wideB
      rcases hc with ⟨h, _⟩ | ⟨h, h'⟩
      · rw [h, hall]; exact decide_eq_decide.2 (by omega)
      · rw [decide_eq_true (by omega), decide_eq_true (by omega)]
    repeat' (first | refine fam_exit ?_ | refine rg 3 (aq96 ?_) | refine rg 9 (aq51 ?_) | refine gc ?_ | refine ct ?_ | refine cf ?_ | refine sc ?_ ?_ <;> intro hc | refine rq rfl (rt .nil) ?_)
    rw [hd]; rfl
end Go.Proofs.Ytabejnjnkpdjbaa.Sim

/- What one inbound tunnel has taken hangs on nothing that happens on another one; plain. -/
namespace Go.Proofs.Ytabejnjnkpdjbaa.Sim
set_option linter.unusedVariables false
set_option linter.unusedSimpArgs false
open Go.RowKit Mem
theorem cutL_find {α : Type} (f : α → Bool) (l : List α) : (cutL f l).map (fun x => x.2.1) = l.find? f := by
  cases h : cutL f l with
  | none =>
    have := cutL_none h
    exact (List.find?_eq_none.2 fun x hx => by rw [this x hx]; decide).symm
  | some z =>
    obtain ⟨A, x, B⟩ := z
    obtain ⟨h1, h2, h3⟩ := cutL_some h
    subst h1
    show some x = _
    rw [List.find?_append, List.find?_eq_none.2 fun y hy => by rw [h3 y hy]; decide, List.find?_cons_of_pos h2]; rfl
def ansT (now m : Int) : Option PIn → Int × PTk
  | none => (0, zeroK)
  | some x => if m = 0 then (0, zeroK) else ((takeT now m x).2.1, (takeT now m x).2.2)
theorem takeP_ans (l : List PIn) (now peer a b c owner m : Int) : ((takeP l now peer a b c owner m).2.1, (takeP l now peer a b c owner m).2.2) = ansT now m ((l.filter (pIn a b c)).find? (pOf peer a b c owner)) := by
  have e : (l.filter (pIn a b c)).find? (pOf peer a b c owner) = l.find? (pOf peer a b c owner) := by
    rw [List.find?_filter]
    congr 1
    funext x
    unfold pIn pOf
    cases (x.node == a && (x.inc == b && x.num == c)) <;> simp
  rw [e, ← cutL_find]
  unfold takeP
  cases cutL (pOf peer a b c owner) l with
  | none => rfl
  | some z =>
    obtain ⟨A, x, B⟩ := z
    dsimp only [Option.map]
    unfold ansT
    split <;> rfl
theorem pIn_unlike {a b c a' b' c' : Int} (h : ¬ (a = a' ∧ b = b' ∧ c = c')) {x : PIn} (hx : pIn a b c x = true) : pIn a' b' c' x = false := by
  unfold pIn at *
  simp only [Bool.and_eq_true, beq_iff_eq] at hx
  obtain ⟨h1, h2, h3⟩ := hx
  rw [Bool.eq_false_iff]
  intro h4
  simp only [Bool.and_eq_true, beq_iff_eq] at h4
  exact h ⟨by omega, by omega, by omega⟩
theorem pOf_pIn {peer a b c owner : Int} {x : PIn} (h : pOf peer a b c owner x = true) : pIn a b c x = true := by
  unfold pOf at h
  unfold pIn
  simp only [Bool.and_eq_true] at h ⊢
  exact h.1.1
theorem filter_mid {α : Type} {p : α → Bool} {A B : List α} {x y : α} (hx : p x = false) (hy : p y = false) : (A ++ x :: B).filter p = (A ++ y :: B).filter p := by
  rw [List.filter_append, List.filter_append, List.filter_cons_of_neg (by rw [hx]; decide), List.filter_cons_of_neg (by rw [hy]; decide)]
theorem takeT_id (now n : Int) (x : PIn) (a b c : Int) : pIn a b c (takeT now n x).1 = pIn a b c x := by
  unfold takeT
  split
  · split <;> rfl
  · split <;> rfl
theorem takeP_rest (l : List PIn) (now peer a b c owner n : Int) {a' b' c' : Int} (h : ¬ (a = a' ∧ b = b' ∧ c = c')) : (takeP l now peer a b c owner n).1.filter (pIn a' b' c') = l.filter (pIn a' b' c') := by
  unfold takeP
  cases hc : cutL (pOf peer a b c owner) l with
  | none => rfl
  | some z =>
    obtain ⟨A, x, B⟩ := z
    obtain ⟨h1, h2, _⟩ := cutL_some hc
    dsimp only
    split
    · rfl
    · rw [h1]
      have hx := pIn_unlike h (pOf_pIn h2)
      exact filter_mid (by rw [takeT_id]; exact hx) hx
theorem doneK_id (d : PTk) (x : PIn) (a b c : Int) : pIn a b c (doneK d x) = pIn a b c x := by
  unfold doneK
  split
  · rfl
  · split <;> rfl
theorem doneP_rest (l : List PIn) (a b c : Int) (d : PTk) {a' b' c' : Int} (h : ¬ (a = a' ∧ b = b' ∧ c = c')) : (doneP l a b c d).filter (pIn a' b' c') = l.filter (pIn a' b' c') := by
  unfold doneP
  cases hc : cutL (pIn a b c) l with
  | none => rfl
  | some z =>
    obtain ⟨A, x, B⟩ := z
    obtain ⟨h1, h2, _⟩ := cutL_some hc
    dsimp only
    rw [h1]
    have hx := pIn_unlike h h2
    exact filter_mid (by rw [doneK_id]; exact hx) hx
theorem leaveP_rest (l : List PIn) (peer a b c owner : Int) {a' b' c' : Int} (h : ¬ (a = a' ∧ b = b' ∧ c = c')) : (leaveP l peer a b c owner).filter (pIn a' b' c') = l.filter (pIn a' b' c') := by
  unfold leaveP
  cases hc : cutL (pOf peer a b c owner) l with
  | none => rfl
  | some z =>
    obtain ⟨A, x, B⟩ := z
    obtain ⟨h1, h2, _⟩ := cutL_some hc
    dsimp only
    rw [h1]
    have hx := pIn_unlike h (pOf_pIn h2)
    rw [List.filter_append, List.filter_append, List.filter_cons_of_neg (by rw [hx]; decide)]
structure OkI (t : PIn) : Prop where
  taken : t.taken.length ≤ 500
  each : ∀ q ∈ t.taken, FewK q
theorem OkI.few {t : PIn} (h : OkI t) : FewIn t := ⟨by have := h.taken; omega, h.each⟩
theorem takeT_ok {now n : Int} {t : PIn} (h : OkI t) : OkI (takeT now n t).1 := by
  unfold takeT
  split
  · split <;> exact ⟨h.taken, h.each⟩
  · split
    · exact ⟨h.taken, h.each⟩
    · have hl : (isort (t.taken ++ [newK n])).length = t.taken.length + 1 := by rw [isort_len, List.length_append]; rfl
      have hm : ∀ q ∈ isort (t.taken ++ [newK n]), FewK q := fun q hq => by
        rcases List.mem_append.1 ((isort_st _).mem hq) with h1 | h1
        · exact h.each q h1
        · rw [List.mem_singleton.1 h1]; exact ⟨Nat.zero_le _⟩
      have h5 := h.taken
      unfold trimK
      split
      · exact ⟨by show (List.drop 1 _).length ≤ 500; rw [List.length_drop]; omega, fun q hq => hm q (List.mem_of_mem_drop hq)⟩
      · exact ⟨by show (isort (t.taken ++ [newK n])).length ≤ 500; omega, hm⟩
theorem takeP_ok {l : List PIn} (now peer a b c owner n : Int) (h : ∀ t ∈ l, OkI t) : (takeP l now peer a b c owner n).1.length = l.length ∧ ∀ t ∈ (takeP l now peer a b c owner n).1, OkI t := by
  unfold takeP
  cases hc : cutL (pOf peer a b c owner) l with
  | none => exact ⟨rfl, h⟩
  | some z =>
    obtain ⟨A, x, B⟩ := z
    obtain ⟨h1, _, _⟩ := cutL_some hc
    dsimp only
    split
    · exact ⟨rfl, h⟩
    · subst h1
      refine ⟨by simp, fun t ht => ?_⟩
      rcases List.mem_append.1 ht with h2 | h2
      · exact h t (List.mem_append_left _ h2)
      · rcases List.mem_cons.1 h2 with rfl | h2
        · exact takeT_ok (h x (by simp))
        · exact h t (List.mem_append_right _ (List.mem_cons_of_mem _ h2))
theorem doneK_ok {d : PTk} (hd : FewK d) {t : PIn} (h : OkI t) : OkI (doneK d t) := by
  unfold doneK
  cases hc : cutL (fun q : PTk => decide (q.n = d.n)) t.taken with
  | none => exact h
  | some z =>
    obtain ⟨C, q, D⟩ := z
    obtain ⟨h1, _, _⟩ := cutL_some hc
    dsimp only
    split
    · exact h
    · have h5 := h.taken
      have h6 := h.each
      rw [h1] at h5 h6
      refine ⟨by show (C ++ answered d :: D).length ≤ 500; simp at h5 ⊢; omega, fun r hr => ?_⟩
      rcases List.mem_append.1 hr with h2 | h2
      · exact h6 r (List.mem_append_left _ h2)
      · rcases List.mem_cons.1 h2 with rfl | h2
        · exact ⟨hd.bytes⟩
        · exact h6 r (List.mem_append_right _ (List.mem_cons_of_mem _ h2))
theorem doneP_ok {l : List PIn} (a b c : Int) {d : PTk} (hd : FewK d) (h : ∀ t ∈ l, OkI t) : (doneP l a b c d).length = l.length ∧ ∀ t ∈ doneP l a b c d, OkI t := by
  unfold doneP
  cases hc : cutL (pIn a b c) l with
  | none => exact ⟨rfl, h⟩
  | some z =>
    obtain ⟨A, x, B⟩ := z
    obtain ⟨h1, _, _⟩ := cutL_some hc
    dsimp only
    subst h1
    refine ⟨by simp, fun t ht => ?_⟩
    rcases List.mem_append.1 ht with h2 | h2
    · exact h t (List.mem_append_left _ h2)
    · rcases List.mem_cons.1 h2 with rfl | h2
      · exact doneK_ok hd (h x (by simp))
      · exact h t (List.mem_append_right _ (List.mem_cons_of_mem _ h2))
theorem leaveP_ok {l : List PIn} (peer a b c owner : Int) (h : ∀ t ∈ l, OkI t) : (leaveP l peer a b c owner).length ≤ l.length ∧ ∀ t ∈ leaveP l peer a b c owner, OkI t := by
  unfold leaveP
  cases hc : cutL (pOf peer a b c owner) l with
  | none => exact ⟨Nat.le_refl _, h⟩
  | some z =>
    obtain ⟨A, x, B⟩ := z
    obtain ⟨h1, _, _⟩ := cutL_some hc
    dsimp only
    subst h1
    refine ⟨by simp, fun t ht => h t ?_⟩
    rcases List.mem_append.1 ht with h2 | h2
    · exact List.mem_append_left _ h2
    · exact List.mem_append_right _ (List.mem_cons_of_mem _ h2)
theorem le_sumI {α : Type} (f : α → Nat) : ∀ (l : List α) (x : α), x ∈ l → f x ≤ (l.map f).sum
  | y :: l, x, h => by
    rw [List.map_cons, List.sum_cons]
    rcases List.mem_cons.1 h with rfl | h
    · omega
    · have := le_sumI f l x h; omega
theorem len_wI (t : PIn) : t.taken.length ≤ wI t := by
  unfold wI
  generalize t.taken = l
  induction l with
  | nil => exact Nat.le_refl _
  | cons q l ih =>
    rw [List.map_cons, List.sum_cons, List.length_cons]
    have : 1 ≤ wK q := by unfold wK; omega
    omega
theorem few_wide {l : List PIn} (h : wideB l = false) : l.length ≤ 500 ∧ ∀ t ∈ l, OkI t := by
  have h := of_decide_eq_false h
  unfold wL at h
  refine ⟨by omega, fun t ht => ?_⟩
  have h1 := le_sumI wI l t ht
  have h2 := len_wI t
  refine ⟨by omega, fun q hq => ⟨?_⟩⟩
  have h3 := le_sumI wK t.taken q hq
  have h4 : (t.taken.map wK).sum = wI t := rfl
  have h5 : q.bytes.length / 64 ≤ wK q := by unfold wK; omega
  omega
end Go.Proofs.Ytabejnjnkpdjbaa.Sim

/- A number's last 16 bits; the rest of a division. -/
namespace Go.Proofs.Ytabejnjnkpdjbaa.Sim
set_option linter.unusedVariables false
set_option linter.unusedSimpArgs false
open Go.RowKit Mem
theorem ands (i : Int) : ∃ k : Nat, k < 65536 ∧ IntKind.i64.wrap ((BitVec.ofInt IntKind.i64.bits i &&& BitVec.ofInt IntKind.i64.bits 65535).toNat : Int) = (k : Int) := by
  refine ⟨(BitVec.ofInt IntKind.i64.bits i &&& BitVec.ofInt IntKind.i64.bits 65535).toNat, ?_, ?_⟩
  · have h : (BitVec.ofInt IntKind.i64.bits i &&& BitVec.ofInt IntKind.i64.bits 65535).toNat ≤ 65535 := by
      rw [BitVec.toNat_and]
      exact Nat.le_trans Nat.and_le_right (by decide)
    omega
  · have h : (BitVec.ofInt IntKind.i64.bits i &&& BitVec.ofInt IntKind.i64.bits 65535).toNat ≤ 65535 := by
      rw [BitVec.toNat_and]
      exact Nat.le_trans Nat.and_le_right (by decide)
    generalize (BitVec.ofInt IntKind.i64.bits i &&& BitVec.ofInt IntKind.i64.bits 65535).toNat = n at *
    exact wrap_i64 (by omega)
theorem po_andk {P : Program} {bx : List (Nat × List A)} {ow : List (Nat × Own)} {o : Oper} {ρ : Operand → Option A} {t t2 : TypeId} {x y : Operand} {i : Int} {c : Int} (hc : IntKind.i64.wrap ((BitVec.ofInt IntKind.i64.bits i &&& BitVec.ofInt IntKind.i64.bits 65535).toNat : Int) = c) (ho : o.op = .binOp .and t x y t2) (hx : ρ x = some (.t (.v (.int .i64 i)))) (hy : ρ y = some (.t (.v (.int .i64 65535)))) : PureOp P bx ow o ρ (.t (.v (.int .i64 c))) := by
  subst hc; exact po_and ho hx hy
theorem po_remk {P : Program} {bx : List (Nat × List A)} {ow : List (Nat × Own)} {o : Oper} {ρ : Operand → Option A} {t t2 : TypeId} {x y : Operand} {a b : Nat} (hb : 0 < b) (ho : o.op = .binOp .rem t x y t2) (hx : ρ x = some (.t (.v (.int .i64 (a : Int))))) (hy : ρ y = some (.t (.v (.int .i64 (b : Int))))) : PureOp P bx ow o ρ (.t (.v (.int .i64 ((a % b : Nat) : Int)))) := by
  have h := po_rem (P := P) (bx := bx) (ow := ow) ho hx hy (by omega)
  rwa [show ((a : Int).tmod (b : Int)) = ((a % b : Nat) : Int) from rfl] at h
end Go.Proofs.Ytabejnjnkpdjbaa.Sim

/- Arguments opened: what a reading says of the cells, type by type. -/
namespace Go.Proofs.Ytabejnjnkpdjbaa.Mem
set_option linter.unusedVariables false
set_option linter.unusedSimpArgs false
open Go.RowKit
def SliceC {α : Type} (R : Rel α) (sz : Nat) : Rel (List α) := fun B w xs cs => ∃ A cap, cs = [.slice A xs.length cap] ∧ SliceAt R sz B w A xs ∧ xs.length ≤ cap ∧ cap ≤ maxLen
theorem SliceC.kept {α : Type} {R : Rel α} {sz : Nat} (hR : Kept R) : Kept (SliceC R sz) := by
  rintro B B' w w' x cs ⟨A, cap, rfl, h, h1, h2⟩ hk hB
  exact ⟨A, cap, rfl, h.keep hR hk hB, h1, h2⟩
def IntC (k : IntKind) : Rel Int := fun _ _ x cs => cs = [.int k x] ∧ (Lit.int k x).wf = true
theorem IntC.kept (k : IntKind) : Kept (IntC k) := fun _ _ _ _ _ _ h _ _ => h
def StrC : Rel ByteArray := fun _ _ s cs => cs = [.string s] ∧ s.size ≤ maxLen
theorem StrC.kept : Kept StrC := fun _ _ _ _ _ _ h _ _ => h
end Go.Proofs.Ytabejnjnkpdjbaa.Mem
namespace Go.Proofs.Ytabejnjnkpdjbaa.Opn
set_option linter.unusedVariables false
set_option linter.unusedSimpArgs false
set_option maxRecDepth 100000
open Go.RowKit Go.WideShapes Go.ChangeShapes Go.Joins Mem

def Opens {α : Type} (t : TypeId) (R : Rel α) : Prop :=
  ∀ (H : Type) (enc : TypeId × Value → H) (w : World) (base : Nat) (spare : Nat → Bool) (held : Bool) (fuel : Nat) (cs : List Value) (x : DataW H × List MemPlace), DataW.trod enc Try.prog w base spare held fuel t cs = some x → ∃ y, R w.heap.size w y cs

theorem slice_opens {α : Type} [Inhabited α] {t e sz : Nat} {R : Rel α} (ht : Try.prog.underlying t = some (.slice e)) (hC : Try.prog.cellsOf e = sz) (hsz : 0 < sz) (hR : Opens e R)
    {H : Type} {enc : TypeId × Value → H} {w : World} {base : Nat} {spare : Nat → Bool} {held : Bool} {fuel : Nat} {cs : List Value} {x : DataW H × List MemPlace} (h : DataW.trod enc Try.prog w base spare held fuel t cs = some x) :
    ∃ (A : Option Addr) (cap : Nat) (xs : List α), cs = [.slice A xs.length cap] ∧ SliceAt R sz w.heap.size w A xs ∧ xs.length ≤ cap ∧ cap ≤ maxLen := by
  rcases Go.Deep.open_slice ht h with ⟨hcs, _⟩ | ⟨a, len, cap, m, n, D, Pl, hcs, hb, hl, hm, hmm, hx, hi⟩
  · exact ⟨none, 0, [], hcs, SliceAt.nil, Nat.le_refl _, Nat.zero_le _⟩
  · have hlm : len ≤ m := by rw [hmm]; split <;> omega
    have hex : ∀ i, i < len → ∃ (y : α) (cs' : List Value), w.cells? base (a.add (i * sz)) sz = some cs' ∧ R w.heap.size w y cs' := by
      intro i hil
      obtain ⟨cs', hc, ht'⟩ := hi i (by omega)
      rw [hC] at hc
      obtain ⟨y, hy⟩ := hR H enc w base spare held n cs' _ ht'
      exact ⟨y, cs', hc, hy⟩
    have hf : ∃ f : Nat → α, ∀ i, i < len → ∃ cs', w.cells? base (a.add (i * sz)) sz = some cs' ∧ R w.heap.size w (f i) cs' := by
      refine ⟨fun i => if h : i < len then (hex i h).choose else default, fun i hil => ?_⟩
      simp only [dif_pos hil]
      exact (hex i hil).choose_spec
    obtain ⟨f, hf⟩ := hf
    refine ⟨some a, cap, (List.range len).map f, by simpa using hcs, ?_, by simpa using hl, hm⟩
    intro k y hk
    have hkl : k < len := by
      rcases Nat.lt_or_ge k len with h' | h'
      · exact h'
      · rw [List.getElem?_eq_none (by simpa using h')] at hk; cases hk
    rw [List.getElem?_map, List.getElem?_range hkl] at hk
    simp at hk; subst hk
    obtain ⟨cs', hc, hr⟩ := hf k hkl
    obtain ⟨_, hlen, hat⟩ := World.cells?_some hc
    have h0 : w.cell? ((a.add (k * sz)).add 0) = some (cs'[0]'(by omega)) := by rw [hat 0 hsz, List.getElem?_eq_getElem]
    obtain ⟨b, off, spot⟩ := a
    have hspot : k = 0 → spot = none := by
      intro hk0; subst hk0
      simp [Addr.add] at h0
      cases spot with
      | none => rfl
      | some q =>
        simp only [World.cell?] at h0
        split at h0
        · simp at h0
        · cases h0
    -- the row's address bears no spot: its first element shows it
    have hsp : spot = none := by
      rcases Nat.eq_zero_or_pos k with hk0 | hk0
      · exact hspot hk0
      · obtain ⟨cs0, hc0, _⟩ := hf 0 (by omega)
        obtain ⟨_, hlen0, hat0⟩ := World.cells?_some hc0
        have h00 : w.cell? (((⟨b, off, spot⟩ : Addr).add (0 * sz)).add 0) = some (cs0[0]'(by omega)) := by rw [hat0 0 hsz, List.getElem?_eq_getElem]
        simp [Addr.add] at h00
        cases spot with
        | none => rfl
        | some q =>
          simp only [World.cell?] at h00
          split at h00
          · simp at h00
          · cases h00
    subst hsp
    have hadd : ∀ j, ((⟨b, off, none⟩ : Addr).add (k * sz)).add j = ⟨b, off + (k * sz + j), none⟩ := by
      intro j
      rw [Go.Deep.add_add, addr_add]
    refine ⟨b, off, cs', rfl, ?_, hlen, ?_, hr⟩
    · have := World.block_lt_of_cell? w _ h0
      rw [hadd] at this
      exact this
    · intro j v hj
      have hjl : j < sz := by rw [← hlen]; exact (List.getElem?_eq_some_iff.1 hj).1
      rw [← hadd, hat j hjl, hj]
theorem opens_int {t : TypeId} {k : IntKind} (ht : Try.prog.underlying t = some (.int k)) : Opens t (IntC k) := by
  intro H enc w base spare held fuel cs x h
  obtain ⟨n, rfl, _, hw⟩ := DataW.trod_int ht h
  exact ⟨n, rfl, hw⟩
theorem opens_slice {α : Type} [Inhabited α] {t e sz : Nat} {R : Rel α} (ht : Try.prog.underlying t = some (.slice e)) (hC : Try.prog.cellsOf e = sz) (hsz : 0 < sz) (hR : Opens e R) : Opens t (SliceC R sz) := by
  intro H enc w base spare held fuel cs x h
  obtain ⟨A, cap, xs, rfl, hA, h1, h2⟩ := slice_opens ht hC hsz hR h
  exact ⟨xs, A, cap, rfl, hA, h1, h2⟩
theorem open_int_arg {t : TypeId} {k : IntKind} (ht : Try.prog.underlying t = some (.int k)) {H : Type} {enc : TypeId × Value → H} {w : World} {r : Reach} {b0 base : Nat} {spare : Nat → Bool} {held : Bool} {v : Value} {d : DataW H} {p : List MemPlace}
    (hv : Value.okWide Try.prog w r b0 t v) (h : DataW.Trod enc Try.prog w base spare held t v d p) : ∃ n, v = .int k n ∧ (Lit.int k n).wf = true := by
  obtain ⟨n, rfl⟩ := okWide_int ht hv
  obtain ⟨fuel, hf⟩ := h
  obtain ⟨m, hm, _, hw⟩ := DataW.trod_int ht hf
  simp [Value.cells] at hm
  subst hm
  exact ⟨_, rfl, hw⟩
end Go.Proofs.Ytabejnjnkpdjbaa.Opn
