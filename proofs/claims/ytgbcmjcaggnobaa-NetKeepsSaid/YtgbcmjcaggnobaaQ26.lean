/- Merged by bundles.py: SimLe, PlNet3, PlNet5, PlNet4, PlNet6, PlNet7, Open0, Rel23. -/
import Derived.Test.YtgbcmjcaggnobaaQ25
import Derived.Test.YtgbcmjcaggnobaaQ24
import Derived.Test.YtgbcmjcaggnobaaQ14
import Derived.Test.YtgbcmjcaggnobaaQ0
import Derived.Deep.Slices
import Derived.OpenShut
/- A call that leaves a resource as it was writes nothing: it may stand beside others. -/
namespace Go.Proofs.Ytgbcmjcaggnobaa.Sim
set_option linter.unusedVariables false
set_option linter.unusedSimpArgs false
open Go.RowKit Mem
section
variable {P : Program} {N : Nat} {Q : Exit → St → Prop} {ops : Array Oper} {rest : List Oper} {o : Oper} {tm : List (Nat × A)} {bx bx0 bx1 : List (Nat × List A)} {ow : List (Nat × Own)}
/-- a call that is lent no rows, and makes none: nothing else of the state turns -/
theorem sops_lcall0 {f : FuncId} {xs : List Operand} {at_ : Array TypeId} {args : List A} {r : A} {d : Nat} (hc : LCalls P f args bx0 [] r bx1 []) (fb : Nat → Nat) (hg : GuardIs ops tm o true) (ho : o.op = .call { callee := .value (.func f), args := xs.toArray, argTypes := at_ }) (hd : o.dst = some d) (hN : Nat.blt d N = true)
    (ha : ArgsL fb (fun i => i) ow bx0 [] (evA tm) xs args) (hx : LentX fb (fun i => i) bx bx0) (hl : (bx0.all fun p => p.2.all fun x => x.live bx0 []) = true) (hB : lendB fb (fun i => i) bx bx0 bx1 ow [] [] = true)
    (h : SOps P N ops Q rest ⟨(d, r.ren fb (fun i => i)) :: tm, bx1.map (fun p => (fb p.1, p.2.map (A.ren fb (fun i => i)))) ++ bx, ow⟩) : SOps P N ops Q (o :: rest) ⟨tm, bx, ow⟩ := by
  refine sops_lcall hc fb (fun i => i) (fun _ => false) hg ho hd hN ha hx .nil hl hB (fun _ h => Bool.noConfusion h) ?_
  have hq : ∀ j, chgOf (fun i => i) (fun _ => false) [] j = false := fun j => rfl
  have e1 : tm.map (fun p => (p.1, p.2.clr (chgOf (fun i => i) (fun _ => false) []))) = tm := (List.map_congr_left fun p _ => by rw [clr_no hq]).trans (List.map_id' tm)
  have e2 : bxAft fb (fun i => i) (chgOf (fun i => i) (fun _ => false) []) bx1 bx = bx1.map (fun p => (fb p.1, p.2.map (A.ren fb (fun i => i)))) ++ bx := by
    unfold bxAft
    congr 1
    refine (List.map_congr_left fun p _ => ?_).trans (List.map_id' bx)
    have : p.2.map (A.clr (chgOf (fun i => i) (fun _ => false) [])) = p.2 := (List.map_congr_left fun x _ => clr_no hq x).trans (List.map_id' _)
    rw [this]
  have e3 : owAft (fun i => i) [] [] ow = ow := by
    unfold owAft
    exact List.filter_eq_self.2 fun p _ => rfl
  rw [e1, e2, e3]
  exact h
end
section
variable {P : Program} {bx : List (Nat × List A)} {ow : List (Nat × Own)} {o : Oper} {ρ : Operand → Option A}
theorem po_ner {t t2 : TypeId} {x y : Operand} {k : IntKind} {i : Int} (ho : o.op = .binOp .neq t x y t2) (hx : ρ x = some (.t (.v (.int k i)))) (hy : ρ y = some (.t (.v (.int k i)))) : PureOp P bx ow o ρ (.t (.v (.bool false))) := po_cmp ho hx hy (by simp [cmpB])
/-- a row's length, said otherwise -/
theorem po_len_n {x : Operand} {i m n : Nat} {t : TypeId} (h : m = n) (ho : o.op = .call { callee := .builtin .len, args := #[x], argTypes := #[t] }) (hx : ρ x = some (.own i m)) {sz : Nat} (hT : sliceSz P t = some sz) : PureOp P bx ow o ρ (.t (.v (.int .i64 (n : Int)))) := h ▸ po_len_own ho hx hT
theorem po_gtf {t t2 : TypeId} {x y : Operand} {k : IntKind} {i j : Int} (h : i ≤ j) (ho : o.op = .binOp .gtr t x y t2) (hx : ρ x = some (.t (.v (.int k i)))) (hy : ρ y = some (.t (.v (.int k j)))) : PureOp P bx ow o ρ (.t (.v (.bool false))) := po_cmp ho hx hy (by simp [cmpB]; omega)
theorem po_neh {t t2 : TypeId} {x y : Operand} {k : IntKind} {i j : Int} (h : i = j) (ho : o.op = .binOp .neq t x y t2) (hx : ρ x = some (.t (.v (.int k i)))) (hy : ρ y = some (.t (.v (.int k j)))) : PureOp P bx ow o ρ (.t (.v (.bool false))) := po_cmp ho hx hy (by simp [cmpB, h])
end
end Go.Proofs.Ytgbcmjcaggnobaa.Sim

/- A net's calls, one beside another: plain laws. -/
namespace Go.Proofs.Ytgbcmjcaggnobaa.Sim
set_option linter.unusedVariables false
set_option linter.unusedSimpArgs false
theorem PNet.ext {d e : PNet} (h : d.n = e.n) (h2 : ∀ k, d.row k = e.row k) : d = e := by
  cases d; cases e; cases h; congr; funext k; exact h2 k
theorem put_same (d : PNet) (k : Nat) : d.put k (d.row k) = d := PNet.ext rfl fun j => by
  show (if j = k then d.row k else d.row j) = d.row j
  split
  · next h => rw [h]
  · rfl
theorem put_row (d : PNet) (k : Nat) (l : List (List UInt8)) : (d.put k l).row k = l := if_pos rfl
theorem put_row_ne (d : PNet) {k j : Nat} (l : List (List UInt8)) (h : j ≠ k) : (d.put k l).row j = d.row j := if_neg h
/-- what a call leaves of its link's row -/
def rowN (h : PHop) (r : List (List UInt8)) : List (List UInt8) :=
  if knd h.kind = 0 ∨ knd h.kind = 1 then (if 16384 < h.load.length then r else if r.length < 32 then r ++ [h.load] else r)
  else if knd h.kind = 2 ∨ knd h.kind = 3 then (match getP r h.no with | some _ => r.eraseIdx h.no.toNat | none => r)
  else if knd h.kind = 4 then (match getP r h.no with | some b => (if r.length < 32 then r ++ [b] else r) | none => r)
  else if knd h.kind = 5 then (match getP r h.no with | some b => b :: r.eraseIdx h.no.toNat | none => r)
  else r
theorem doesN_row (d : PNet) (h : PHop) : doesN d h = bif isL d.n h.f h.t then d.put (kOf h.f h.t) (rowN h (d.row (kOf h.f h.t))) else d := by
  unfold doesN rowN sendP delP doubleP frontP
  have hs := put_same d (kOf h.f h.t)
  cases isL d.n h.f h.t with
  | false => simp only [cond_false, ite_self]
  | true =>
    simp only [cond_true]
    generalize d.row (kOf h.f h.t) = r at *
    by_cases h1 : knd h.kind = 0 ∨ knd h.kind = 1
    · rw [if_pos h1, if_pos h1]
      by_cases h2 : 16384 < h.load.length
      · rw [if_pos h2, if_pos h2]; exact hs.symm
      · rw [if_neg h2, if_neg h2]
        by_cases h3 : r.length < 32
        · rw [if_pos h3, if_pos h3]
        · rw [if_neg h3, if_neg h3]; exact hs.symm
    · rw [if_neg h1, if_neg h1]
      by_cases h2 : knd h.kind = 2 ∨ knd h.kind = 3
      · rw [if_pos h2, if_pos h2]
        cases getP r h.no with
        | none => exact hs.symm
        | some b => rfl
      · rw [if_neg h2, if_neg h2]
        by_cases h4 : knd h.kind = 4
        · rw [if_pos h4, if_pos h4]
          cases getP r h.no with
          | none => exact hs.symm
          | some b =>
            simp only
            by_cases h3 : r.length < 32
            · rw [if_pos h3, if_pos h3]
            · rw [if_neg h3, if_neg h3]; exact hs.symm
        · rw [if_neg h4, if_neg h4]
          by_cases h5 : knd h.kind = 5
          · rw [if_pos h5, if_pos h5]
            cases getP r h.no with
            | none => exact hs.symm
            | some b => rfl
          · rw [if_neg h5, if_neg h5]; exact hs.symm
/-- what a call answers hangs on its link's row alone -/
def sendE (h : PHop) (r : List (List UInt8)) : Int := if 16384 < h.load.length then 6 else if r.length < 32 then 0 else 3
def dblE (i : Int) (r : List (List UInt8)) : Int := match getP r i with | some _ => (if r.length < 32 then 0 else 3) | none => 4
theorem send_E (d : PNet) (h : PHop) : (sendP d h.f h.t h.load).2 = bif isL d.n h.f h.t then sendE h (d.row (kOf h.f h.t)) else 1 := by
  unfold sendP sendE
  cases isL d.n h.f h.t with
  | false => rfl
  | true => simp only [cond_true]; split; rfl; split <;> rfl
theorem double_E (d : PNet) (x y i : Int) : (doubleP d x y i).2 = bif isL d.n x y then dblE i (d.row (kOf x y)) else 1 := by
  unfold doubleP dblE
  cases isL d.n x y with
  | false => rfl
  | true =>
    simp only [cond_true]
    cases getP (d.row (kOf x y)) i with
    | none => rfl
    | some b => simp only; split <;> rfl
theorem kOf_inj {n : Nat} (hn : n ≤ 9) {a b x y : Int} (h1 : isL n a b = true) (h2 : isL n x y = true) (h : kOf a b = kOf x y) : a = x ∧ b = y := by
  unfold isL at h1 h2
  rw [decide_eq_true_eq] at h1 h2
  unfold kOf at h
  omega
end Go.Proofs.Ytgbcmjcaggnobaa.Sim

/- A net whose calls are on one link alone; all links, summed: plain laws. -/
namespace Go.Proofs.Ytgbcmjcaggnobaa.Sim
set_option linter.unusedVariables false
set_option linter.unusedSimpArgs false
def allP (n : Nat) : List (Nat × Nat) := (List.range n).flatMap fun a => (List.range n).map fun b => (a + 1, b + 1)
theorem links_all (d : PNet) : linksP d = (allP d.n).filter (lkP d) := by
  unfold linksP outL inL allP
  rw [List.filter_flatMap]
theorem mem_allP {n : Nat} {p : Nat × Nat} : p ∈ allP n ↔ 1 ≤ p.1 ∧ p.1 ≤ n ∧ 1 ≤ p.2 ∧ p.2 ≤ n := by
  unfold allP
  rw [List.mem_flatMap]
  constructor
  · rintro ⟨a, ha, h⟩
    rw [List.mem_range] at ha
    obtain ⟨b, hb, rfl⟩ := List.mem_map.1 h
    rw [List.mem_range] at hb
    dsimp only; omega
  · rintro ⟨h1, h2, h3, h4⟩
    obtain ⟨a, b⟩ := p
    dsimp only at h1 h2 h3 h4
    refine ⟨a - 1, by rw [List.mem_range]; omega, List.mem_map.2 ⟨b - 1, by rw [List.mem_range]; omega, ?_⟩⟩
    rw [show a - 1 + 1 = a by omega, show b - 1 + 1 = b by omega]
theorem nodup_allP {n : Nat} (h : n ≤ 9) : (allP n).Nodup := by
  have key : ∀ n, n < 10 → (allP n).Nodup := by decide +kernel
  exact key n (by omega)
theorem cntA_sum (d : PNet) (l : List (Nat × Nat)) : cntA d l = (l.map fun p => lenP d p.1 p.2).sum := by
  have key : ∀ (l : List (Nat × Nat)) (s : Int), l.foldl (fun s p => s + lenP d p.1 p.2) s = s + (l.map fun p => lenP d p.1 p.2).sum := by
    intro l
    induction l with
    | nil => intro s; simp
    | cons p l ih => intro s; rw [List.foldl_cons, ih, List.map_cons, List.sum_cons]; omega
  have := key l 0
  unfold cntA; omega
/-- what calls on one link alone leave -/
def onlyP (d : PNet) (x y : Int) : Prop := ∀ j, isL d.n x y = false ∨ j ≠ kOf x y → d.row j = []
def onB (x y : Int) (h : PHop) : Bool := decide (h.f = x) && decide (h.t = y)
structure ApI (A B : PNet) (x y : Int) : Prop where
  n : A.n = B.n
  le : B.n ≤ 9
  row : isL B.n x y = true → A.row (kOf x y) = B.row (kOf x y)
  only : onlyP B x y
theorem ApI.rows {A B : PNet} {x y : Int} (h : ApI A B x y) : rowP A x y = rowP B x y := by
  unfold rowP
  rw [h.n]
  cases hL : isL B.n x y with
  | false => rfl
  | true => exact h.row hL
theorem ApI.off {A B : PNet} {x y : Int} (h : ApI A B x y) {q : PHop} (hq : onB x y q = false) : ApI (doesN A q) B x y where
  n := (doesN_n A q).trans h.n
  le := h.le
  row := fun hL => by
    rw [← h.row hL, doesN_row]
    cases hl : isL A.n q.f q.t with
    | false => rfl
    | true =>
      rw [cond_true]
      refine put_row_ne _ _ fun e => ?_
      rw [h.n] at hl
      obtain ⟨e1, e2⟩ := kOf_inj h.le hL hl e
      unfold onB at hq
      rw [e1, e2] at hq
      simp at hq
  only := h.only
theorem ApI.on {A B : PNet} {x y : Int} (h : ApI A B x y) {q : PHop} (hq : onB x y q = true) : ApI (doesN A q) (doesN B q) x y := by
  unfold onB at hq
  simp only [Bool.and_eq_true, decide_eq_true_eq] at hq
  obtain ⟨e1, e2⟩ := hq
  refine ⟨by rw [doesN_n, doesN_n, h.n], by rw [doesN_n]; exact h.le, fun hL => ?_, fun j hj => ?_⟩
  · rw [doesN_n] at hL
    have hA : isL A.n q.f q.t = true := by rw [e1, e2, h.n]; exact hL
    have hB : isL B.n q.f q.t = true := by rw [e1, e2]; exact hL
    rw [doesN_row, doesN_row, hA, hB, cond_true, cond_true, ← e1, ← e2, put_row, put_row]
    have := h.row hL
    rw [← e1, ← e2] at this
    rw [this]
  · rw [doesN_n] at hj
    rw [doesN_row]
    cases hl : isL B.n q.f q.t with
    | false => exact h.only j hj
    | true =>
      rw [cond_true, e1, e2]
      rw [e1, e2] at hl
      have hne : j ≠ kOf x y := by rcases hj with hj | hj; rw [hl] at hj; cases hj; exact hj
      rw [put_row_ne _ _ hne]
      exact h.only j hj
theorem ApI.zero {n : Nat} (h : n ≤ 9) (x y : Int) : ApI (netE n) (netE n) x y := ⟨rfl, h, fun _ => rfl, fun _ _ => rfl⟩
end Go.Proofs.Ytgbcmjcaggnobaa.Sim

/- A message put to the front, delivered, dropped, doubled: plain laws. -/
namespace Go.Proofs.Ytgbcmjcaggnobaa.Sim
set_option linter.unusedVariables false
set_option linter.unusedSimpArgs false
theorem over_bad {d : PNet} {x y i : Int} (he : (atP d x y i).2 ≠ 0) : delP d x y i = d ∧ frontP d x y i = d ∧ doubleP d x y i = (d, (atP d x y i).2) := by
  unfold atP delP frontP doubleP at *
  cases hL : isL d.n x y with
  | false => simp only [cond_false, and_self]
  | true =>
    rw [hL] at he
    simp only [cond_true] at he ⊢
    cases hg : getP (d.row (kOf x y)) i with
    | none => simp only [and_self]
    | some b => rw [hg] at he; exact absurd rfl he
end Go.Proofs.Ytgbcmjcaggnobaa.Sim

/- What is sent, delivered, dropped, and on its way: plain laws. -/
namespace Go.Proofs.Ytgbcmjcaggnobaa.Sim
set_option linter.unusedVariables false
set_option linter.unusedSimpArgs false
theorem flat_zero {α β : Type} {g g' : α → List β} : ∀ {L : List α}, (∀ q ∈ L, g' q = g q) → L.flatMap g' = L.flatMap g
  | [], _ => rfl
  | a :: L, h => by rw [List.flatMap_cons, List.flatMap_cons, h a (by simp), flat_zero fun q hq => h q (List.mem_cons_of_mem _ hq)]
theorem flat_one {α : Type} {g g' : α → List PMsg} {p : α} (m : PMsg) : ∀ {L : List α}, L.Nodup → p ∈ L → (∀ q ∈ L, q ≠ p → g' q = g q) → (L.flatMap g').count m + (g p).count m = (L.flatMap g).count m + (g' p).count m
  | [], _, h, _ => by cases h
  | a :: L, hn, h, h0 => by
    rw [List.flatMap_cons, List.flatMap_cons, List.count_append, List.count_append]
    rw [List.nodup_cons] at hn
    by_cases ha : a = p
    · subst ha
      rw [flat_zero (g := g) (g' := g') fun q hq => h0 q (List.mem_cons_of_mem _ hq) fun e => hn.1 (e ▸ hq)]
      omega
    · have hp : p ∈ L := by rcases List.mem_cons.1 h with h | h; exact absurd h.symm ha; exact h
      rw [h0 a (by simp) ha]
      have := flat_one m hn.2 hp (fun q hq hne => h0 q (List.mem_cons_of_mem _ hq) hne)
      omega
def mPut (x y : Int) (l : List (List UInt8)) : List PMsg := l.map fun b => ⟨x, y, b⟩
def gP (d : PNet) (p : Nat × Nat) : List PMsg := mPut p.1 p.2 (d.row (keyP p))
theorem rest_all {d : PNet} (hd : NetOk d) : restP d = (allP d.n).flatMap (gP d) := by
  unfold restP restA
  rw [links_all]
  have hz : ∀ p ∈ allP d.n, lkP d p = false → gP d p = [] := by
    intro p hp hl
    obtain ⟨h1, h2, h3, h4⟩ := mem_allP.1 hp
    have hr : d.row (keyP p) = [] := by
      by_cases hne : p.1 = p.2
      · refine hd.zero _ fun x y hxy e => ?_
        obtain ⟨g1, g2, g3, g4, g5⟩ := hxy
        have := hd.n
        unfold keyP at e
        omega
      · cases hr : d.row (keyP p) with
        | nil => rfl
        | cons b l =>
          have := lkP_of (d := d) (p := p) ⟨h1, h2, h3, h4, hne⟩ (by rw [hr]; simp)
          rw [this] at hl; cases hl
    unfold gP mPut
    rw [hr]; rfl
  generalize allP d.n = L at *
  induction L with
  | nil => rfl
  | cons p L ih =>
    rw [List.filter_cons, List.flatMap_cons]
    cases hl : lkP d p with
    | true => rw [if_pos rfl, List.flatMap_cons, ih fun q hq => hz q (List.mem_cons_of_mem _ hq)]; rfl
    | false => rw [if_neg (by simp), hz p (by simp) hl, ih fun q hq => hz q (List.mem_cons_of_mem _ hq)]; rfl
theorem rest_put {d : PNet} (hd : NetOk d) {x y : Int} (hL : isL d.n x y = true) {l' : List (List UInt8)} (hd' : NetOk (d.put (kOf x y) l')) (m : PMsg) : (restP (d.put (kOf x y) l')).count m + (mPut x y (d.row (kOf x y))).count m = (restP d).count m + (mPut x y l').count m := by
  rw [rest_all hd, rest_all hd']
  obtain ⟨a, b, e1, e2, e3, e4⟩ := isL_spec hL
  have hr := e4
  obtain ⟨g1, g2, g3, g4, g5⟩ := hr
  have h9 := hd.n
  have := flat_one (g := gP d) (g' := gP (d.put (kOf x y) l')) (p := (a, b)) m (nodup_allP hd.n) (mem_allP.2 ⟨g1, g2, g3, g4⟩) (fun q hq hne => by
    obtain ⟨q1, q2, q3, q4⟩ := mem_allP.1 hq
    unfold gP
    rw [put_row_ne]
    intro e
    refine hne ?_
    obtain ⟨u, v⟩ := q
    unfold keyP at e
    rw [e3] at e
    dsimp only at *
    rw [show u = a by omega, show v = b by omega])
  have ek : keyP (a, b) = kOf x y := by rw [e3]; rfl
  have p1 : gP d (a, b) = mPut x y (d.row (kOf x y)) := by unfold gP; rw [ek, e1, e2]
  have p2 : gP (d.put (kOf x y) l') (a, b) = mPut x y l' := by unfold gP; rw [ek, e1, e2, put_row]
  rw [p1, p2] at this
  exact this
theorem mPut_s (x y : Int) (l : List (List UInt8)) (b : List UInt8) (m : PMsg) : (mPut x y (l ++ [b])).count m = (mPut x y l).count m + [(⟨x, y, b⟩ : PMsg)].count m := by
  unfold mPut; rw [List.map_append, List.count_append]; rfl
theorem mPut_c (x y : Int) (l : List (List UInt8)) (b : List UInt8) (m : PMsg) : (mPut x y (b :: l)).count m = (mPut x y l).count m + [(⟨x, y, b⟩ : PMsg)].count m := by
  show ([(⟨x, y, b⟩ : PMsg)] ++ mPut x y l).count m = _
  rw [List.count_append]; omega
theorem mPut_e (x y : Int) (l : List (List UInt8)) {k : Nat} (hk : k < l.length) (m : PMsg) : (mPut x y l).count m = (mPut x y (l.eraseIdx k)).count m + [(⟨x, y, l[k]⟩ : PMsg)].count m := by
  have e1 : l = l.take k ++ ([l[k]] ++ l.drop (k + 1)) := by
    rw [List.singleton_append, List.getElem_cons_drop, List.take_append_drop]
  have e2 : l.eraseIdx k = l.take k ++ l.drop (k + 1) := List.eraseIdx_eq_take_drop_succ ..
  have e3 : (mPut x y l).count m = (mPut x y (l.take k ++ ([l[k]] ++ l.drop (k + 1)))).count m := by rw [← e1]
  rw [e3, e2]
  unfold mPut
  rw [List.map_append, List.map_append, List.map_append, List.count_append, List.count_append, List.count_append]
  show _ = _ + [(⟨x, y, l[k]⟩ : PMsg)].count m
  rw [List.map_cons, List.map_nil]
  omega
def inS (d : PNet) (h : PHop) : List PMsg := if (doesR d h).2.2 ≠ 0 then [] else if knd h.kind = 0 ∨ knd h.kind = 1 then [⟨h.f, h.t, h.load⟩] else if knd h.kind = 4 then [(atP d h.f h.t h.no).1] else []
def outS (d : PNet) (h : PHop) : List PMsg := if (doesR d h).2.2 ≠ 0 then [] else if knd h.kind = 2 ∨ knd h.kind = 3 then [(atP d h.f h.t h.no).1] else []
theorem refused {d : PNet} (h : PHop) (he : (doesR d h).2.2 ≠ 0) : doesN d h = d := by
  unfold doesR at he
  unfold doesN
  by_cases h1 : knd h.kind = 0 ∨ knd h.kind = 1
  · rw [if_pos h1] at he ⊢
    unfold sendP at he ⊢
    cases hL : isL d.n h.f h.t with
    | false => rfl
    | true =>
      rw [hL, cond_true] at he
      rw [cond_true]
      by_cases h2 : 16384 < h.load.length
      · rw [if_pos h2]
      · rw [if_neg h2] at he ⊢
        by_cases h3 : (d.row (kOf h.f h.t)).length < 32
        · rw [if_pos h3] at he; exact absurd rfl he
        · rw [if_neg h3]
  rw [if_neg h1] at he ⊢
  by_cases h2 : knd h.kind = 2
  · rw [if_pos h2] at he; rw [if_pos (.inl h2)]; exact (over_bad he).1
  rw [if_neg h2] at he
  by_cases h3 : knd h.kind = 3
  · rw [if_pos h3] at he; rw [if_pos (.inr h3)]; exact (over_bad he).1
  rw [if_neg h3] at he
  rw [if_neg (by rintro (e | e) <;> contradiction)]
  by_cases h4 : knd h.kind = 4
  · rw [if_pos h4] at he ⊢
    have : (atP d h.f h.t h.no).2 ≠ 0 ∨ (atP d h.f h.t h.no).2 = 0 := by omega
    rcases this with e | e
    · exact congrArg Prod.fst (over_bad e).2.2
    · unfold doubleP at he ⊢
      cases hL : isL d.n h.f h.t with
      | false => rfl
      | true =>
        rw [hL, cond_true] at he
        rw [cond_true]
        cases hg : getP (d.row (kOf h.f h.t)) h.no with
        | none => rfl
        | some b =>
          rw [hg] at he
          dsimp only at he ⊢
          by_cases h3 : (d.row (kOf h.f h.t)).length < 32
          · rw [if_pos h3] at he; exact absurd rfl he
          · rw [if_neg h3]
  rw [if_neg h4] at he ⊢
  by_cases h5 : knd h.kind = 5
  · rw [if_pos h5] at he ⊢; exact (over_bad he).2.1
  rw [if_neg h5]
theorem at_link {d : PNet} {x y i : Int} (he : (atP d x y i).2 = 0) : isL d.n x y = true ∧ ∃ (k : Nat) (hk : k < (d.row (kOf x y)).length), i = k ∧ atP d x y i = (⟨x, y, (d.row (kOf x y))[k]⟩, 0) ∧ getP (d.row (kOf x y)) i = some (d.row (kOf x y))[k] := by
  cases hL : isL d.n x y with
  | false => unfold atP at he; rw [hL] at he; cases he
  | true =>
    refine ⟨rfl, ?_⟩
    cases hg : getP (d.row (kOf x y)) i with
    | none => unfold atP at he; rw [hL, cond_true, hg] at he; cases he
    | some b =>
      obtain ⟨k, hk, h1, h2, h3⟩ := getP_some hg
      refine ⟨k, hk, h1, ?_, by rw [h3]⟩
      unfold atP
      rw [hL, cond_true, hg, h3]
theorem keep_step {d : PNet} (hd : NetOk d) (h : PHop) (m : PMsg) : (inS d h).count m + (restP d).count m = (outS d h).count m + (restP (doesN d h)).count m := by
  by_cases he : (doesR d h).2.2 ≠ 0
  · unfold inS outS
    rw [if_pos he, if_pos he, refused h he]
  have hdN := does_okN hd h
  unfold inS outS
  rw [if_neg he, if_neg he]
  have he : (doesR d h).2.2 = 0 := by omega
  rw [doesN_row] at hdN ⊢
  unfold doesR at he
  unfold rowN at hdN ⊢
  by_cases h1 : knd h.kind = 0 ∨ knd h.kind = 1
  · have h23 : ¬ (knd h.kind = 2 ∨ knd h.kind = 3) := by omega
    rw [if_pos h1] at he hdN ⊢
    rw [if_pos h1, if_neg h23]
    dsimp only at he
    rw [send_E] at he
    cases hL : isL d.n h.f h.t with
    | false => rw [hL] at he; cases he
    | true =>
      rw [hL, cond_true] at he hdN
      rw [cond_true]
      unfold sendE at he
      by_cases h2 : 16384 < h.load.length
      · rw [if_pos h2] at he; cases he
      rw [if_neg h2] at he hdN ⊢
      by_cases h3 : (d.row (kOf h.f h.t)).length < 32
      · rw [if_pos h3] at hdN ⊢
        have q1 := rest_put hd hL hdN m
        have q2 := mPut_s h.f h.t (d.row (kOf h.f h.t)) h.load m
        have q3 : ([] : List PMsg).count m = 0 := rfl
        omega
      · rw [if_neg h3] at he; cases he
  rw [if_neg h1] at he hdN ⊢
  rw [if_neg h1]
  have k1 : knd h.kind = 2 ∨ knd h.kind = 3 → (atP d h.f h.t h.no).2 = 0 := by
    intro h23
    by_cases h2 : knd h.kind = 2
    · rw [if_pos h2] at he; exact he
    · rw [if_neg h2, if_pos (h23.resolve_left h2)] at he; exact he
  by_cases h23 : knd h.kind = 2 ∨ knd h.kind = 3
  · have h4 : ¬ knd h.kind = 4 := by omega
    rw [if_pos h23] at hdN ⊢
    rw [if_pos h23, if_neg h4]
    obtain ⟨hL, k, hk, e1, e2, e3⟩ := at_link (k1 h23)
    rw [hL, cond_true, e3] at hdN
    rw [hL, cond_true, e2, e3]
    have e4 : h.no.toNat = k := by omega
    dsimp only at hdN ⊢
    rw [e4] at hdN ⊢
    have q1 := rest_put hd hL hdN m
    have q2 := mPut_e h.f h.t (d.row (kOf h.f h.t)) hk m
    have q3 : ([] : List PMsg).count m = 0 := rfl
    omega
  rw [if_neg h23] at hdN ⊢
  rw [if_neg h23]
  rw [if_neg (fun e => h23 (.inl e)), if_neg (fun e => h23 (.inr e))] at he
  by_cases h4 : knd h.kind = 4
  · rw [if_pos h4] at he hdN ⊢
    rw [if_pos h4]
    dsimp only at he
    have h0 : (atP d h.f h.t h.no).2 = 0 := by
      by_cases e : (atP d h.f h.t h.no).2 = 0
      · exact e
      · have := congrArg Prod.snd (over_bad e).2.2
        dsimp only at this
        omega
    rw [double_E] at he
    obtain ⟨hL, k, hk, e1, e2, e3⟩ := at_link h0
    unfold dblE at he
    rw [hL, cond_true, e3] at he hdN
    rw [hL, cond_true, e2, e3]
    dsimp only at he hdN ⊢
    by_cases h3 : (d.row (kOf h.f h.t)).length < 32
    · rw [if_pos h3] at hdN ⊢
      have q1 := rest_put hd hL hdN m
      have q2 := mPut_s h.f h.t (d.row (kOf h.f h.t)) (d.row (kOf h.f h.t))[k] m
      have q3 : ([] : List PMsg).count m = 0 := rfl
      omega
    · rw [if_neg h3] at he; cases he
  rw [if_neg h4] at he hdN ⊢
  rw [if_neg h4]
  by_cases h5 : knd h.kind = 5
  · rw [if_pos h5] at he hdN ⊢
    obtain ⟨hL, k, hk, e1, e2, e3⟩ := at_link he
    have e4 : h.no.toNat = k := by omega
    rw [hL, cond_true, e3] at hdN
    rw [hL, cond_true, e3]
    dsimp only at hdN ⊢
    rw [e4] at hdN ⊢
    have q1 := rest_put hd hL hdN m
    have q2 := mPut_e h.f h.t (d.row (kOf h.f h.t)) hk m
    have q3 := mPut_c h.f h.t ((d.row (kOf h.f h.t)).eraseIdx k) (d.row (kOf h.f h.t))[k] m
    omega
  rw [if_neg h5]
  cases hL : isL d.n h.f h.t with
  | false => rfl
  | true => rw [cond_true, put_same]
end Go.Proofs.Ytgbcmjcaggnobaa.Sim

/- All that was sent and delivered, call by call: plain laws. -/
namespace Go.Proofs.Ytgbcmjcaggnobaa.Sim
set_option linter.unusedVariables false
set_option linter.unusedSimpArgs false
def inF (d : PNet) : List PHop → List PMsg
  | [] => []
  | h :: l => inS d h ++ inF (doesN d h) l
def outF (d : PNet) : List PHop → List PMsg
  | [] => []
  | h :: l => outS d h ++ outF (doesN d h) l
theorem inF_s : ∀ (d : PNet) (l : List PHop) (h : PHop), inF d (l ++ [h]) = inF d l ++ inS (l.foldl doesN d) h
  | d, [], h => by show inS d h ++ [] = [] ++ inS d h; simp
  | d, x :: l, h => by show inS d x ++ inF (doesN d x) (l ++ [h]) = (inS d x ++ inF (doesN d x) l) ++ _; rw [inF_s, List.append_assoc]; rfl
theorem outF_s : ∀ (d : PNet) (l : List PHop) (h : PHop), outF d (l ++ [h]) = outF d l ++ outS (l.foldl doesN d) h
  | d, [], h => by show outS d h ++ [] = [] ++ outS d h; simp
  | d, x :: l, h => by show outS d x ++ outF (doesN d x) (l ++ [h]) = (outS d x ++ outF (doesN d x) l) ++ _; rw [outF_s, List.append_assoc]; rfl
theorem keep_all (m : PMsg) : ∀ {d : PNet} (_ : NetOk d) (l : List PHop), (inF d l).count m + (restP d).count m = (outF d l).count m + (restP (l.foldl doesN d)).count m
  | d, _, [] => by show List.count m [] + _ = List.count m [] + _; rfl
  | d, hd, h :: l => by
    have h1 := keep_step hd h m
    have h2 := keep_all m (does_okN hd h) l
    show (inS d h ++ inF (doesN d h) l).count m + _ = (outS d h ++ outF (doesN d h) l).count m + (restP (l.foldl doesN (doesN d h))).count m
    rw [List.count_append, List.count_append]; omega
theorem rest_E {n : Nat} (h : n ≤ 9) : restP (netE n) = [] := by
  rw [rest_all (netE_ok h)]
  have : ∀ L : List (Nat × Nat), L.flatMap (gP (netE n)) = [] := by
    intro L
    induction L with
    | nil => rfl
    | cons p L ih => rw [List.flatMap_cons, ih]; rfl
  exact this _
theorem keep_play {n : Nat} (h : n ≤ 9) (l : List PHop) (m : PMsg) : (inF (netE n) l).count m = (outF (netE n) l).count m + (restP (playN n l)).count m := by
  have := keep_all m (netE_ok h) l
  rw [rest_E h] at this
  have h0 : ([] : List PMsg).count m = 0 := rfl
  unfold playN; omega
theorem keep_len {n : Nat} (h : n ≤ 9) (l : List PHop) : (inF (netE n) l).length = (outF (netE n) l).length + (restP (playN n l)).length := by
  rw [← List.length_append]
  exact (List.perm_iff_count.2 fun m => by rw [List.count_append]; exact keep_play h l m).length_eq
theorem many_count (l : List PMsg) (m : PMsg) : manyP l m = l.count m := by
  unfold manyP
  rw [List.count, List.countP_eq_length_filter]
  congr 1
  refine List.filter_congr fun x _ => ?_
  cases hs : sameP x m with
  | true => rw [sameP_iff.1 hs]; simp
  | false =>
    symm
    rw [beq_eq_false_iff_ne]
    intro e
    rw [sameP_iff.2 e] at hs; cases hs
theorem cnt_rest {d : PNet} (hd : NetOk d) : cntP d = ((restP d).length : Int) := by
  unfold cntP restP
  have hk : ∀ p ∈ linksP d, IsL d.n p.1 p.2 := fun p hp => (mem_links.1 hp).1
  rw [cntA_sum]
  generalize linksP d = L at *
  induction L with
  | nil => rfl
  | cons p L ih =>
    have e : restA d (p :: L) = msOf d p (d.row (keyP p)) ++ restA d L := rfl
    rw [List.map_cons, List.sum_cons, ih fun q hq => hk q (List.mem_cons_of_mem _ hq), e, List.length_append, lenP_link (hk p (by simp))]
    unfold msOf
    rw [List.length_map]; omega
theorem inS_len (d : PNet) (h : PHop) : (inS d h).length ≤ 1 := by
  unfold inS
  repeat' split
  all_goals simp
theorem outS_len (d : PNet) (h : PHop) : (outS d h).length ≤ 1 := by
  unfold outS
  repeat' split
  all_goals simp
theorem inF_len : ∀ (d : PNet) (l : List PHop), (inF d l).length ≤ l.length
  | _, [] => Nat.le_refl _
  | d, h :: l => by
    have := inS_len d h
    have := inF_len (doesN d h) l
    show (inS d h ++ inF (doesN d h) l).length ≤ _
    rw [List.length_append, List.length_cons]; omega
theorem outF_len : ∀ (d : PNet) (l : List PHop), (outF d l).length ≤ l.length
  | _, [] => Nat.le_refl _
  | d, h :: l => by
    have := outS_len d h
    have := outF_len (doesN d h) l
    show (outS d h ++ outF (doesN d h) l).length ≤ _
    rw [List.length_append, List.length_cons]; omega
theorem at_big {d : PNet} (hd : NetOk d) (x y i : Int) : (atP d x y i).1.b.length ≤ 16384 := by
  unfold atP
  cases isL d.n x y with
  | false => exact Nat.zero_le _
  | true =>
    rw [cond_true]
    cases hg : getP (d.row (kOf x y)) i with
    | none => exact Nat.zero_le _
    | some b =>
      obtain ⟨k, hk, _, _, rfl⟩ := getP_some hg
      exact hd.big _ _ (List.getElem_mem hk)
theorem inF_big : ∀ {d : PNet} (_ : NetOk d) (l : List PHop), (∀ h ∈ l, h.load.length ≤ 4000000) → ∀ x ∈ inF d l, x.b.length ≤ 4000000
  | _, _, [], _, x, hx => by cases hx
  | d, hd, h :: l, hl, x, hx => by
    rcases List.mem_append.1 (show x ∈ inS d h ++ inF (doesN d h) l from hx) with hx | hx
    · have ha := at_big hd h.f h.t h.no
      unfold inS at hx
      split at hx
      · cases hx
      · split at hx
        · rw [List.mem_singleton] at hx; subst hx; exact hl h (by simp)
        · split at hx
          · rw [List.mem_singleton] at hx; subst hx; omega
          · cases hx
    · exact inF_big (does_okN hd h) l (fun q hq => hl q (List.mem_cons_of_mem _ hq)) x hx
theorem outF_big : ∀ {d : PNet} (_ : NetOk d) (l : List PHop), ∀ x ∈ outF d l, x.b.length ≤ 4000000
  | _, _, [], x, hx => by cases hx
  | d, hd, h :: l, x, hx => by
    rcases List.mem_append.1 (show x ∈ outS d h ++ outF (doesN d h) l from hx) with hx | hx
    · have ha := at_big hd h.f h.t h.no
      unfold outS at hx
      split at hx
      · cases hx
      · split at hx
        · rw [List.mem_singleton] at hx; subst hx; omega
        · cases hx
    · exact outF_big (does_okN hd h) l x hx
end Go.Proofs.Ytgbcmjcaggnobaa.Sim

/- Arguments opened: what a reading says of the cells, type by type. -/
namespace Go.Proofs.Ytgbcmjcaggnobaa.Mem
set_option linter.unusedVariables false
set_option linter.unusedSimpArgs false
open Go.RowKit
/-- one cell, a slice -/
def SliceC {α : Type} (R : Rel α) (sz : Nat) : Rel (List α) := fun B w xs cs => ∃ A cap, cs = [.slice A xs.length cap] ∧ SliceAt R sz B w A xs ∧ xs.length ≤ cap ∧ cap ≤ maxLen
theorem SliceC.kept {α : Type} {R : Rel α} {sz : Nat} (hR : Kept R) : Kept (SliceC R sz) := by
  rintro B B' w w' x cs ⟨A, cap, rfl, h, h1, h2⟩ hk hB
  exact ⟨A, cap, rfl, h.keep hR hk hB, h1, h2⟩
/-- one cell, a number -/
def IntC (k : IntKind) : Rel Int := fun _ _ x cs => cs = [.int k x] ∧ (Lit.int k x).wf = true
theorem IntC.kept (k : IntKind) : Kept (IntC k) := fun _ _ _ _ _ _ h _ _ => h
/-- one cell, a text -/
def StrC : Rel ByteArray := fun _ _ s cs => cs = [.string s] ∧ s.size ≤ maxLen
theorem StrC.kept : Kept StrC := fun _ _ _ _ _ _ h _ _ => h
end Go.Proofs.Ytgbcmjcaggnobaa.Mem
namespace Go.Proofs.Ytgbcmjcaggnobaa.Opn
set_option linter.unusedVariables false
set_option linter.unusedSimpArgs false
set_option maxRecDepth 100000
open Go.RowKit Go.WideShapes Go.ChangeShapes Go.Joins Mem

/-- a reading at type t gives R -/
def Opens {α : Type} (t : TypeId) (R : Rel α) : Prop :=
  ∀ (H : Type) (enc : TypeId × Value → H) (w : World) (base : Nat) (spare : Nat → Bool) (held : Bool) (fuel : Nat) (cs : List Value) (x : DataW H × List MemPlace), DataW.trod enc Try.prog w base spare held fuel t cs = some x → ∃ y, R w.heap.size w y cs

theorem slice_opens {α : Type} [Inhabited α] {t e sz : Nat} {R : Rel α} (ht : Try.prog.underlying t = some (.slice e)) (hC : Try.prog.cellsOf e = sz) (hsz : 0 < sz) (hR : Opens e R)
    {H : Type} {enc : TypeId × Value → H} {w : World} {base : Nat} {spare : Nat → Bool} {held : Bool} {fuel : Nat} {cs : List Value} {x : DataW H × List MemPlace} (h : DataW.trod enc Try.prog w base spare held fuel t cs = some x) :
    ∃ (A : Option Addr) (cap : Nat) (xs : List α), cs = [.slice A xs.length cap] ∧ SliceAt R sz w.heap.size w A xs ∧ xs.length ≤ cap ∧ cap ≤ maxLen := by
  rcases Go.Deep.open_slice ht h with ⟨hcs, _⟩ | ⟨a, len, cap, m, n, D, Pl, hcs, hb, hl, hm, hmm, hx, hi⟩
  · exact ⟨none, 0, [], hcs, SliceAt.nil, Nat.le_refl _, Nat.zero_le _⟩
  · have hlm : len ≤ m := by rw [hmm]; split <;> omega
    have hex : ∀ i, i < len → ∃ (y : α) (cs' : List Value), w.cells? base (a.add (i * sz)) sz = some cs' ∧ R w.heap.size w y cs' := by
      intro i hil
      obtain ⟨cs', hc, ht'⟩ := hi i (by omega)
      rw [hC] at hc
      obtain ⟨y, hy⟩ := hR H enc w base spare held n cs' _ ht'
      exact ⟨y, cs', hc, hy⟩
    have hf : ∃ f : Nat → α, ∀ i, i < len → ∃ cs', w.cells? base (a.add (i * sz)) sz = some cs' ∧ R w.heap.size w (f i) cs' := by
      refine ⟨fun i => if h : i < len then (hex i h).choose else default, fun i hil => ?_⟩
      simp only [dif_pos hil]
      exact (hex i hil).choose_spec
    obtain ⟨f, hf⟩ := hf
    refine ⟨some a, cap, (List.range len).map f, by simpa using hcs, ?_, by simpa using hl, hm⟩
    intro k y hk
    have hkl : k < len := by
      rcases Nat.lt_or_ge k len with h' | h'
      · exact h'
      · rw [List.getElem?_eq_none (by simpa using h')] at hk; cases hk
    rw [List.getElem?_map, List.getElem?_range hkl] at hk
    simp at hk; subst hk
    obtain ⟨cs', hc, hr⟩ := hf k hkl
    obtain ⟨_, hlen, hat⟩ := World.cells?_some hc
    have h0 : w.cell? ((a.add (k * sz)).add 0) = some (cs'[0]'(by omega)) := by rw [hat 0 hsz, List.getElem?_eq_getElem]
    obtain ⟨b, off, spot⟩ := a
    have hspot : k = 0 → spot = none := by
      intro hk0; subst hk0
      simp [Addr.add] at h0
      cases spot with
      | none => rfl
      | some q =>
        simp only [World.cell?] at h0
        split at h0
        · simp at h0
        · cases h0
    -- the row's address bears no spot: its first element shows it
    have hsp : spot = none := by
      rcases Nat.eq_zero_or_pos k with hk0 | hk0
      · exact hspot hk0
      · obtain ⟨cs0, hc0, _⟩ := hf 0 (by omega)
        obtain ⟨_, hlen0, hat0⟩ := World.cells?_some hc0
        have h00 : w.cell? (((⟨b, off, spot⟩ : Addr).add (0 * sz)).add 0) = some (cs0[0]'(by omega)) := by rw [hat0 0 hsz, List.getElem?_eq_getElem]
        simp [Addr.add] at h00
        cases spot with
        | none => rfl
        | some q =>
          simp only [World.cell?] at h00
          split at h00
          · simp at h00
          · cases h00
    subst hsp
    have hadd : ∀ j, ((⟨b, off, none⟩ : Addr).add (k * sz)).add j = ⟨b, off + (k * sz + j), none⟩ := by
      intro j
      rw [Go.Deep.add_add, addr_add]
    refine ⟨b, off, cs', rfl, ?_, hlen, ?_, hr⟩
    · have := World.block_lt_of_cell? w _ h0
      rw [hadd] at this
      exact this
    · intro j v hj
      have hjl : j < sz := by rw [← hlen]; exact (List.getElem?_eq_some_iff.1 hj).1
      rw [← hadd, hat j hjl, hj]
theorem opens_int {t : TypeId} {k : IntKind} (ht : Try.prog.underlying t = some (.int k)) : Opens t (IntC k) := by
  intro H enc w base spare held fuel cs x h
  obtain ⟨n, rfl, _, hw⟩ := DataW.trod_int ht h
  exact ⟨n, rfl, hw⟩
theorem opens_slice {α : Type} [Inhabited α] {t e sz : Nat} {R : Rel α} (ht : Try.prog.underlying t = some (.slice e)) (hC : Try.prog.cellsOf e = sz) (hsz : 0 < sz) (hR : Opens e R) : Opens t (SliceC R sz) := by
  intro H enc w base spare held fuel cs x h
  obtain ⟨A, cap, xs, rfl, hA, h1, h2⟩ := slice_opens ht hC hsz hR h
  exact ⟨xs, A, cap, rfl, hA, h1, h2⟩
/-- a slice handed in -/
theorem open_slice_arg {α : Type} {t e : TypeId} {R : Rel α} {sz : Nat} (ht : Try.prog.underlying t = some (.slice e)) (hO : Opens t (SliceC R sz)) {H : Type} {enc : TypeId × Value → H} {w : World} {r : Reach} {b0 base : Nat} {spare : Nat → Bool} {held : Bool} {v : Value} {d : DataW H} {p : List MemPlace}
    (hv : Value.okWide Try.prog w r b0 t v) (h : DataW.Trod enc Try.prog w base spare held t v d p) :
    ∃ (A : Option Addr) (cap : Nat) (xs : List α), v = .slice A xs.length cap ∧ SliceAt R sz w.heap.size w A xs ∧ xs.length ≤ cap ∧ cap ≤ maxLen := by
  obtain ⟨a, len, c, rfl⟩ := okWide_slice ht hv
  obtain ⟨fuel, hf⟩ := h
  obtain ⟨xs, A, cap, hcs, hA, h1, h2⟩ := hO H enc w base spare held fuel _ _ hf
  simp [Value.cells] at hcs
  obtain ⟨rfl, rfl, rfl⟩ := hcs
  exact ⟨_, _, xs, rfl, hA, h1, h2⟩
/-- a number handed in -/
theorem open_int_arg {t : TypeId} {k : IntKind} (ht : Try.prog.underlying t = some (.int k)) {H : Type} {enc : TypeId × Value → H} {w : World} {r : Reach} {b0 base : Nat} {spare : Nat → Bool} {held : Bool} {v : Value} {d : DataW H} {p : List MemPlace}
    (hv : Value.okWide Try.prog w r b0 t v) (h : DataW.Trod enc Try.prog w base spare held t v d p) : ∃ n, v = .int k n ∧ (Lit.int k n).wf = true := by
  obtain ⟨n, rfl⟩ := okWide_int ht hv
  obtain ⟨fuel, hf⟩ := h
  obtain ⟨m, hm, _, hw⟩ := DataW.trod_int ht hf
  simp [Value.cells] at hm
  subst hm
  exact ⟨_, rfl, hw⟩
end Go.Proofs.Ytgbcmjcaggnobaa.Opn

/- Calls on links in memory: relations, opened, as trees of data. -/
namespace Go.Proofs.Ytgbcmjcaggnobaa.Hop
set_option linter.unusedVariables false
set_option linter.unusedSimpArgs false
open Go.RowKit Go.WideShapes Go.ChangeShapes Go.Joins Mem Sim Opn
def ByteC : Rel UInt8 := fun _ _ b cs => cs = [.int .u8 (b.toNat : Int)]
theorem one_byte : Try.prog.cellsOf 5 = 1 := by kernel_rfl
theorem one_bytes : Try.prog.cellsOf 28 = 1 := by kernel_rfl
theorem one_int : Try.prog.cellsOf 3 = 1 := by kernel_rfl
theorem byte_opens : Opens 5 ByteC := by
  intro H enc w base spare held fuel cs x h
  obtain ⟨n, rfl, _, hw⟩ := DataW.trod_int Try.underlying5 h
  have hb := bounds_u8 hw
  refine ⟨UInt8.ofNat n.toNat, ?_⟩
  unfold ByteC
  rw [UInt8.toNat_ofNat']
  congr 2; omega
theorem bytes_opens : Opens 28 (SliceC ByteC 1) := opens_slice (R := ByteC) Try.underlying28 one_byte (by omega) byte_opens
theorem cellsAre_nil (m : Mm) : CellsAre m [] [] := ⟨rfl, fun j t v h => by simp at h⟩
theorem cellsAre_cons {m : Mm} {t : T} {v : Value} {ts : List T} {vs : List Value} (h : TR m t v) (h1 : v.oneCell' = true) (hs : CellsAre m ts vs) : CellsAre m (t :: ts) (v :: vs) := by
  refine ⟨by simp [hs.1], fun j t' v' h2 h3 => ?_⟩
  cases j with
  | zero => simp at h2 h3; subst h2 h3; exact ⟨h, h1⟩
  | succ j => exact hs.2 j t' v' (by simpa using h2) (by simpa using h3)
theorem sl_bwd {α : Type} {R : Mem.Rel α} {enc : α → List T} {sz B : Nat} {w : World} {xs : List α} {c : Value} (hsz : ∀ x, (enc x).length = sz) (hR : ∀ x cs, R B w x cs → CellsAre (allm w) (enc x) cs) (h : SliceC R sz B w xs [c]) : TR (allm w) (.sl sz (xs.map enc)) c ∧ c.oneCell' = true := by
  obtain ⟨A, cap, e, hA, h1, h2⟩ := h
  injection e with e; subst e
  exact ⟨tr_rows_bwd (allm w) hA h1 h2 hsz (fun x _ cs hr => hR x cs hr) (fun b o v _ h => h), rfl⟩
theorem int_bwd {k : IntKind} {B : Nat} {w : World} {n : Int} {c : Value} (h : IntC k B w n [c]) : TR (allm w) (.v (.int k n)) c ∧ c.oneCell' = true := by
  obtain ⟨e, _⟩ := h; injection e with e; subst e; exact ⟨.v _, rfl⟩
theorem byte_bwd {B : Nat} {w : World} (x : UInt8) (cs : List Value) (h : ByteC B w x cs) : CellsAre (allm w) (byteT x) cs := by
  obtain rfl := h
  exact cellsAre_cons (.v _) rfl (cellsAre_nil _)
theorem bytes_bwdC {B : Nat} {w : World} {xs : List UInt8} {c : Value} (h : SliceC ByteC 1 B w xs [c]) : TR (allm w) (.sl 1 (xs.map byteT)) c ∧ c.oneCell' = true := sl_bwd (fun _ => rfl) byte_bwd h
theorem sl_bwdA {α : Type} {R : Mem.Rel α} {enc : α → List T} {sz B : Nat} {w : World} {A : Option Addr} {xs : List α} {cap : Nat} (hsz : ∀ x, (enc x).length = sz) (hR : ∀ x cs, R B w x cs → CellsAre (allm w) (enc x) cs) (hA : SliceAt R sz B w A xs) (h1 : xs.length ≤ cap) (h2 : cap ≤ maxLen) : TR (allm w) (.sl sz (xs.map enc)) (.slice A xs.length cap) :=
  tr_rows_bwd (allm w) hA h1 h2 hsz (fun x _ cs hr => hR x cs hr) (fun b o v _ h => h)
theorem sl_ok {α : Type} {R : Mem.Rel α} {sz B : Nat} {w : World} {A : Option Addr} {xs : List α} {ok : α → Prop} (hR : ∀ B w x cs, R B w x cs → ok x) (hA : SliceAt R sz B w A xs) : ∀ x ∈ xs, ok x := fun x hx => by
  obtain ⟨k, hk⟩ := List.getElem?_of_mem hx
  obtain ⟨b, off, cs, _, _, _, _, hr⟩ := hA k x hk
  exact hR _ _ _ _ hr
instance : Inhabited PHop := ⟨⟨0, 0, 0, 0, []⟩⟩
def HopR : Rel PHop := fun B w x cs => ∃ c0 c1 c2 c3 c4, cs = [c0, c1, c2, c3, c4] ∧ IntC .i64 B w x.kind [c0] ∧ IntC .i64 B w x.f [c1] ∧ IntC .i64 B w x.t [c2] ∧ IntC .i64 B w x.no [c3] ∧ SliceC ByteC 1 B w x.load [c4]
theorem cells_Hop : Try.prog.cellsOf 30 = 5 := by kernel_rfl
set_option maxRecDepth 100000 in
theorem hop_opens : Opens 30 HopR := by
  intro H enc w base spare held fuel cs x h
  obtain ⟨xs, n, _, hx, hlen, hxl, hf⟩ := DataW.trod_struct Try.underlying30 h
  have hl := hlen.trans cells_Hop
  obtain ⟨c0, c1, c2, c3, c4, rfl⟩ : ∃ c0 c1 c2 c3 c4, cs = [c0, c1, c2, c3, c4] := by
    match cs, hl with
    | [c0, c1, c2, c3, c4], _ => exact ⟨c0, c1, c2, c3, c4, rfl⟩
  obtain ⟨y0, y1, y2, y3, y4, rfl⟩ : ∃ y0 y1 y2 y3 y4, xs = [y0, y1, y2, y3, y4] := by
    match xs, hxl with
    | [y0, y1, y2, y3, y4], _ => exact ⟨y0, y1, y2, y3, y4, rfl⟩
  have f0 : DataW.trod enc Try.prog w base spare held n 3 [c0] = some y0 := by
    have := hf 0 _ rfl
    simpa [one_bytes, one_int] using this
  obtain ⟨v0, r0⟩ := (opens_int Try.underlying3) H enc w base spare held n [c0] y0 f0
  have f1 : DataW.trod enc Try.prog w base spare held n 3 [c1] = some y1 := by
    have := hf 1 _ rfl
    simpa [one_bytes, one_int] using this
  obtain ⟨v1, r1⟩ := (opens_int Try.underlying3) H enc w base spare held n [c1] y1 f1
  have f2 : DataW.trod enc Try.prog w base spare held n 3 [c2] = some y2 := by
    have := hf 2 _ rfl
    simpa [one_bytes, one_int] using this
  obtain ⟨v2, r2⟩ := (opens_int Try.underlying3) H enc w base spare held n [c2] y2 f2
  have f3 : DataW.trod enc Try.prog w base spare held n 3 [c3] = some y3 := by
    have := hf 3 _ rfl
    simpa [one_bytes, one_int] using this
  obtain ⟨v3, r3⟩ := (opens_int Try.underlying3) H enc w base spare held n [c3] y3 f3
  have f4 : DataW.trod enc Try.prog w base spare held n 28 [c4] = some y4 := by
    have := hf 4 _ rfl
    simpa [one_bytes, one_int] using this
  obtain ⟨v4, r4⟩ := bytes_opens H enc w base spare held n [c4] y4 f4
  exact ⟨⟨v0, v1, v2, v3, v4⟩, c0, c1, c2, c3, c4, rfl, r0, r1, r2, r3, r4⟩
theorem hop_bwd {B : Nat} {w : World} (x : PHop) (cs : List Value) (h : HopR B w x cs) : CellsAre (allm w) (hopC x) cs := by
  obtain ⟨c0, c1, c2, c3, c4, rfl, h0, h1, h2, h3, h4⟩ := h
  exact cellsAre_cons (int_bwd h0).1 (int_bwd h0).2 (cellsAre_cons (int_bwd h1).1 (int_bwd h1).2 (cellsAre_cons (int_bwd h2).1 (int_bwd h2).2 (cellsAre_cons (int_bwd h3).1 (int_bwd h3).2 (cellsAre_cons (bytes_bwdC h4).1 (bytes_bwdC h4).2 (cellsAre_nil _)))))
theorem hop_ok (B : Nat) (w : World) (x : PHop) (cs : List Value) (h : HopR B w x cs) : x.load.length ≤ 9223372036854775807 := by
  obtain ⟨c0, c1, c2, c3, c4, rfl, _, _, _, _, A, cap, e, hA, h1, h2⟩ := h
  unfold maxLen at h2; omega
theorem hops_opens : Opens 22 (SliceC HopR 5) := opens_slice (R := HopR) Try.underlying22 cells_Hop (by omega) hop_opens
theorem len_ok {n cap : Nat} (h : n ≤ cap) (h2 : cap ≤ maxLen) : n ≤ 9223372036854775807 := by unfold maxLen at h2; omega
end Go.Proofs.Ytgbcmjcaggnobaa.Hop
