/- Merged by bundles.py: SimLe, PlNet3, PlNet5, Open0, Rel23. -/
import Derived.Test.YtgbcmjcaggnobaaP25
import Derived.Test.YtgbcmjcaggnobaaP24
import Derived.Test.YtgbcmjcaggnobaaP14
import Derived.Test.YtgbcmjcaggnobaaP0
import Derived.Deep.Slices
import Derived.OpenShut
/- A call that leaves a resource as it was writes nothing: it may stand beside others. -/
namespace Go.Proofs.Ytgbcmjcaggnobaa.Sim
set_option linter.unusedVariables false
set_option linter.unusedSimpArgs false
open Go.RowKit Mem
section
variable {P : Program} {N : Nat} {Q : Exit → St → Prop} {ops : Array Oper} {rest : List Oper} {o : Oper} {tm : List (Nat × A)} {bx bx0 bx1 : List (Nat × List A)} {ow : List (Nat × Own)}
/-- a call that is lent no rows, and makes none: nothing else of the state turns -/
theorem sops_lcall0 {f : FuncId} {xs : List Operand} {at_ : Array TypeId} {args : List A} {r : A} {d : Nat} (hc : LCalls P f args bx0 [] r bx1 []) (fb : Nat → Nat) (hg : GuardIs ops tm o true) (ho : o.op = .call { callee := .value (.func f), args := xs.toArray, argTypes := at_ }) (hd : o.dst = some d) (hN : Nat.blt d N = true)
    (ha : ArgsL fb (fun i => i) ow bx0 [] (evA tm) xs args) (hx : LentX fb (fun i => i) bx bx0) (hl : (bx0.all fun p => p.2.all fun x => x.live bx0 []) = true) (hB : lendB fb (fun i => i) bx bx0 bx1 ow [] [] = true)
    (h : SOps P N ops Q rest ⟨(d, r.ren fb (fun i => i)) :: tm, bx1.map (fun p => (fb p.1, p.2.map (A.ren fb (fun i => i)))) ++ bx, ow⟩) : SOps P N ops Q (o :: rest) ⟨tm, bx, ow⟩ := by
  refine sops_lcall hc fb (fun i => i) (fun _ => false) hg ho hd hN ha hx .nil hl hB (fun _ h => Bool.noConfusion h) ?_
  have hq : ∀ j, chgOf (fun i => i) (fun _ => false) [] j = false := fun j => rfl
  have e1 : tm.map (fun p => (p.1, p.2.clr (chgOf (fun i => i) (fun _ => false) []))) = tm := (List.map_congr_left fun p _ => by rw [clr_no hq]).trans (List.map_id' tm)
  have e2 : bxAft fb (fun i => i) (chgOf (fun i => i) (fun _ => false) []) bx1 bx = bx1.map (fun p => (fb p.1, p.2.map (A.ren fb (fun i => i)))) ++ bx := by
    unfold bxAft
    congr 1
    refine (List.map_congr_left fun p _ => ?_).trans (List.map_id' bx)
    have : p.2.map (A.clr (chgOf (fun i => i) (fun _ => false) [])) = p.2 := (List.map_congr_left fun x _ => clr_no hq x).trans (List.map_id' _)
    rw [this]
  have e3 : owAft (fun i => i) [] [] ow = ow := by
    unfold owAft
    exact List.filter_eq_self.2 fun p _ => rfl
  rw [e1, e2, e3]
  exact h
end
section
variable {P : Program} {bx : List (Nat × List A)} {ow : List (Nat × Own)} {o : Oper} {ρ : Operand → Option A}
/-- an integer and itself -/
theorem po_eqr {t t2 : TypeId} {x y : Operand} {k : IntKind} {i : Int} (ho : o.op = .binOp .eql t x y t2) (hx : ρ x = some (.t (.v (.int k i)))) (hy : ρ y = some (.t (.v (.int k i)))) : PureOp P bx ow o ρ (.t (.v (.bool true))) := po_cmp ho hx hy (by simp [cmpB])
theorem po_ner {t t2 : TypeId} {x y : Operand} {k : IntKind} {i : Int} (ho : o.op = .binOp .neq t x y t2) (hx : ρ x = some (.t (.v (.int k i)))) (hy : ρ y = some (.t (.v (.int k i)))) : PureOp P bx ow o ρ (.t (.v (.bool false))) := po_cmp ho hx hy (by simp [cmpB])
theorem po_nef {t t2 : TypeId} {x y : Operand} {k : IntKind} {i j : Int} (h : i ≠ j) (ho : o.op = .binOp .neq t x y t2) (hx : ρ x = some (.t (.v (.int k i)))) (hy : ρ y = some (.t (.v (.int k j)))) : PureOp P bx ow o ρ (.t (.v (.bool true))) := po_cmp ho hx hy (by simp [cmpB, h])
theorem po_neh {t t2 : TypeId} {x y : Operand} {k : IntKind} {i j : Int} (h : i = j) (ho : o.op = .binOp .neq t x y t2) (hx : ρ x = some (.t (.v (.int k i)))) (hy : ρ y = some (.t (.v (.int k j)))) : PureOp P bx ow o ρ (.t (.v (.bool false))) := po_cmp ho hx hy (by simp [cmpB, h])
end
end Go.Proofs.Ytgbcmjcaggnobaa.Sim

/- A net's calls, one beside another: plain laws. -/
namespace Go.Proofs.Ytgbcmjcaggnobaa.Sim
set_option linter.unusedVariables false
set_option linter.unusedSimpArgs false
theorem PNet.ext {d e : PNet} (h : d.n = e.n) (h2 : ∀ k, d.row k = e.row k) : d = e := by
  cases d; cases e; cases h; congr; funext k; exact h2 k
theorem put_same (d : PNet) (k : Nat) : d.put k (d.row k) = d := PNet.ext rfl fun j => by
  show (if j = k then d.row k else d.row j) = d.row j
  split
  · next h => rw [h]
  · rfl
theorem put_row (d : PNet) (k : Nat) (l : List (List UInt8)) : (d.put k l).row k = l := if_pos rfl
theorem put_row_ne (d : PNet) {k j : Nat} (l : List (List UInt8)) (h : j ≠ k) : (d.put k l).row j = d.row j := if_neg h
/-- what a call leaves of its link's row -/
def rowN (h : PHop) (r : List (List UInt8)) : List (List UInt8) :=
  if knd h.kind = 0 ∨ knd h.kind = 1 then (if 16384 < h.load.length then r else if r.length < 32 then r ++ [h.load] else r)
  else if knd h.kind = 2 ∨ knd h.kind = 3 then (match getP r h.no with | some _ => r.eraseIdx h.no.toNat | none => r)
  else if knd h.kind = 4 then (match getP r h.no with | some b => (if r.length < 32 then r ++ [b] else r) | none => r)
  else if knd h.kind = 5 then (match getP r h.no with | some b => b :: r.eraseIdx h.no.toNat | none => r)
  else r
theorem doesN_row (d : PNet) (h : PHop) : doesN d h = bif isL d.n h.f h.t then d.put (kOf h.f h.t) (rowN h (d.row (kOf h.f h.t))) else d := by
  unfold doesN rowN sendP delP doubleP frontP
  have hs := put_same d (kOf h.f h.t)
  cases isL d.n h.f h.t with
  | false => simp only [cond_false, ite_self]
  | true =>
    simp only [cond_true]
    generalize d.row (kOf h.f h.t) = r at *
    by_cases h1 : knd h.kind = 0 ∨ knd h.kind = 1
    · rw [if_pos h1, if_pos h1]
      by_cases h2 : 16384 < h.load.length
      · rw [if_pos h2, if_pos h2]; exact hs.symm
      · rw [if_neg h2, if_neg h2]
        by_cases h3 : r.length < 32
        · rw [if_pos h3, if_pos h3]
        · rw [if_neg h3, if_neg h3]; exact hs.symm
    · rw [if_neg h1, if_neg h1]
      by_cases h2 : knd h.kind = 2 ∨ knd h.kind = 3
      · rw [if_pos h2, if_pos h2]
        cases getP r h.no with
        | none => exact hs.symm
        | some b => rfl
      · rw [if_neg h2, if_neg h2]
        by_cases h4 : knd h.kind = 4
        · rw [if_pos h4, if_pos h4]
          cases getP r h.no with
          | none => exact hs.symm
          | some b =>
            simp only
            by_cases h3 : r.length < 32
            · rw [if_pos h3, if_pos h3]
            · rw [if_neg h3, if_neg h3]; exact hs.symm
        · rw [if_neg h4, if_neg h4]
          by_cases h5 : knd h.kind = 5
          · rw [if_pos h5, if_pos h5]
            cases getP r h.no with
            | none => exact hs.symm
            | some b => rfl
          · rw [if_neg h5, if_neg h5]; exact hs.symm
/-- what a call answers hangs on its link's row alone -/
def sendE (h : PHop) (r : List (List UInt8)) : Int := if 16384 < h.load.length then 6 else if r.length < 32 then 0 else 3
def dblE (i : Int) (r : List (List UInt8)) : Int := match getP r i with | some _ => (if r.length < 32 then 0 else 3) | none => 4
theorem send_E (d : PNet) (h : PHop) : (sendP d h.f h.t h.load).2 = bif isL d.n h.f h.t then sendE h (d.row (kOf h.f h.t)) else 1 := by
  unfold sendP sendE
  cases isL d.n h.f h.t with
  | false => rfl
  | true => simp only [cond_true]; split; rfl; split <;> rfl
theorem double_E (d : PNet) (x y i : Int) : (doubleP d x y i).2 = bif isL d.n x y then dblE i (d.row (kOf x y)) else 1 := by
  unfold doubleP dblE
  cases isL d.n x y with
  | false => rfl
  | true =>
    simp only [cond_true]
    cases getP (d.row (kOf x y)) i with
    | none => rfl
    | some b => simp only; split <;> rfl
theorem doesR_row {d e : PNet} (h : PHop) (hn : d.n = e.n) (hr : isL d.n h.f h.t = true → d.row (kOf h.f h.t) = e.row (kOf h.f h.t)) : doesR d h = doesR e h := by
  have e1 : (sendP d h.f h.t h.load).2 = (sendP e h.f h.t h.load).2 := by
    rw [send_E, send_E, ← hn]
    cases hL : isL d.n h.f h.t with
    | false => rfl
    | true => rw [hr hL]
  have e2 : (doubleP d h.f h.t h.no).2 = (doubleP e h.f h.t h.no).2 := by
    rw [double_E, double_E, ← hn]
    cases hL : isL d.n h.f h.t with
    | false => rfl
    | true => rw [hr hL]
  have e3 : atP d h.f h.t h.no = atP e h.f h.t h.no := by
    unfold atP
    rw [← hn]
    cases hL : isL d.n h.f h.t with
    | false => rfl
    | true => rw [hr hL]
  have e4 : lenP d h.f h.t = lenP e h.f h.t := by
    unfold lenP
    rw [← hn]
    cases hL : isL d.n h.f h.t with
    | false => rfl
    | true => rw [hr hL]
  unfold doesR
  rw [e1, e2, e3, e4]
theorem kOf_inj {n : Nat} (hn : n ≤ 9) {a b x y : Int} (h1 : isL n a b = true) (h2 : isL n x y = true) (h : kOf a b = kOf x y) : a = x ∧ b = y := by
  unfold isL at h1 h2
  rw [decide_eq_true_eq] at h1 h2
  unfold kOf at h
  omega
end Go.Proofs.Ytgbcmjcaggnobaa.Sim

/- A net whose calls are on one link alone; all links, summed: plain laws. -/
namespace Go.Proofs.Ytgbcmjcaggnobaa.Sim
set_option linter.unusedVariables false
set_option linter.unusedSimpArgs false
def allP (n : Nat) : List (Nat × Nat) := (List.range n).flatMap fun a => (List.range n).map fun b => (a + 1, b + 1)
theorem links_all (d : PNet) : linksP d = (allP d.n).filter (lkP d) := by
  unfold linksP outL inL allP
  rw [List.filter_flatMap]
theorem mem_allP {n : Nat} {p : Nat × Nat} : p ∈ allP n ↔ 1 ≤ p.1 ∧ p.1 ≤ n ∧ 1 ≤ p.2 ∧ p.2 ≤ n := by
  unfold allP
  rw [List.mem_flatMap]
  constructor
  · rintro ⟨a, ha, h⟩
    rw [List.mem_range] at ha
    obtain ⟨b, hb, rfl⟩ := List.mem_map.1 h
    rw [List.mem_range] at hb
    dsimp only; omega
  · rintro ⟨h1, h2, h3, h4⟩
    obtain ⟨a, b⟩ := p
    dsimp only at h1 h2 h3 h4
    refine ⟨a - 1, by rw [List.mem_range]; omega, List.mem_map.2 ⟨b - 1, by rw [List.mem_range]; omega, ?_⟩⟩
    rw [show a - 1 + 1 = a by omega, show b - 1 + 1 = b by omega]
theorem nodup_allP {n : Nat} (h : n ≤ 9) : (allP n).Nodup := by
  have key : ∀ n, n < 10 → (allP n).Nodup := by decide +kernel
  exact key n (by omega)
theorem sum_one {α : Type} {f : α → Int} {p : α} : ∀ {L : List α}, L.Nodup → p ∈ L → (∀ q ∈ L, q ≠ p → f q = 0) → (L.map f).sum = f p
  | [], _, h, _ => by cases h
  | a :: L, hn, h, h0 => by
    rw [List.map_cons, List.sum_cons]
    rw [List.nodup_cons] at hn
    by_cases ha : a = p
    · subst ha
      have hz : (L.map f).sum = 0 := by
        have : ∀ q ∈ L, f q = 0 := fun q hq => h0 q (List.mem_cons_of_mem _ hq) fun e => hn.1 (e ▸ hq)
        clear h0 h hn
        induction L with
        | nil => rfl
        | cons b L ih => rw [List.map_cons, List.sum_cons, this b (by simp), ih (fun q hq => this q (List.mem_cons_of_mem _ hq))]; rfl
      rw [hz]; omega
    · have hp : p ∈ L := by rcases List.mem_cons.1 h with h | h; exact absurd h.symm ha; exact h
      rw [h0 a (by simp) ha, sum_one hn.2 hp (fun q hq hne => h0 q (List.mem_cons_of_mem _ hq) hne)]; omega
theorem sum_zero {α : Type} {f : α → Int} : ∀ {L : List α}, (∀ q ∈ L, f q = 0) → (L.map f).sum = 0
  | [], _ => rfl
  | a :: L, h => by rw [List.map_cons, List.sum_cons, h a (by simp), sum_zero fun q hq => h q (List.mem_cons_of_mem _ hq)]; rfl
theorem sum_filter {α : Type} {f : α → Int} {p : α → Bool} : ∀ {L : List α}, (∀ q ∈ L, p q = false → f q = 0) → ((L.filter p).map f).sum = (L.map f).sum
  | [], _ => rfl
  | a :: L, h => by
    have ih := sum_filter (L := L) fun q hq => h q (List.mem_cons_of_mem _ hq)
    rw [List.filter_cons, List.map_cons, List.sum_cons]
    cases hp : p a with
    | true => rw [if_pos rfl, List.map_cons, List.sum_cons, ih]
    | false => rw [if_neg (by simp), ih, h a (by simp) hp]; omega
theorem cntA_sum (d : PNet) (l : List (Nat × Nat)) : cntA d l = (l.map fun p => lenP d p.1 p.2).sum := by
  have key : ∀ (l : List (Nat × Nat)) (s : Int), l.foldl (fun s p => s + lenP d p.1 p.2) s = s + (l.map fun p => lenP d p.1 p.2).sum := by
    intro l
    induction l with
    | nil => intro s; simp
    | cons p l ih => intro s; rw [List.foldl_cons, ih, List.map_cons, List.sum_cons]; omega
  have := key l 0
  unfold cntA; omega
theorem lenP_nn (d : PNet) (x y : Int) : 0 ≤ lenP d x y := by
  unfold lenP
  cases isL d.n x y with
  | false => exact Int.le_refl _
  | true => exact Int.natCast_nonneg _
theorem cnt_all (d : PNet) : cntP d = ((allP d.n).map fun p => lenP d p.1 p.2).sum := by
  unfold cntP
  rw [cntA_sum, links_all]
  refine sum_filter fun q _ hq => ?_
  have := lenP_nn d q.1 q.2
  unfold lkP at hq
  rw [decide_eq_false_iff_not] at hq
  omega
/-- what calls on one link alone leave -/
def onlyP (d : PNet) (x y : Int) : Prop := ∀ j, isL d.n x y = false ∨ j ≠ kOf x y → d.row j = []
theorem only_cnt {d : PNet} (hn : d.n ≤ 9) {x y : Int} (h : onlyP d x y) : cntP d = lenP d x y := by
  rw [cnt_all]
  have hz : ∀ a b : Int, (isL d.n x y = true → ¬ (a = x ∧ b = y)) → lenP d a b = 0 := by
    intro a b hab
    unfold lenP
    cases hl : isL d.n a b with
    | false => rfl
    | true =>
      have : d.row (kOf a b) = [] := by
        refine h _ ?_
        cases hx : isL d.n x y with
        | false => exact .inl rfl
        | true => exact .inr fun e => hab hx (kOf_inj hn hl hx e)
      rw [cond_true, this]; rfl
  cases hL : isL d.n x y with
  | false =>
    rw [sum_zero fun q _ => hz _ _ fun e => by rw [hL] at e; cases e]
    unfold lenP; rw [hL]; rfl
  | true =>
    have hr := hL
    unfold isL at hr
    rw [decide_eq_true_eq] at hr
    obtain ⟨h1, h2, h3, h4, h5⟩ := hr
    have e1 : ((x.toNat : Nat) : Int) = x := by omega
    have e2 : ((y.toNat : Nat) : Int) = y := by omega
    rw [sum_one (p := (x.toNat, y.toNat)) (nodup_allP hn) (mem_allP.2 ⟨by dsimp only; omega, by dsimp only; omega, by dsimp only; omega, by dsimp only; omega⟩)]
    · dsimp only; rw [e1, e2]
    · intro q _ hq
      refine hz _ _ fun _ ⟨g1, g2⟩ => hq ?_
      obtain ⟨a, b⟩ := q
      dsimp only at g1 g2
      rw [show a = x.toNat by omega, show b = y.toNat by omega]
def onB (x y : Int) (h : PHop) : Bool := decide (h.f = x) && decide (h.t = y)
structure ApI (A B : PNet) (x y : Int) : Prop where
  n : A.n = B.n
  le : B.n ≤ 9
  row : isL B.n x y = true → A.row (kOf x y) = B.row (kOf x y)
  only : onlyP B x y
theorem ApI.rows {A B : PNet} {x y : Int} (h : ApI A B x y) : rowP A x y = rowP B x y := by
  unfold rowP
  rw [h.n]
  cases hL : isL B.n x y with
  | false => rfl
  | true => exact h.row hL
theorem ApI.ans {A B : PNet} {x y : Int} (h : ApI A B x y) {q : PHop} (hq : onB x y q = true) : doesR A q = doesR B q := by
  unfold onB at hq
  simp only [Bool.and_eq_true, decide_eq_true_eq] at hq
  refine doesR_row q h.n fun hl => ?_
  rw [hq.1, hq.2] at hl ⊢
  exact h.row (h.n ▸ hl)
theorem ApI.off {A B : PNet} {x y : Int} (h : ApI A B x y) {q : PHop} (hq : onB x y q = false) : ApI (doesN A q) B x y where
  n := (doesN_n A q).trans h.n
  le := h.le
  row := fun hL => by
    rw [← h.row hL, doesN_row]
    cases hl : isL A.n q.f q.t with
    | false => rfl
    | true =>
      rw [cond_true]
      refine put_row_ne _ _ fun e => ?_
      rw [h.n] at hl
      obtain ⟨e1, e2⟩ := kOf_inj h.le hL hl e
      unfold onB at hq
      rw [e1, e2] at hq
      simp at hq
  only := h.only
theorem ApI.on {A B : PNet} {x y : Int} (h : ApI A B x y) {q : PHop} (hq : onB x y q = true) : ApI (doesN A q) (doesN B q) x y := by
  unfold onB at hq
  simp only [Bool.and_eq_true, decide_eq_true_eq] at hq
  obtain ⟨e1, e2⟩ := hq
  refine ⟨by rw [doesN_n, doesN_n, h.n], by rw [doesN_n]; exact h.le, fun hL => ?_, fun j hj => ?_⟩
  · rw [doesN_n] at hL
    have hA : isL A.n q.f q.t = true := by rw [e1, e2, h.n]; exact hL
    have hB : isL B.n q.f q.t = true := by rw [e1, e2]; exact hL
    rw [doesN_row, doesN_row, hA, hB, cond_true, cond_true, ← e1, ← e2, put_row, put_row]
    have := h.row hL
    rw [← e1, ← e2] at this
    rw [this]
  · rw [doesN_n] at hj
    rw [doesN_row]
    cases hl : isL B.n q.f q.t with
    | false => exact h.only j hj
    | true =>
      rw [cond_true, e1, e2]
      rw [e1, e2] at hl
      have hne : j ≠ kOf x y := by rcases hj with hj | hj; rw [hl] at hj; cases hj; exact hj
      rw [put_row_ne _ _ hne]
      exact h.only j hj
theorem ApI.zero {n : Nat} (h : n ≤ 9) (x y : Int) : ApI (netE n) (netE n) x y := ⟨rfl, h, fun _ => rfl, fun _ _ => rfl⟩
end Go.Proofs.Ytgbcmjcaggnobaa.Sim

/- Arguments opened: what a reading says of the cells, type by type. -/
namespace Go.Proofs.Ytgbcmjcaggnobaa.Mem
set_option linter.unusedVariables false
set_option linter.unusedSimpArgs false
open Go.RowKit
/-- one cell, a slice -/
def SliceC {α : Type} (R : Rel α) (sz : Nat) : Rel (List α) := fun B w xs cs => ∃ A cap, cs = [.slice A xs.length cap] ∧ SliceAt R sz B w A xs ∧ xs.length ≤ cap ∧ cap ≤ maxLen
theorem SliceC.kept {α : Type} {R : Rel α} {sz : Nat} (hR : Kept R) : Kept (SliceC R sz) := by
  rintro B B' w w' x cs ⟨A, cap, rfl, h, h1, h2⟩ hk hB
  exact ⟨A, cap, rfl, h.keep hR hk hB, h1, h2⟩
/-- one cell, a number -/
def IntC (k : IntKind) : Rel Int := fun _ _ x cs => cs = [.int k x] ∧ (Lit.int k x).wf = true
theorem IntC.kept (k : IntKind) : Kept (IntC k) := fun _ _ _ _ _ _ h _ _ => h
/-- one cell, a text -/
def StrC : Rel ByteArray := fun _ _ s cs => cs = [.string s] ∧ s.size ≤ maxLen
theorem StrC.kept : Kept StrC := fun _ _ _ _ _ _ h _ _ => h
end Go.Proofs.Ytgbcmjcaggnobaa.Mem
namespace Go.Proofs.Ytgbcmjcaggnobaa.Opn
set_option linter.unusedVariables false
set_option linter.unusedSimpArgs false
set_option maxRecDepth 100000
open Go.RowKit Go.WideShapes Go.ChangeShapes Go.Joins Mem

/-- a reading at type t gives R -/
def Opens {α : Type} (t : TypeId) (R : Rel α) : Prop :=
  ∀ (H : Type) (enc : TypeId × Value → H) (w : World) (base : Nat) (spare : Nat → Bool) (held : Bool) (fuel : Nat) (cs : List Value) (x : DataW H × List MemPlace), DataW.trod enc Try.prog w base spare held fuel t cs = some x → ∃ y, R w.heap.size w y cs

theorem slice_opens {α : Type} [Inhabited α] {t e sz : Nat} {R : Rel α} (ht : Try.prog.underlying t = some (.slice e)) (hC : Try.prog.cellsOf e = sz) (hsz : 0 < sz) (hR : Opens e R)
    {H : Type} {enc : TypeId × Value → H} {w : World} {base : Nat} {spare : Nat → Bool} {held : Bool} {fuel : Nat} {cs : List Value} {x : DataW H × List MemPlace} (h : DataW.trod enc Try.prog w base spare held fuel t cs = some x) :
    ∃ (A : Option Addr) (cap : Nat) (xs : List α), cs = [.slice A xs.length cap] ∧ SliceAt R sz w.heap.size w A xs ∧ xs.length ≤ cap ∧ cap ≤ maxLen := by
  rcases Go.Deep.open_slice ht h with ⟨hcs, _⟩ | ⟨a, len, cap, m, n, D, Pl, hcs, hb, hl, hm, hmm, hx, hi⟩
  · exact ⟨none, 0, [], hcs, SliceAt.nil, Nat.le_refl _, Nat.zero_le _⟩
  · have hlm : len ≤ m := by rw [hmm]; split <;> omega
    have hex : ∀ i, i < len → ∃ (y : α) (cs' : List Value), w.cells? base (a.add (i * sz)) sz = some cs' ∧ R w.heap.size w y cs' := by
      intro i hil
      obtain ⟨cs', hc, ht'⟩ := hi i (by omega)
      rw [hC] at hc
      obtain ⟨y, hy⟩ := hR H enc w base spare held n cs' _ ht'
      exact ⟨y, cs', hc, hy⟩
    have hf : ∃ f : Nat → α, ∀ i, i < len → ∃ cs', w.cells? base (a.add (i * sz)) sz = some cs' ∧ R w.heap.size w (f i) cs' := by
      refine ⟨fun i => if h : i < len then (hex i h).choose else default, fun i hil => ?_⟩
      simp only [dif_pos hil]
      exact (hex i hil).choose_spec
    obtain ⟨f, hf⟩ := hf
    refine ⟨some a, cap, (List.range len).map f, by simpa using hcs, ?_, by simpa using hl, hm⟩
    intro k y hk
    have hkl : k < len := by
      rcases Nat.lt_or_ge k len with h' | h'
      · exact h'
      · rw [List.getElem?_eq_none (by simpa using h')] at hk; cases hk
    rw [List.getElem?_map, List.getElem?_range hkl] at hk
    simp at hk; subst hk
    obtain ⟨cs', hc, hr⟩ := hf k hkl
    obtain ⟨_, hlen, hat⟩ := World.cells?_some hc
    have h0 : w.cell? ((a.add (k * sz)).add 0) = some (cs'[0]'(by omega)) := by rw [hat 0 hsz, List.getElem?_eq_getElem]
    obtain ⟨b, off, spot⟩ := a
    have hspot : k = 0 → spot = none := by
      intro hk0; subst hk0
      simp [Addr.add] at h0
      cases spot with
      | none => rfl
      | some q =>
        simp only [World.cell?] at h0
        split at h0
        · simp at h0
        · cases h0
    -- the row's address bears no spot: its first element shows it
    have hsp : spot = none := by
      rcases Nat.eq_zero_or_pos k with hk0 | hk0
      · exact hspot hk0
      · obtain ⟨cs0, hc0, _⟩ := hf 0 (by omega)
        obtain ⟨_, hlen0, hat0⟩ := World.cells?_some hc0
        have h00 : w.cell? (((⟨b, off, spot⟩ : Addr).add (0 * sz)).add 0) = some (cs0[0]'(by omega)) := by rw [hat0 0 hsz, List.getElem?_eq_getElem]
        simp [Addr.add] at h00
        cases spot with
        | none => rfl
        | some q =>
          simp only [World.cell?] at h00
          split at h00
          · simp at h00
          · cases h00
    subst hsp
    have hadd : ∀ j, ((⟨b, off, none⟩ : Addr).add (k * sz)).add j = ⟨b, off + (k * sz + j), none⟩ := by
      intro j
      rw [Go.Deep.add_add, addr_add]
    refine ⟨b, off, cs', rfl, ?_, hlen, ?_, hr⟩
    · have := World.block_lt_of_cell? w _ h0
      rw [hadd] at this
      exact this
    · intro j v hj
      have hjl : j < sz := by rw [← hlen]; exact (List.getElem?_eq_some_iff.1 hj).1
      rw [← hadd, hat j hjl, hj]
theorem opens_int {t : TypeId} {k : IntKind} (ht : Try.prog.underlying t = some (.int k)) : Opens t (IntC k) := by
  intro H enc w base spare held fuel cs x h
  obtain ⟨n, rfl, _, hw⟩ := DataW.trod_int ht h
  exact ⟨n, rfl, hw⟩
theorem opens_slice {α : Type} [Inhabited α] {t e sz : Nat} {R : Rel α} (ht : Try.prog.underlying t = some (.slice e)) (hC : Try.prog.cellsOf e = sz) (hsz : 0 < sz) (hR : Opens e R) : Opens t (SliceC R sz) := by
  intro H enc w base spare held fuel cs x h
  obtain ⟨A, cap, xs, rfl, hA, h1, h2⟩ := slice_opens ht hC hsz hR h
  exact ⟨xs, A, cap, rfl, hA, h1, h2⟩
/-- a slice handed in -/
theorem open_slice_arg {α : Type} {t e : TypeId} {R : Rel α} {sz : Nat} (ht : Try.prog.underlying t = some (.slice e)) (hO : Opens t (SliceC R sz)) {H : Type} {enc : TypeId × Value → H} {w : World} {r : Reach} {b0 base : Nat} {spare : Nat → Bool} {held : Bool} {v : Value} {d : DataW H} {p : List MemPlace}
    (hv : Value.okWide Try.prog w r b0 t v) (h : DataW.Trod enc Try.prog w base spare held t v d p) :
    ∃ (A : Option Addr) (cap : Nat) (xs : List α), v = .slice A xs.length cap ∧ SliceAt R sz w.heap.size w A xs ∧ xs.length ≤ cap ∧ cap ≤ maxLen := by
  obtain ⟨a, len, c, rfl⟩ := okWide_slice ht hv
  obtain ⟨fuel, hf⟩ := h
  obtain ⟨xs, A, cap, hcs, hA, h1, h2⟩ := hO H enc w base spare held fuel _ _ hf
  simp [Value.cells] at hcs
  obtain ⟨rfl, rfl, rfl⟩ := hcs
  exact ⟨_, _, xs, rfl, hA, h1, h2⟩
/-- a number handed in -/
theorem open_int_arg {t : TypeId} {k : IntKind} (ht : Try.prog.underlying t = some (.int k)) {H : Type} {enc : TypeId × Value → H} {w : World} {r : Reach} {b0 base : Nat} {spare : Nat → Bool} {held : Bool} {v : Value} {d : DataW H} {p : List MemPlace}
    (hv : Value.okWide Try.prog w r b0 t v) (h : DataW.Trod enc Try.prog w base spare held t v d p) : ∃ n, v = .int k n ∧ (Lit.int k n).wf = true := by
  obtain ⟨n, rfl⟩ := okWide_int ht hv
  obtain ⟨fuel, hf⟩ := h
  obtain ⟨m, hm, _, hw⟩ := DataW.trod_int ht hf
  simp [Value.cells] at hm
  subst hm
  exact ⟨_, rfl, hw⟩
end Go.Proofs.Ytgbcmjcaggnobaa.Opn

/- Calls on links in memory: relations, opened, as trees of data. -/
namespace Go.Proofs.Ytgbcmjcaggnobaa.Hop
set_option linter.unusedVariables false
set_option linter.unusedSimpArgs false
open Go.RowKit Go.WideShapes Go.ChangeShapes Go.Joins Mem Sim Opn
def ByteC : Rel UInt8 := fun _ _ b cs => cs = [.int .u8 (b.toNat : Int)]
theorem one_byte : Try.prog.cellsOf 5 = 1 := by kernel_rfl
theorem one_bytes : Try.prog.cellsOf 28 = 1 := by kernel_rfl
theorem one_int : Try.prog.cellsOf 3 = 1 := by kernel_rfl
theorem byte_opens : Opens 5 ByteC := by
  intro H enc w base spare held fuel cs x h
  obtain ⟨n, rfl, _, hw⟩ := DataW.trod_int Try.underlying5 h
  have hb := bounds_u8 hw
  refine ⟨UInt8.ofNat n.toNat, ?_⟩
  unfold ByteC
  rw [UInt8.toNat_ofNat']
  congr 2; omega
theorem bytes_opens : Opens 28 (SliceC ByteC 1) := opens_slice (R := ByteC) Try.underlying28 one_byte (by omega) byte_opens
theorem cellsAre_nil (m : Mm) : CellsAre m [] [] := ⟨rfl, fun j t v h => by simp at h⟩
theorem cellsAre_cons {m : Mm} {t : T} {v : Value} {ts : List T} {vs : List Value} (h : TR m t v) (h1 : v.oneCell' = true) (hs : CellsAre m ts vs) : CellsAre m (t :: ts) (v :: vs) := by
  refine ⟨by simp [hs.1], fun j t' v' h2 h3 => ?_⟩
  cases j with
  | zero => simp at h2 h3; subst h2 h3; exact ⟨h, h1⟩
  | succ j => exact hs.2 j t' v' (by simpa using h2) (by simpa using h3)
theorem sl_bwd {α : Type} {R : Mem.Rel α} {enc : α → List T} {sz B : Nat} {w : World} {xs : List α} {c : Value} (hsz : ∀ x, (enc x).length = sz) (hR : ∀ x cs, R B w x cs → CellsAre (allm w) (enc x) cs) (h : SliceC R sz B w xs [c]) : TR (allm w) (.sl sz (xs.map enc)) c ∧ c.oneCell' = true := by
  obtain ⟨A, cap, e, hA, h1, h2⟩ := h
  injection e with e; subst e
  exact ⟨tr_rows_bwd (allm w) hA h1 h2 hsz (fun x _ cs hr => hR x cs hr) (fun b o v _ h => h), rfl⟩
theorem int_bwd {k : IntKind} {B : Nat} {w : World} {n : Int} {c : Value} (h : IntC k B w n [c]) : TR (allm w) (.v (.int k n)) c ∧ c.oneCell' = true := by
  obtain ⟨e, _⟩ := h; injection e with e; subst e; exact ⟨.v _, rfl⟩
theorem byte_bwd {B : Nat} {w : World} (x : UInt8) (cs : List Value) (h : ByteC B w x cs) : CellsAre (allm w) (byteT x) cs := by
  obtain rfl := h
  exact cellsAre_cons (.v _) rfl (cellsAre_nil _)
theorem bytes_bwdC {B : Nat} {w : World} {xs : List UInt8} {c : Value} (h : SliceC ByteC 1 B w xs [c]) : TR (allm w) (.sl 1 (xs.map byteT)) c ∧ c.oneCell' = true := sl_bwd (fun _ => rfl) byte_bwd h
theorem sl_bwdA {α : Type} {R : Mem.Rel α} {enc : α → List T} {sz B : Nat} {w : World} {A : Option Addr} {xs : List α} {cap : Nat} (hsz : ∀ x, (enc x).length = sz) (hR : ∀ x cs, R B w x cs → CellsAre (allm w) (enc x) cs) (hA : SliceAt R sz B w A xs) (h1 : xs.length ≤ cap) (h2 : cap ≤ maxLen) : TR (allm w) (.sl sz (xs.map enc)) (.slice A xs.length cap) :=
  tr_rows_bwd (allm w) hA h1 h2 hsz (fun x _ cs hr => hR x cs hr) (fun b o v _ h => h)
theorem sl_ok {α : Type} {R : Mem.Rel α} {sz B : Nat} {w : World} {A : Option Addr} {xs : List α} {ok : α → Prop} (hR : ∀ B w x cs, R B w x cs → ok x) (hA : SliceAt R sz B w A xs) : ∀ x ∈ xs, ok x := fun x hx => by
  obtain ⟨k, hk⟩ := List.getElem?_of_mem hx
  obtain ⟨b, off, cs, _, _, _, _, hr⟩ := hA k x hk
  exact hR _ _ _ _ hr
instance : Inhabited PHop := ⟨⟨0, 0, 0, 0, []⟩⟩
def HopR : Rel PHop := fun B w x cs => ∃ c0 c1 c2 c3 c4, cs = [c0, c1, c2, c3, c4] ∧ IntC .i64 B w x.kind [c0] ∧ IntC .i64 B w x.f [c1] ∧ IntC .i64 B w x.t [c2] ∧ IntC .i64 B w x.no [c3] ∧ SliceC ByteC 1 B w x.load [c4]
theorem cells_Hop : Try.prog.cellsOf 30 = 5 := by kernel_rfl
set_option maxRecDepth 100000 in
theorem hop_opens : Opens 30 HopR := by
  intro H enc w base spare held fuel cs x h
  obtain ⟨xs, n, _, hx, hlen, hxl, hf⟩ := DataW.trod_struct Try.underlying30 h
  have hl := hlen.trans cells_Hop
  obtain ⟨c0, c1, c2, c3, c4, rfl⟩ : ∃ c0 c1 c2 c3 c4, cs = [c0, c1, c2, c3, c4] := by
    match cs, hl with
    | [c0, c1, c2, c3, c4], _ => exact ⟨c0, c1, c2, c3, c4, rfl⟩
  obtain ⟨y0, y1, y2, y3, y4, rfl⟩ : ∃ y0 y1 y2 y3 y4, xs = [y0, y1, y2, y3, y4] := by
    match xs, hxl with
    | [y0, y1, y2, y3, y4], _ => exact ⟨y0, y1, y2, y3, y4, rfl⟩
  have f0 : DataW.trod enc Try.prog w base spare held n 3 [c0] = some y0 := by
    have := hf 0 _ rfl
    simpa [one_bytes, one_int] using this
  obtain ⟨v0, r0⟩ := (opens_int Try.underlying3) H enc w base spare held n [c0] y0 f0
  have f1 : DataW.trod enc Try.prog w base spare held n 3 [c1] = some y1 := by
    have := hf 1 _ rfl
    simpa [one_bytes, one_int] using this
  obtain ⟨v1, r1⟩ := (opens_int Try.underlying3) H enc w base spare held n [c1] y1 f1
  have f2 : DataW.trod enc Try.prog w base spare held n 3 [c2] = some y2 := by
    have := hf 2 _ rfl
    simpa [one_bytes, one_int] using this
  obtain ⟨v2, r2⟩ := (opens_int Try.underlying3) H enc w base spare held n [c2] y2 f2
  have f3 : DataW.trod enc Try.prog w base spare held n 3 [c3] = some y3 := by
    have := hf 3 _ rfl
    simpa [one_bytes, one_int] using this
  obtain ⟨v3, r3⟩ := (opens_int Try.underlying3) H enc w base spare held n [c3] y3 f3
  have f4 : DataW.trod enc Try.prog w base spare held n 28 [c4] = some y4 := by
    have := hf 4 _ rfl
    simpa [one_bytes, one_int] using this
  obtain ⟨v4, r4⟩ := bytes_opens H enc w base spare held n [c4] y4 f4
  exact ⟨⟨v0, v1, v2, v3, v4⟩, c0, c1, c2, c3, c4, rfl, r0, r1, r2, r3, r4⟩
theorem hop_bwd {B : Nat} {w : World} (x : PHop) (cs : List Value) (h : HopR B w x cs) : CellsAre (allm w) (hopC x) cs := by
  obtain ⟨c0, c1, c2, c3, c4, rfl, h0, h1, h2, h3, h4⟩ := h
  exact cellsAre_cons (int_bwd h0).1 (int_bwd h0).2 (cellsAre_cons (int_bwd h1).1 (int_bwd h1).2 (cellsAre_cons (int_bwd h2).1 (int_bwd h2).2 (cellsAre_cons (int_bwd h3).1 (int_bwd h3).2 (cellsAre_cons (bytes_bwdC h4).1 (bytes_bwdC h4).2 (cellsAre_nil _)))))
theorem hop_ok (B : Nat) (w : World) (x : PHop) (cs : List Value) (h : HopR B w x cs) : x.load.length ≤ 9223372036854775807 := by
  obtain ⟨c0, c1, c2, c3, c4, rfl, _, _, _, _, A, cap, e, hA, h1, h2⟩ := h
  unfold maxLen at h2; omega
theorem hops_opens : Opens 22 (SliceC HopR 5) := opens_slice (R := HopR) Try.underlying22 cells_Hop (by omega) hop_opens
theorem len_ok {n cap : Nat} (h : n ≤ cap) (h2 : cap ≤ maxLen) : n ≤ 9223372036854775807 := by unfold maxLen at h2; omega
end Go.Proofs.Ytgbcmjcaggnobaa.Hop
