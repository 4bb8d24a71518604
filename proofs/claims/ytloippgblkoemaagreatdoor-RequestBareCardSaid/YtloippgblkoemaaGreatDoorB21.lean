/- Merged by bundles.py: SimAn2, SimEq, PlOf, SimMk, SimFam, SimPath1. -/
import Derived.Test.YtloippgblkoemaaGreatDoorB20
import Derived.Test.YtloippgblkoemaaGreatDoorB13
import Derived.Test.YtloippgblkoemaaGreatDoorB16
import Derived.Test.YtloippgblkoemaaGreatDoorB0
import Derived.Test.YtloippgblkoemaaGreatDoorB19
import Derived.Test.YtloippgblkoemaaGreatDoorB9
import Derived.Deep.OwnRows
import Derived.Test.YtloippgblkoemaaGreatDoorB14
/- Answers: digits; what a code is called; walks. -/
namespace Go.Proofs.YtloippgblkoemaaGreatDoor.An
set_option linter.unusedVariables false
set_option linter.unusedSimpArgs false
open Go.RowKit Mem Sim Opn Hd Str Rq
theorem bs_appA (a b : List UInt8) : bs a ++ bs b = bs (a ++ b) := by
  refine bs_inj ?_
  rw [toList_append, bs_toList, bs_toList, bs_toList]
theorem bs_one (c : UInt8) (l : List UInt8) : bs [c] ++ bs l = bs (c :: l) := by
  have := bs_appA [c] l
  exact this
theorem po_quoN {P : Program} {bx : List (Nat × List A)} {ow : List (Nat × Own)} {o : Oper} {ρ : Operand → Option A} {t t2 : TypeId} {x y : Operand} {m d : Nat} (ho : o.op = .binOp .quo t x y t2) (hx : ρ x = some (.t (.v (.int .i64 (m : Int))))) (hy : ρ y = some (.t (.v (.int .i64 (d : Int))))) (hd : d ≠ 0) (hm : m ≤ 1000000) : PureOp P bx ow o ρ (.t (.v (.int .i64 ((m / d : Nat) : Int)))) := by
  have h := po_quo (P := P) (bx := bx) (ow := ow) ho hx hy (by omega)
  have e : IntKind.i64.wrap ((m : Int).tdiv (d : Int)) = ((m / d : Nat) : Int) := by
    rw [← Int.ofNat_tdiv]
    have := Nat.div_le_self m d
    generalize m / d = z at *
    exact wrap_i64 (by omega)
  rw [e] at h; exact h
end Go.Proofs.YtloippgblkoemaaGreatDoor.An

/- Headers, answers, messages: whether two are the same; walks. -/
namespace Go.Proofs.YtloippgblkoemaaGreatDoor.An
set_option linter.unusedVariables false
set_option linter.unusedSimpArgs false
open Go.RowKit Mem Sim Opn Hd Str Rq
instance decHead : DecidableEq Pl.Head := fun a b => if h : heqB a b = true then .isTrue ((heqB_iff a b).1 h) else .isFalse fun e => h ((heqB_iff a b).2 e)
theorem heads_take {a b : List Pl.Head} (hl : a.length = b.length) (h : a.take a.length = b.take a.length) : a = b := by
  rw [List.take_length, hl, List.take_length] at h; exact h
theorem ne_at {a b : List Pl.Head} {k : Nat} (h1 : k < a.length) (h2 : k < b.length) (h : ¬ a[k] = b[k]) : ¬ a = b := fun e => h (by subst e; rfl)
theorem ne_len {a b : List Pl.Head} (h : ¬ a.length = b.length) : ¬ a = b := fun e => h (by rw [e])
set_option maxRecDepth 100000 in
set_option maxHeartbeats 2000000 in
theorem equalH_ (a b : List Pl.Head) (ha : a.length ≤ 1000) : PCalls Tryz.prog 67 [headsT a, headsT b] (.v (.bool (decide (a = b)))) := by
  have hma : (a.map headT).length = a.length := List.length_map _
  have hmb : (b.map headT).length = b.length := List.length_map _
  refine pcalls_of Tryz.func67 rfl rfl Tryz.ntmps67 rfl ?_
  by_cases hl : a.length = b.length
  · have h0 : (!decide (((a.map headT).length : Int) = ((b.map headT).length : Int))) = false := by rw [hma, hmb, hl]; simp
    repeat' (first | refine rg 0 (aq0 ?_) | refine rg 1 (aq50 ?_) | refine rg 3 (aq5 ?_) | refine gc ?_ | refine ct ?_ | refine cf ?_ | refine sc ?_ ?_ <;> intro hc | refine rq rfl (rt .nil) ?_)
    refine swp_for (fun k => ⟨[(0, .t (headsT a)), (1, .t (headsT b)), (12, .t (.v (.int .i64 ((a.map headT).length : Int)))), (13, .t (.v (.int .i64 (k : Int))))], [], []⟩) (fun k => a.take k = b.take k) a.length (weak_sub (.cons rfl rfl rfl (.cons rfl rfl rfl (.cons rfl rfl rfl (.cons rfl rfl rfl .nil)))) .nil .nil) rfl ?_
    intro k hk hI
    by_cases hlt : k < a.length
    · have hltb : k < b.length := by omega
      by_cases he : a[k] = b[k]
      · have hq : (!heqB a[k] b[k]) = false := by rw [(heqB_iff _ _).2 he]; rfl
        repeat' (first | refine for_next hlt (weak_sub (.cons rfl rfl rfl (.cons rfl rfl rfl (.cons rfl rfl rfl (.cons rfl rfl rfl .nil)))) .nil .nil) (take_eq_allH hlt hltb hI he) | (refine rg 4 ?_; (first | refine sp (po_ex2 rfl rfl rfl (head_Ex a[k]) (head_Ex b[k]) (hne_run false _ _ hq)) ?_ | refine oCm ?_); refine oN ?_) | refine rg 5 (aq4 ?_) | (refine aq51 ?_; refine dp (po_ex2 rfl rfl rfl (head_Ex a[k]) (head_Ex b[k]) (hne_run false _ _ hq)) ?_; refine dN ?_; refine oN ?_) | refine rg 8 (aq9 ?_) | refine gc ?_ | refine ct ?_ | refine cf ?_)
      · have hq : (!heqB a[k] b[k]) = true := by
          have : heqB a[k] b[k] = false := by
            cases h : heqB a[k] b[k] with
            | false => rfl
            | true => exact absurd ((heqB_iff _ _).1 h) he
          rw [this]; rfl
        rw [decide_eq_false (ne_at hlt hltb he)]
        repeat' (first | (refine rg 4 ?_; (first | refine sp (po_ex2 rfl rfl rfl (head_Ex a[k]) (head_Ex b[k]) (hne_run true _ _ hq)) ?_ | refine oCm ?_); refine oN ?_) | refine rg 5 (aq4 ?_) | (refine aq51 ?_; refine dp (po_ex2 rfl rfl rfl (head_Ex a[k]) (head_Ex b[k]) (hne_run true _ _ hq)) ?_; refine dN ?_; refine oN ?_) | refine rg 7 (aq0 ?_) | refine gc ?_ | refine ct ?_ | refine cf ?_ | refine sc ?_ ?_ <;> intro hc | refine rq rfl (rt .nil) ?_)
        rfl
    · obtain rfl : k = a.length := by omega
      rw [decide_eq_true (heads_take hl hI)]
      repeat' (first | refine rg 4 (aq6 ?_) | refine rg 9 (aq0 ?_) | refine gc ?_ | refine ct ?_ | refine cf ?_ | refine sc ?_ ?_ <;> intro hc | refine rq rfl (rt .nil) ?_)
      rfl
  · have h0 : (!decide (((a.map headT).length : Int) = ((b.map headT).length : Int))) = true := by rw [hma, hmb, decide_eq_false (by omega)]; rfl
    rw [decide_eq_false (ne_len hl)]
    repeat' (first | refine rg 0 (aq0 ?_) | refine rg 1 (aq50 ?_) | refine rg 2 (aq0 ?_) | refine gc ?_ | refine ct ?_ | refine cf ?_ | refine sc ?_ ?_ <;> intro hc | refine rq rfl (rt .nil) ?_)
    rfl
end Go.Proofs.YtloippgblkoemaaGreatDoor.An

/- A request's first line, its host, and what it is: in plain Lean. -/
namespace Go.Proofs.YtloippgblkoemaaGreatDoor.Ro
set_option linter.unusedVariables false
set_option linter.unusedSimpArgs false
open Go.RowKit Mem Sim Opn Hd Str Pth Rq
def splC (c : UInt8) : L8 → List L8
  | [] => [[]]
  | d :: l => if d = c then [] :: splC c l else match splC c l with
    | [] => [[d]]
    | h :: t => (d :: h) :: t
theorem splC_cons (c d : UInt8) (l : L8) : splC c (d :: l) = if d = c then [] :: splC c l else match splC c l with
    | [] => [[d]]
    | h :: t => (d :: h) :: t := rfl
theorem splC_yes (c : UInt8) : ∀ l : L8, l.findIdx (· == c) < l.length → splC c l = l.take (l.findIdx (· == c)) :: splC c (l.drop (l.findIdx (· == c) + 1))
  | [], h => by simp at h
  | d :: l, h => by
    rw [List.findIdx_cons] at h ⊢
    rw [splC_cons]
    by_cases hc : d = c
    · subst hc; simp
    · rw [if_neg hc]
      have e : (d == c) = false := by simpa using hc
      rw [e] at h ⊢
      simp only [cond_false, List.length_cons] at h ⊢
      rw [splC_yes c l (by omega)]
      simp
theorem splC_no (c : UInt8) : ∀ l : L8, ¬ l.findIdx (· == c) < l.length → splC c l = [l]
  | [], _ => rfl
  | d :: l, h => by
    rw [List.findIdx_cons] at h
    rw [splC_cons]
    by_cases hc : d = c
    · subst hc; simp at h
    · rw [if_neg hc]
      have e : (d == c) = false := by simpa using hc
      rw [e] at h
      simp only [cond_false, List.length_cons] at h
      rw [splC_no c l (by omega)]
theorem splC_len (c : UInt8) : ∀ l : L8, (splC c l).length = l.count c + 1
  | [] => rfl
  | d :: l => by
    have ih := splC_len c l
    rw [splC_cons, List.count_cons]
    by_cases hc : d = c
    · subst hc; simp [ih]
    · rw [if_neg hc]
      have e : (d == c) = false := by simpa using hc
      rw [e]
      match hq : splC c l, ih with
      | h :: t, ih => simpa using ih
theorem count_yes {c : UInt8} {l : L8} (h : l.findIdx (· == c) < l.length) : l.count c = (l.drop (l.findIdx (· == c) + 1)).count c + 1 := by
  have h1 := splC_len c l
  rw [splC_yes c l h, List.length_cons, splC_len] at h1
  omega
theorem count_no {c : UInt8} {l : L8} (h : ¬ l.findIdx (· == c) < l.length) : l.count c = 0 := by
  have h1 := splC_len c l
  rw [splC_no c l h] at h1
  simp at h1; simpa using h1
theorem count_pos {c : UInt8} {l : L8} (h : 0 < l.count c) : l.findIdx (· == c) < l.length := by
  by_cases h1 : l.findIdx (· == c) < l.length
  · exact h1
  · rw [count_no h1] at h; omega
def posC (c : UInt8) : Nat → L8 → List Nat
  | _, [] => []
  | k, d :: l => if d = c then k :: posC c (k + 1) l else posC c (k + 1) l
theorem posC_no {c : UInt8} : ∀ (l : L8) (k : Nat), posC c k l = [] → splC c l = [l]
  | [], _, _ => rfl
  | d :: l, k, h => by
    rw [posC] at h
    split at h
    · cases h
    · rename_i hc
      rw [splC_cons, if_neg hc, posC_no l (k + 1) h]
theorem posC_yes {c : UInt8} : ∀ (l : L8) (k p : Nat) (ps : List Nat), posC c k l = p :: ps → k ≤ p ∧ p - k < l.length ∧ splC c l = l.take (p - k) :: splC c (l.drop (p - k + 1)) ∧ posC c (p + 1) (l.drop (p - k + 1)) = ps
  | [], _, _, _, h => by cases h
  | d :: l, k, p, ps, h => by
    rw [posC] at h
    split at h
    · rename_i hc
      injection h with h1 h2
      subst h1 h2
      refine ⟨Nat.le_refl _, by simp, ?_, by simp⟩
      rw [splC_cons, if_pos hc]; simp
    · rename_i hc
      obtain ⟨h1, h2, h3, h4⟩ := posC_yes l (k + 1) p ps h
      obtain ⟨j, rfl⟩ : ∃ j, p = k + 1 + j := ⟨p - (k + 1), by omega⟩
      have e1 : k + 1 + j - (k + 1) = j := by omega
      have e2 : k + 1 + j - k = j + 1 := by omega
      rw [e1] at h2 h3 h4
      rw [e2]
      refine ⟨by omega, by simp; omega, ?_, by simpa using h4⟩
      rw [splC_cons, if_neg hc, h3]; simp
theorem posC_len (c : UInt8) : ∀ (l : L8) (k : Nat), (posC c k l).length = l.count c
  | [], _ => rfl
  | d :: l, k => by
    have ih := posC_len c l (k + 1)
    rw [posC, List.count_cons]
    by_cases hc : d = c
    · rw [if_pos hc, List.length_cons, ih]; simp [hc]
    · rw [if_neg hc, ih]; simp [hc]
theorem posC_two {c : UInt8} {l : L8} {p q : Nat} (h : posC c 0 l = [p, q]) : p < q ∧ q < l.length ∧ splC c l = [l.take p, (l.take q).drop (p + 1), l.drop (q + 1)] := by
  obtain ⟨h1, h2, h3, h4⟩ := posC_yes l 0 p [q] h
  obtain ⟨h5, h6, h7, h8⟩ := posC_yes _ (p + 1) q [] h4
  have h9 := posC_no _ _ h8
  simp only [Nat.sub_zero] at h1 h2 h3 h4 h5 h6 h7 h8 h9
  rw [List.length_drop] at h6
  refine ⟨by omega, by omega, ?_⟩
  rw [h3, h7, h9, List.drop_drop, List.drop_take]
  have e : p + 1 + (q - (p + 1) + 1) = q + 1 := by omega
  rw [e]
theorem splC_three {c : UInt8} {l a b d : L8} (h : splC c l = [a, b, d]) : posC c 0 l = [a.length, a.length + 1 + b.length] ∧ l = a ++ c :: (b ++ c :: d) := by
  have h1 := splC_len c l
  rw [h, ← posC_len c l 0] at h1
  match hq : posC c 0 l, h1 with
  | [p, q], _ =>
    obtain ⟨h2, h3, h4⟩ := posC_two hq
    rw [h] at h4
    injection h4 with e1 e2
    injection e2 with e2 e3
    injection e3 with e3 _
    have hp : p < l.length := by omega
    have l1 : a.length = p := by rw [e1, List.length_take]; omega
    have l2 : b.length = q - (p + 1) := by rw [e2, List.length_drop, List.length_take]; omega
    refine ⟨by rw [l1, l2, show p + 1 + (q - (p + 1)) = q by omega], ?_⟩
    have key : ∀ (m : L8) (k : Nat) (j : Nat), j ∈ posC c k m → k ≤ j ∧ m[j - k]? = some c := by
      intro m
      induction m with
      | nil => intro k j hj; cases hj
      | cons x m ih =>
        intro k j hj
        rw [posC] at hj
        split at hj
        · rename_i hx
          rcases List.mem_cons.1 hj with e | e
          · subst e; exact ⟨Nat.le_refl _, by simp [hx]⟩
          · obtain ⟨i1, i2⟩ := ih (k + 1) j e
            obtain ⟨z, rfl⟩ : ∃ z, j = k + 1 + z := ⟨j - (k + 1), by omega⟩
            refine ⟨by omega, ?_⟩
            rw [show k + 1 + z - k = z + 1 by omega, List.getElem?_cons_succ]
            rwa [show k + 1 + z - (k + 1) = z by omega] at i2
        · obtain ⟨i1, i2⟩ := ih (k + 1) j hj
          obtain ⟨z, rfl⟩ : ∃ z, j = k + 1 + z := ⟨j - (k + 1), by omega⟩
          refine ⟨by omega, ?_⟩
          rw [show k + 1 + z - k = z + 1 by omega, List.getElem?_cons_succ]
          rwa [show k + 1 + z - (k + 1) = z by omega] at i2
    have k1 := (key l 0 p (by rw [hq]; simp)).2
    have k2 := (key l 0 q (by rw [hq]; simp)).2
    rw [Nat.sub_zero] at k1 k2
    rw [List.getElem?_eq_getElem hp] at k1
    rw [List.getElem?_eq_getElem h3] at k2
    injection k1 with k1
    injection k2 with k2
    have s1 : l = l.take p ++ l[p] :: l.drop (p + 1) := by
      rw [← List.drop_eq_getElem_cons hp, List.take_append_drop]
    have s2 : l.drop (p + 1) = (l.take q).drop (p + 1) ++ l[q] :: l.drop (q + 1) := by
      rw [← List.drop_eq_getElem_cons h3]
      have : l = l.take q ++ l.drop q := (List.take_append_drop q l).symm
      conv => lhs; rw [this, List.drop_append_of_le_length (by rw [List.length_take]; omega)]
    conv => lhs; rw [s1, s2]
    rw [k1, k2, e1, e2, e3]
def hostC (c : UInt8) : Bool := (decide (97 ≤ c.toNat) && decide (c.toNat ≤ 122)) || ((decide (48 ≤ c.toNat) && decide (c.toNat ≤ 57)) || (decide (c.toNat = 46) || decide (c.toNat = 45)))
def portB (d : L8) : Bool := decide (d ≠ []) && (decide (d.head? ≠ some 48) && (decide (d.length ≤ 5) && (d.all digB && decide (numL d ≤ 65535))))
def nameL (s : L8) : L8 := s.takeWhile (· != 58)
def portL (s : L8) : L8 := (s.dropWhile (· != 58)).drop 1
def hasC (s : L8) : Bool := s.any (· == 58)
def hostB (s : L8) : Bool := (nameL s).all hostC && (decide (nameL s ≠ []) && (decide (s.length ≤ 64) && (!hasC s || portB (portL s))))
theorem hostC_lt {c : UInt8} (h : hostC c = true) : c.toNat < 128 := by
  unfold hostC at h
  simp only [Bool.or_eq_true, Bool.and_eq_true, decide_eq_true_eq] at h
  omega
theorem digB_lt {c : UInt8} (h : digB c = true) : c.toNat < 128 := by
  unfold digB at h
  have := of_decide_eq_true h
  omega
theorem cut58 : ∀ s : L8, s = nameL s ++ (if hasC s then 58 :: portL s else [])
  | [] => rfl
  | c :: l => by
    have ih := cut58 l
    unfold nameL hasC portL at *
    rw [List.takeWhile_cons, List.dropWhile_cons, List.any_cons]
    by_cases hc : c = 58
    · subst hc; simp
    · have e1 : (c != 58) = true := by simpa using hc
      have e2 : (c == 58) = false := by simpa using hc
      rw [e1, e2]
      simp only [if_true, Bool.false_or]
      rw [List.cons_append, ← ih]
theorem host_ascii {s : L8} (h : hostB s = true) : ∀ c ∈ s, c.toNat < 128 := by
  unfold hostB at h
  simp only [Bool.and_eq_true, decide_eq_true_eq] at h
  obtain ⟨h1, _, _, h4⟩ := h
  intro c hc
  rw [cut58 s, List.mem_append] at hc
  rcases hc with hc | hc
  · exact hostC_lt ((List.all_eq_true.1 h1) c hc)
  · split at hc
    · rename_i hp
      rw [hp] at h4
      rcases List.mem_cons.1 hc with e | e
      · subst e; decide
      · unfold portB at h4
        simp only [Bool.not_true, Bool.false_or, Bool.and_eq_true] at h4
        exact digB_lt ((List.all_eq_true.1 h4.2.2.2.1) c e)
    · cases hc
theorem lowU_eq (c : UInt8) : Mp.lowB c = lowU c := by
  have key : ∀ m : Fin 256, Mp.lowB (UInt8.ofNat m.1) = lowU (UInt8.ofNat m.1) := by decide +kernel
  have := key ⟨c.toNat, c.toNat_lt⟩
  simpa using this
theorem lowU_big {c : UInt8} (h : 128 ≤ c.toNat) : lowU c = c := by
  unfold lowU; rw [if_neg (by omega)]
theorem host_map (l : L8) : hostB (Lib.mapD Mp.lowR l) = hostB (l.map lowU) ∧ (hostB (l.map lowU) = true → Lib.mapD Mp.lowR l = l.map lowU) := by
  by_cases h : ∀ c ∈ l, c.toNat < 128
  · have e : Lib.mapD Mp.lowR l = l.map lowU := by
      rw [Mp.map_ascii l h]
      exact List.map_congr_left fun c _ => lowU_eq c
    rw [e]; exact ⟨rfl, fun _ => rfl⟩
  · have h' : ∃ c ∈ l, 128 ≤ c.toNat := by
      obtain ⟨c, hc⟩ := Classical.not_forall.1 h
      exact ⟨c, (Classical.not_imp.1 hc).1, by have := (Classical.not_imp.1 hc).2; omega⟩
    have h1 : hostB (Lib.mapD Mp.lowR l) = false := by
      obtain ⟨x, hx, hx2⟩ := Mp.map_big l.length l (Nat.le_refl _) h'
      cases hq : hostB (Lib.mapD Mp.lowR l) with
      | false => rfl
      | true => have := host_ascii hq x hx; omega
    have h2 : hostB (l.map lowU) = false := by
      obtain ⟨x, hx, hx2⟩ := h'
      cases hq : hostB (l.map lowU) with
      | false => rfl
      | true =>
        have := host_ascii hq x (List.mem_map.2 ⟨x, hx, lowU_big hx2⟩)
        omega
    rw [h1, h2]; exact ⟨rfl, fun h => by cases h⟩
structure PReq where
  method : ByteArray
  target : ByteArray
  path : ByteArray
  query : ByteArray
  host : ByteArray
  heads : List Pl.Head
  body : List UInt8
def methB (m : L8) : Bool := m.all (fun c => decide (65 ≤ c.toNat) && decide (c.toNat ≤ 90)) && (decide (1 ≤ m.length) && decide (m.length ≤ 16))
abbrev httpL : L8 := [72, 84, 84, 80, 47, 49, 46, 49]
abbrev connL : L8 := [67, 79, 78, 78, 69, 67, 84]
abbrev hostS : ByteArray := ⟨#[104, 111, 115, 116]⟩
def targL (m t : L8) : Option (L8 × L8) := if m = connL then (if hostB (t.map lowU) && hasC (t.map lowU) then some ([], []) else none) else normL t
def of3 (m t v : L8) (h : ByteArray) (r : PRaw) : Option PReq :=
  if methB m && (decide (v = httpL) && hostB (h.toList.map lowU)) then (targL m t).map fun q => ⟨bs m, bs t, bs q.1, bs q.2, small h, r.heads, r.body⟩ else none
def ofR (r : PRaw) : Option PReq := match splC 32 r.start.toList, valsOf hostS r.heads with
  | [m, t, v], [h] => of3 m t v h r
  | _, _ => none
theorem ofR_ok {r : PRaw} {m t v : L8} {h : ByteArray} (h1 : splC 32 r.start.toList = [m, t, v]) (h2 : valsOf hostS r.heads = [h]) : ofR r = of3 m t v h r := by
  unfold ofR; rw [h1, h2]
theorem splC_part (c : UInt8) : ∀ (l p : L8), p ∈ splC c l → p.length ≤ l.length
  | [], p, h => by
    have : p = [] := by simpa [splC] using h
    rw [this]; exact Nat.le_refl _
  | d :: l, p, h => by
    have ih := splC_part c l
    rw [splC_cons] at h
    split at h
    · rcases List.mem_cons.1 h with e | e
      · rw [e]; exact Nat.zero_le _
      · have := ih p e; simp; omega
    · split at h
      · have : p = [d] := by simpa using h
        rw [this]; simp
      · rename_i a t hq
        rcases List.mem_cons.1 h with e | e
        · have := ih a (by rw [hq]; simp)
          rw [e]; simpa using this
        · have := ih p (by rw [hq]; simp [e])
          simp; omega
def sameR (a b : PReq) : Bool := decide (a.method = b.method) && (decide (a.target = b.target) && (decide (a.path = b.path) && (decide (a.query = b.query) && (decide (a.host = b.host) && (decide (a.heads = b.heads) && decide (bs a.body = bs b.body))))))
theorem sameR_iff (a b : PReq) : sameR a b = true ↔ a = b := by
  unfold sameR
  simp only [Bool.and_eq_true, decide_eq_true_eq]
  constructor
  · rintro ⟨h1, h2, h3, h4, h5, h6, h7⟩
    have h7 : a.body = b.body := by have := congrArg ByteArray.toList h7; rwa [bs_toList, bs_toList] at this
    cases a; cases b; simp_all
  · rintro rfl; simp
def rawQ (r : PReq) : PRaw := ⟨r.method ++ ⟨#[32]⟩ ++ r.target ++ ⟨#[32, 72, 84, 84, 80, 47, 49, 46, 49]⟩, r.heads, r.body⟩
def mayR (r : PReq) : Bool := (match ofR (rawQ r) with
  | some x => sameR x r
  | none => false) && fitsP r.heads r.body
def oneR (l : List UInt8) : PReq ⊕ Int := if (rawsL l).2 ≠ 0 then .inr (rawsL l).2 else match (rawsL l).1 with
  | [q] => match ofR q with
    | some x => .inl x
    | none => .inr 2
  | _ => .inr 2
end Go.Proofs.YtloippgblkoemaaGreatDoor.Ro

/- A logic of states: make of a row of cells. -/
namespace Go.Proofs.YtloippgblkoemaaGreatDoor.Sim
set_option linter.unusedVariables false
set_option linter.unusedSimpArgs false
open Go.RowKit Mem
section
variable {P : Program} {N : Nat} {Q : Exit → St → Prop} {ops : Array Oper} {rest : List Oper} {o : Oper} {tm : List (Nat × A)} {bx : List (Nat × List A)} {ow : List (Nat × Own)}
theorem made1 (z : Value) (n : Nat) : (madeCells #[z] n).toList = List.replicate n z := by
  refine List.ext_getElem (by simp [madeCells]) fun k h1 h2 => ?_
  simp [madeCells, Nat.mod_one]
theorem flat1 (t : T) (n : Nat) : (List.replicate n [t]).flatten = List.replicate n t := by
  induction n with
  | zero => rfl
  | succ n ih => rw [List.replicate_succ, List.flatten_cons, ih]; rfl
theorem sops_make (i : Nat) {t e by_ d n : Nat} {x y : Operand} {z : Value} {ik ik2 : IntKind} (hg : GuardIs ops tm o true) (ho : o.op = .makeSlice t x y) (hd : o.dst = some d) (hN : Nat.blt d N = true) (hT : sliceE P t = some (e, 1, by_)) (hz : (P.info? e).bind (·.zero) = some z) (hz1 : z.cells = #[z]) (hz2 : z.oneCell' = true)
    (hx : evA tm x = some (.t (.v (.int ik (n : Int))))) (hy : evA tm y = some (.t (.v (.int ik2 (n : Int))))) (hb : by_ * n ≤ 281474976710656) (hm : n ≤ maxLen) (hi : get ow i = none)
    (h : SOps P N ops Q rest ⟨(d, .own i n) :: tm, bx, (i, ⟨e, 1, List.replicate n [.v z]⟩) :: ow⟩) (hp : Nat.ble 2000 i = false := by rfl) : SOps P N ops Q (o :: rest) ⟨tm, bx, ow⟩ := by
  refine sops_run hg (fun C a w m g hr => ?_) h
  have he := hr.env
  have h1 := tr_v (hr.ev hx)
  have h2 := tr_v (hr.ev hy)
  obtain ⟨i', zv, hu, hi', hz', hs', hb', _, _⟩ := sliceE_spec hT
  have hzz : zv = z := by rw [hi'] at hz; simp [hz'] at hz; exact hz
  subst hzz
  have hlw : g.lw i = false := by rw [he.lw, hi]; rfl
  have hrun := run_make_row (P := P) t e i' zv hu hi' hz' hs' hz1 ik ik2 n (by rw [hb']; exact hb) (by unfold maxLen at hm; exact hm) w
  have hown : (w.alloc (.cells (madeCells #[zv] n) e)).ownsRow 0 e 1 (.slice (some ⟨w.heap.size, 0, none⟩) n n) n (List.replicate n zv) :=
    ⟨by simp, .inr ⟨w.heap.size, n, _, rfl, Nat.zero_le _, heap_alloc_new w _, Nat.le_refl _, hm, by simp [madeCells], by rw [made1]; simp⟩⟩
  refine ⟨.slice (some ⟨w.heap.size, 0, none⟩) n n, w.alloc (.cells (madeCells #[zv] n) e), ?_, ?_⟩
  · simp [execOp, ho, h1, h2, hrun]
  · have hfl := flat1 (T.v zv) n
    obtain ⟨h8, h9⟩ := he.setO (hp := hp) (w' := w.alloc (.cells (madeCells #[zv] n) e)) (i := i) (v := .slice (some ⟨w.heap.size, 0, none⟩) n n) (e := e) (sz := 1) (rows := List.replicate n [.v zv]) (vs := List.replicate n zv) (by rw [List.length_replicate]; exact .of hown) (fun r h => by rw [List.eq_of_mem_replicate h]; rfl)
      ⟨by rw [hfl]; simp, fun j t v ha hb => by
        rw [hfl] at ha
        rw [List.getElem?_replicate] at ha hb
        split at ha
        · rename_i hj
          rw [if_pos hj] at hb
          injection ha with ha; injection hb with hb; subst ha hb
          exact ⟨.v _, hz2⟩
        · cases ha⟩ (.inr hi) (.inr ⟨fun b hb => by injection hb with hb; subst hb; exact Nat.le_refl _, (Lo.refl w).alloc _⟩)
    rw [hd]
    exact ⟨_, _, hr.put h8 (fun x u h => h.setO h9 (.inl hlw)) (Nat.lt_of_succ_le (Nat.le_of_ble_eq_true hN)) ⟨by simp [Gh.setO], by simp [Gh.setO], ⟨_, _, rfl⟩, fun _ => by simp [Gh.setO]⟩⟩
end
end Go.Proofs.YtloippgblkoemaaGreatDoor.Sim

/- A logic of states: a loop whose rounds bear data. -/
namespace Go.Proofs.YtloippgblkoemaaGreatDoor.Sim
set_option linter.unusedVariables false
set_option linter.unusedSimpArgs false
open Go.RowKit Mem
section
variable {P : Program} {N : Nat} {Q : Exit → St → Prop} {st : St}
def famF {α : Type} (N : Nat) (S : α → St) (I : α → Prop) (μ : α → Nat) (x : α) (Q : Exit → St → Prop) : Exit → St → Prop
  | .normal, s' => ∃ y, μ y < μ x ∧ I y ∧ Weak N s' (S y)
  | e, s' => Q e s'
structure FamQ {α : Type} (N : Nat) (S : α → St) (I : α → Prop) (μ : α → Nat) (x : α) (Q : Exit → St → Prop) (e : Exit) (s' : St) : Prop where
  go : famF N S I μ x Q e s'
theorem fam_next {α : Type} {S : α → St} {I : α → Prop} {μ : α → Nat} {x : α} {s' : St} (y : α) (hm : μ y < μ x) (hw : Weak N s' (S y)) (hI : I y) : FamQ N S I μ x Q .normal s' := ⟨⟨y, hm, hI, hw⟩⟩
theorem fam_ret {α : Type} {S : α → St} {I : α → Prop} {μ : α → Nat} {x : α} {s' : St} (h : Q .ret s') : FamQ N S I μ x Q .ret s' := ⟨h⟩
theorem fam_exit {α : Type} {S : α → St} {I : α → Prop} {μ : α → Nat} {x : α} {s' : St} {id : Nat} (h : Q (.exit id) s') : FamQ N S I μ x Q (.exit id) s' := ⟨h⟩
theorem swp_fam {α : Type} {c : Code} (S : α → St) (I : α → Prop) (μ : α → Nat) (x0 : α) (h0 : Weak N st (S x0)) (hI : I x0) (hround : ∀ x, I x → SWp P N c (FamQ N S I μ x Q) (S x)) : SWp P N (.loop c) Q st := by
  refine .mk fun C a w hr => ?_
  have key : ∀ n x a w, μ x = n → I x → Rel C N (S x) a w → ∀ (b : Frame) (k : List Item) (cs : List Frame), ∃ e a' w', Good C N Q e a' w' ∧ Arrives P (lone (b.at a (.code c :: .inLoop c :: k)) cs w) b k cs e a' w' := by
    intro n
    induction n using Nat.strongRecOn with
    | _ n ih =>
      intro x a w hn hi hr b k cs
      obtain ⟨e, a1, w1, ⟨s1, hr1, hq⟩, harr⟩ := (hround x hi).go C a w hr b (.inLoop c :: k) cs
      cases e with
      | normal =>
        obtain ⟨y, hm, hi', hw⟩ := hq.go
        obtain ⟨e2, a2, w2, hq2, harr2⟩ := ih (μ y) (by omega) y a1 w1 rfl hi' (hw.go C a1 w1 hr1) b k cs
        exact ⟨e2, a2, w2, hq2, .of_steps (Steps.trans harr (.one step_inLoop)) harr2⟩
      | exit id => exact ⟨_, a1, w1, ⟨s1, hr1, hq.go⟩, .pass (x := .inLoop c) rfl (fun _ _ => .inl (by simp)) harr⟩
      | goto l => exact ⟨_, a1, w1, ⟨s1, hr1, hq.go⟩, .pass (x := .inLoop c) rfl (fun _ _ => .inl (by simp)) harr⟩
      | ret => exact ⟨_, a1, w1, ⟨s1, hr1, hq.go⟩, .pass (x := .inLoop c) rfl (fun _ _ => .inl (by simp)) harr⟩
      | panic ch => exact ⟨_, a1, w1, ⟨s1, hr1, hq.go⟩, .pass (x := .inLoop c) rfl (fun _ _ => .inl (by simp)) harr⟩
      | outgrown => exact ⟨_, a1, w1, ⟨s1, hr1, hq.go⟩, .pass (x := .inLoop c) rfl (fun _ _ => .inl (by simp)) harr⟩
  intro b k cs
  obtain ⟨e, a', w', hq, harr⟩ := key _ x0 a w rfl hI (h0.go C a w hr) b k cs
  exact ⟨e, a', w', hq, .of_steps (.one step_loop) harr⟩
end
end Go.Proofs.YtloippgblkoemaaGreatDoor.Sim

/- Targets: digits, bytes, what may be, what is said by %: walks. -/
namespace Go.Proofs.YtloippgblkoemaaGreatDoor.Pth
set_option linter.unusedVariables false
set_option linter.unusedSimpArgs false
open Go.RowKit Mem Sim Opn Str
theorem idx_any (l : List UInt8) (c : UInt8) : decide (0 ≤ Lib.indexByte l c) = l.any (· == c) := by
  rw [idx_list]
  by_cases h : l.findIdx (· == c) < l.length
  · rw [if_pos h, decide_eq_true (by omega)]
    exact (List.any_eq_true.2 (by
      have := List.findIdx_getElem (w := h)
      exact ⟨_, List.getElem_mem h, this⟩)).symm
  · rw [if_neg h, decide_eq_false (by decide)]
    refine (List.any_eq_false.2 fun x hx hc => h ?_).symm
    exact List.findIdx_lt_length_of_exists ⟨x, hx, hc⟩
theorem dig_ways (n : Nat) : n < 48 ∨ (48 ≤ n ∧ n ≤ 57) ∨ (57 < n ∧ n < 65) ∨ (65 ≤ n ∧ n ≤ 70) ∨ (70 < n ∧ n < 97) ∨ (97 ≤ n ∧ n ≤ 102) ∨ 102 < n := by omega
theorem let_ways (n : Nat) : n < 48 ∨ (48 ≤ n ∧ n ≤ 57) ∨ (57 < n ∧ n < 65) ∨ (65 ≤ n ∧ n ≤ 90) ∨ (90 < n ∧ n < 97) ∨ (97 ≤ n ∧ n ≤ 122) ∨ 122 < n := by omega
theorem ext_bs (l : List UInt8) (a b : Nat) : (bs l).extract a b = bs ((l.take b).drop a) := bs_inj (by
  rw [bs_toList, ByteArray.toList_eq, ByteArray.data_extract]
  simp [bs, List.extract_eq_take_drop, List.drop_take])
set_option maxRecDepth 100000 in
theorem digit_ (c : UInt8) : PCalls Tryz.prog 122 [.v (.int .u8 (c.toNat : Int))] (.v (.int .i64 (dig c))) := by
  have hlt := c.toNat_lt
  unfold dig
  generalize c.toNat = n at *
  refine pcalls_of Tryz.func122 rfl rfl Tryz.ntmps122 rfl ?_
  rcases dig_ways n with h | h | h | h | h | h | h
  all_goals
    repeat' (first | refine rg 0 (aq0 ?_) | refine rg 1 (aq84 ?_) | (refine rg 2 ?_; refine oMv ?_; (first | refine sp (po_dec rfl rfl rfl (by omega)) ?_ | refine sp (po_arith rfl rfl rfl (ar_sub (by first | rfl | (refine wrap_i64 ?_; omega) | (refine wrap_u8 ?_; omega)) rfl)) ?_); refine sp (po_conv_int rfl rfl (tyK rfl) (tyK rfl) (by (refine wrap_i64 ?_; omega))) ?_; refine aq0 ?_) | refine rg 3 (aq84 ?_) | (refine rg 4 ?_; refine oMv ?_; (first | refine sp (po_dec rfl rfl rfl (by omega)) ?_ | refine sp (po_arith rfl rfl rfl (ar_sub (by first | rfl | (refine wrap_i64 ?_; omega) | (refine wrap_u8 ?_; omega)) rfl)) ?_); refine sp (po_conv_int rfl rfl (tyK rfl) (tyK rfl) (by (refine wrap_i64 ?_; omega))) ?_; (first | refine sp (xinc rfl) ?_ | refine sp (po_arith rfl rfl rfl (ar_add (by first | rfl | (refine wrap_i64 ?_; omega)) rfl)) ?_); refine aq0 ?_) | refine rg 5 (aq84 ?_) | (refine rg 6 ?_; refine oMv ?_; (first | refine sp (po_dec rfl rfl rfl (by omega)) ?_ | refine sp (po_arith rfl rfl rfl (ar_sub (by first | rfl | (refine wrap_i64 ?_; omega) | (refine wrap_u8 ?_; omega)) rfl)) ?_); refine sp (po_conv_int rfl rfl (tyK rfl) (tyK rfl) (by (refine wrap_i64 ?_; omega))) ?_; (first | refine sp (xinc rfl) ?_ | refine sp (po_arith rfl rfl rfl (ar_add (by first | rfl | (refine wrap_i64 ?_; omega)) rfl)) ?_); refine aq0 ?_) | refine rg 7 (aq0 ?_) | refine gc ?_ | refine ct ?_ | refine cf ?_ | refine sc ?_ ?_ <;> intro hc | refine rq rfl (rt .nil) ?_)
    first
      | (rw [if_pos (by omega)]; rfl)
      | (rw [if_neg (by omega), if_pos (by omega)]; rfl)
      | (rw [if_neg (by omega), if_neg (by omega), if_pos (by omega)]; rfl)
      | (rw [if_neg (by omega), if_neg (by omega), if_neg (by omega)]; rfl)
set_option maxRecDepth 100000 in
theorem plain_ (c : UInt8) : PCalls Tryz.prog 123 [.v (.int .u8 (c.toNat : Int))] (.v (.bool (plainB c))) := by
  have hc := indexByte_ (bs [45, 46, 95, 126]) c
  have hi : decide (0 ≤ Lib.indexByte (bs [45, 46, 95, 126]).data.toList c) = ([45, 46, 95, 126] : List UInt8).any (· == c) := idx_any _ c
  unfold plainB
  generalize ([45, 46, 95, 126] : List UInt8).any (· == c) = b at *
  generalize Lib.indexByte (bs [45, 46, 95, 126]).data.toList c = z at *
  generalize c.toNat = n at *
  refine pcalls_of Tryz.func123 rfl rfl Tryz.ntmps123 rfl ?_
  rcases let_ways n with h | h | h | h | h | h | h
  all_goals
    repeat' (first | refine rg 0 (aq0 ?_) | (refine rg 1 ?_; refine oMv ?_; refine oCm ?_; refine oMv ?_; (first | refine oMv ?_ | refine oK ?_); (first | refine oCm ?_ | refine oK ?_); (first | refine oPt ?_ | refine oPf ?_); refine oMv ?_; (first | refine oMv ?_ | refine oK ?_); (first | refine oCm ?_ | refine oK ?_); (first | refine oMv ?_ | refine oK ?_); (first | refine oMv ?_ | refine oK ?_); (first | refine oCm ?_ | refine oK ?_); (first | refine oPt ?_ | refine oPf ?_ | refine oK ?_); (first | refine oPt ?_ | refine oPf ?_); refine oMv ?_; (first | refine oMv ?_ | refine oK ?_); (first | refine oCm ?_ | refine oK ?_); (first | refine oMv ?_ | refine oK ?_); (first | refine oMv ?_ | refine oK ?_); (first | refine oCm ?_ | refine oK ?_); (first | refine oPt ?_ | refine oPf ?_ | refine oK ?_); (first | refine oPt ?_ | refine oPf ?_); refine oMv ?_; (first | refine oMv ?_ | refine oK ?_) <;> (first | refine oC (hc) rfl (ac (ac .nil)) ?_ | refine oK ?_) <;> refine aq33 ?_) | refine gc ?_ | refine ct ?_ | refine cf ?_ | refine sc ?_ ?_ <;> intro hc | refine rq rfl (rt .nil) ?_)
    refine eq_b ?_
    subst hi
    rw [Bool.eq_iff_iff]
    simp at *; try omega
set_option maxRecDepth 100000 in
theorem hidden_ (c : UInt8) : PCalls Tryz.prog 92 [.v (.int .u8 (c.toNat : Int))] (.v (.bool (hiddenB c))) := by
  unfold hiddenB
  generalize c.toNat = n at *
  refine pcalls_of Tryz.func92 rfl rfl Tryz.ntmps92 rfl ?_
  repeat' (first | refine rg 0 (aq0 ?_) | (refine rg 1 ?_; refine oMv ?_; refine oCm ?_; refine oMv ?_; (first | refine oMv ?_ | refine oK ?_ | ((refine ssp (fun hc => ?_) (fun hc => ?_)) <;> first | refine oMv ?_ | refine oK ?_)) <;> refine aq36 ?_ <;> (first | refine oMv ?_ | refine oK ?_ | ((refine ssp (fun hc => ?_) (fun hc => ?_)) <;> first | refine oMv ?_ | refine oK ?_)) <;> refine aq36 ?_ <;> (first | refine oMv ?_ | refine oK ?_ | ((refine ssp (fun hc => ?_) (fun hc => ?_)) <;> first | refine oMv ?_ | refine oK ?_)) <;> refine aq33 ?_) | refine gc ?_ | refine ct ?_ | refine cf ?_ | refine sc ?_ ?_ <;> intro hc | refine rq rfl (rt .nil) ?_)
  all_goals
    refine eq_b ?_
    rw [Bool.eq_iff_iff]
    simp at *; try omega
set_option maxRecDepth 100000 in
theorem none_ (c : UInt8) : PCalls Tryz.prog 93 [.v (.int .u8 (c.toNat : Int))] (.v (.bool false)) := by
  refine pcalls_of Tryz.func93 rfl rfl Tryz.ntmps93 rfl ?_
  repeat' (first | refine rg 0 (aq0 ?_) | refine rg 1 (aq0 ?_) | refine gc ?_ | refine ct ?_ | refine cf ?_ | refine sc ?_ ?_ <;> intro hc | refine rq rfl (rt .nil) ?_)
  rfl
end Go.Proofs.YtloippgblkoemaaGreatDoor.Pth
