/- Merged by bundles.py: PlPath4. -/
import Derived.Test.YtkmhaijefpgfiaaDoorQ18
/- Targets' paths: alike targets, in plain Lean. -/
namespace Go.Proofs.YtkmhaijefpgfiaaDoor.Pth
set_option linter.unusedVariables false
set_option linter.unusedSimpArgs false
open Mem
theorem pct_app {l v : L8} (h : pctB l = true) : pctB (l ++ v) = true := by
  match l, h with
  | a :: b :: l, h => exact h
theorem okL_app {u v : L8} (hu : okL u = true) (hv : okL v = true) : okL (u ++ v) = true := by
  induction u with
  | nil => exact hv
  | cons c u ih =>
    rw [okL_cons, Bool.and_eq_true, Bool.and_eq_true, Bool.or_eq_true] at hu
    rw [List.cons_append, okL_cons, Bool.and_eq_true, Bool.and_eq_true, Bool.or_eq_true]
    exact ⟨⟨hu.1.1, hu.1.2.imp id pct_app⟩, ih hu.2⟩
theorem okL_pre : ∀ {u w : L8}, okL (u ++ w) = true → (∀ i, u.length ≤ i + 2 → u[i]? ≠ some 37) → okL u = true
  | [], _, _, _ => rfl
  | c :: u, w, h, hc => by
    rw [List.cons_append, okL_cons, Bool.and_eq_true, Bool.and_eq_true, Bool.or_eq_true] at h
    rw [okL_cons, Bool.and_eq_true, Bool.and_eq_true, Bool.or_eq_true]
    refine ⟨⟨h.1.1, ?_⟩, okL_pre h.2 fun i hi => by have := hc (i + 1) (by simp; omega); simpa using this⟩
    by_cases h37 : c = 37
    · subst h37
      refine .inr ?_
      have h2 := h.1.2
      match u, h2, hc with
      | [], _, hc => exact absurd rfl (hc 0 (by simp))
      | [a], _, hc => exact absurd rfl (hc 0 (by simp))
      | a :: b :: u, h2, _ => exact h2.resolve_left (by simp)
    · exact .inl (by simpa using h37)
theorem okL_at {l : L8} (h : okL l = true) {i : Nat} (hi : l[i]? = some 37) : ∃ a b, l[i + 1]? = some a ∧ l[i + 2]? = some b ∧ 0 ≤ dig a ∧ 0 ≤ dig b := by
  have h1 := okL_drop h i
  obtain ⟨hlt, he⟩ := List.getElem?_eq_some_iff.1 hi
  rw [List.drop_eq_getElem_cons hlt, he, okL_cons, Bool.and_eq_true, Bool.and_eq_true] at h1
  have hp : pctB (l.drop (i + 1)) = true := by simpa using h1.1.2
  match hq : l.drop (i + 1), hp with
  | a :: b :: r, hp =>
    have h' : (decide (0 ≤ dig a) && decide (0 ≤ dig b)) = true := hp
    rw [Bool.and_eq_true, decide_eq_true_eq, decide_eq_true_eq] at h'
    refine ⟨a, b, ?_, ?_, h'.1, h'.2⟩
    · have := congrArg (fun x => x[0]?) hq
      simpa [List.getElem?_drop] using this
    · have := congrArg (fun x => x[1]?) hq
      simpa [List.getElem?_drop] using this
theorem saidL_app (bad : UInt8 → Bool) : ∀ {u v : L8}, okL u = true → saidL bad (u ++ v) = if (saidL bad u).2 = true then ((saidL bad u).1 ++ (saidL bad v).1, (saidL bad v).2) else ((saidL bad u).1, false)
  | [], v, _ => by simp [saidL]
  | c :: u, v, h => by
    by_cases hc : c = 37
    · subst hc
      rw [okL_cons, Bool.and_eq_true, Bool.and_eq_true] at h
      have hp : pctB u = true := by simpa using h.1.2
      match u, hp, h with
      | a :: b :: u, _, h =>
        have hu : okL u = true := okL_drop h.2 2
        have ih := saidL_app bad (u := u) (v := v) hu
        rw [List.cons_append, List.cons_append, List.cons_append, saidL_pct, saidL_pct, ih]
        split
        · rfl
        · split
          · cases (saidL bad u).2 <;> rfl
          · cases (saidL bad u).2 <;> rfl
    · rw [okL_cons, Bool.and_eq_true] at h
      have ih := saidL_app bad (u := u) (v := v) h.2
      rw [List.cons_append, saidL_cons hc, saidL_cons hc, ih]
      cases (saidL bad u).2 <;> rfl
theorem cut_app {u : L8} (h : u.all (· != 63) = true) (x : L8) : cutL (u ++ x) = (u ++ (cutL x).1, (cutL x).2) := by
  unfold cutL
  induction u with
  | nil => rfl
  | cons c u ih =>
    rw [List.all_cons, Bool.and_eq_true] at h
    have ih := ih h.2
    injection ih with i1 i2
    dsimp only
    rw [List.cons_append, List.takeWhile_cons, if_pos h.1, List.dropWhile_cons, if_pos h.1, i1, i2]; rfl
theorem splL_app (a b : L8) : splL (a ++ 47 :: b) = splL a ++ splL b := by
  induction a with
  | nil => rw [List.nil_append, splL_cons, if_pos rfl]; rfl
  | cons c a ih =>
    rw [List.cons_append, splL_cons, splL_cons, ih]
    split
    · rfl
    · have := splL_ne a
      match hq : splL a, this with
      | h :: t, _ => rfl
theorem keptG_app : ∀ (A B left : List L8), keptG left (A ++ B) = (keptG left A).bind fun l => keptG l B
  | [], B, left => rfl
  | s :: A, B, left => by
    rw [List.cons_append, keptG_cons, keptG_cons]
    cases keep1 left s with
    | none => rfl
    | some left' => exact keptG_app A B left'
theorem getLast_app (A : List L8) (V : L8) : (A ++ splL V).getLast? = (splL V).getLast? := by
  have := splL_ne V
  cases hq : splL V with
  | nil => exact absurd hq this
  | cons a b => rw [List.getLast?_append, List.getLast?_cons]; rfl
/-- segments that leave nothing behind -/
def idle (I : List L8) : Prop := ∀ left B, keptG left (I ++ B) = keptG left B
theorem idle1 : idle [[]] := fun left B => by rw [List.cons_append, keptG_cons]; rfl
theorem idle2 : idle [[46]] := fun left B => by rw [List.cons_append, keptG_cons]; rfl
theorem idle3 : idle [[120, 46], [46, 46]] := fun left B => by
  rw [List.cons_append, keptG_cons]
  show (match some (left ++ [[120, 46]]) with | none => none | some left' => keptG left' ([[46, 46]] ++ B)) = _
  show keptG (left ++ [[120, 46]]) ([46, 46] :: B) = _
  rw [keptG_cons]
  have : keep1 (left ++ [[120, 46]]) [46, 46] = some left := by unfold keep1; rw [if_pos rfl, if_neg (by simp), List.dropLast_concat]
  rw [this]
/-- a road with idle segments more -/
theorem kept_idle {U V INS : L8} {I : List L8} (hU : U = [] ∨ U.head? = some 47) (hI : idle I) (hs : splL (INS ++ V) = I ++ splL V) : keptL (U ++ 47 :: (INS ++ V)) = keptL (U ++ 47 :: V) := by
  have key : ∀ A : List L8, ((keptG [] (A ++ (I ++ splL V))).map fun x => (x, ((A ++ (I ++ splL V)).getLast?.map dotB).getD false && decide (x ≠ []))) = ((keptG [] (A ++ splL V)).map fun x => (x, ((A ++ splL V).getLast?.map dotB).getD false && decide (x ≠ []))) := fun A => by
    rw [← List.append_assoc, getLast_app, getLast_app, List.append_assoc, keptG_app, keptG_app]
    cases keptG [] A with
    | none => rfl
    | some l => dsimp only [Option.bind]; rw [hI]
  rw [keptL_G, keptL_G]
  rcases hU with rfl | hU
  · rw [List.nil_append, List.nil_append, List.drop_succ_cons, List.drop_succ_cons, List.drop_zero, List.drop_zero, hs]
    exact key []
  · match U, hU with
    | c :: U', _ =>
      rw [List.cons_append, List.cons_append, List.drop_succ_cons, List.drop_succ_cons, List.drop_zero, List.drop_zero, splL_app, splL_app, hs]
      exact key _
theorem may_mk {l : L8} (h1 : l.length ≤ 512) (h2 : l.head? = some 47) (h3 : okL l = true) : mayL l = true := by
  unfold mayL
  rw [decide_eq_true h1, decide_eq_true h2, h3]; rfl
theorem norm_parts {s p q : L8} (h : normL s = some (p, q)) : mayL s = true ∧ (saidL hiddenB (cutL s).1).2 = true := by
  unfold normL at h
  split at h
  · rename_i hm
    refine ⟨hm, ?_⟩
    split at h
    · cases h
    · split at h
      · assumption
      · cases h
  · cases h
theorem norm_eq {s t : L8} (hs : mayL s = true) (ht : mayL t = true) (hq : (cutL t).2 = (cutL s).2) (ho : (saidL hiddenB (cutL t).1).2 = (saidL hiddenB (cutL s).1).2) (hk : keptL (saidL hiddenB (cutL t).1).1 = keptL (saidL hiddenB (cutL s).1).1) : normL t = normL s := by
  unfold normL
  rw [if_pos hs, if_pos ht, hq, ho, hk]
theorem alike_ins {u0 v ins INS : L8} {I : List L8} {p q : L8} (hn : normL (u0 ++ 47 :: v) = some (p, q)) (hl : (u0 ++ 47 :: v).length ≤ 300) (hu : u0.all (· != 63) = true)
    (hi1 : ins.length ≤ 8) (hi2 : okL ins = true) (hi3 : ins.all (· != 63) = true) (hi4 : saidL hiddenB ins = (INS, true)) (hI : idle I) (hs : ∀ V, splL (INS ++ V) = I ++ splL V) : normL (u0 ++ 47 :: (ins ++ v)) = some (p, q) := by
  rw [← hn]
  obtain ⟨hm, hsd⟩ := norm_parts hn
  obtain ⟨m1, m2, m3⟩ := may_parts hm
  have hu0 : okL u0 = true := okL_pre m3 fun i hi e => by
    have hlt : i < u0.length := (List.getElem?_eq_some_iff.1 e).1
    have e' : (u0 ++ 47 :: v)[i]? = some 37 := by rw [List.getElem?_append_left hlt]; exact e
    obtain ⟨a, b, h1, h2, h3, h4⟩ := okL_at m3 e'
    have h47 : (u0 ++ 47 :: v)[u0.length]? = some 47 := by simp
    have hd : ¬ 0 ≤ dig 47 := by decide
    rcases (by omega : u0.length = i + 1 ∨ u0.length = i + 2) with h5 | h5
    · rw [h5] at h47; rw [h47] at h1; injection h1 with h1; subst h1; exact hd h3
    · rw [h5] at h47; rw [h47] at h2; injection h2 with h2; subst h2; exact hd h4
  have hv : okL v = true := by
    have := okL_drop m3 (u0.length + 1)
    rwa [show u0 ++ 47 :: v = (u0 ++ [47]) ++ v by simp, List.drop_append_of_le_length (by simp), List.drop_of_length_le (by simp)] at this
  have h1 : okL [47] = true := by decide
  have hu1 : okL (u0 ++ [47]) = true := okL_app hu0 h1
  have hq1 : (u0 ++ [47]).all (· != 63) = true := by rw [List.all_append, hu]; rfl
  have es : u0 ++ 47 :: v = (u0 ++ [47]) ++ v := by simp
  have et : u0 ++ 47 :: (ins ++ v) = (u0 ++ [47]) ++ (ins ++ v) := by simp
  have cs : cutL (u0 ++ 47 :: v) = ((u0 ++ [47]) ++ (cutL v).1, (cutL v).2) := by rw [es]; exact cut_app hq1 v
  have ct : cutL (u0 ++ 47 :: (ins ++ v)) = ((u0 ++ [47]) ++ (ins ++ (cutL v).1), (cutL v).2) := by rw [et, cut_app hq1, cut_app hi3]
  have ht : mayL (u0 ++ 47 :: (ins ++ v)) = true := by
    refine may_mk ?_ ?_ (by rw [et]; exact okL_app hu1 (okL_app hi2 hv))
    · simp only [List.length_append, List.length_cons] at hl ⊢; omega
    · cases u0 with
      | nil => rfl
      | cons c u0 => simpa using m2
  rw [cs] at hsd
  rw [saidL_app hiddenB hu1] at hsd
  have ha : (saidL hiddenB (u0 ++ [47])).2 = true := by
    cases hb : (saidL hiddenB (u0 ++ [47])).2 with
    | true => rfl
    | false => rw [hb] at hsd; cases hsd
  rw [ha, if_pos rfl] at hsd
  have e47 : saidL hiddenB [47] = ([47], true) := by decide
  have hb0 : (saidL hiddenB u0).2 = true := by
    rw [saidL_app hiddenB hu0] at ha
    cases hb : (saidL hiddenB u0).2 with
    | true => rfl
    | false => rw [hb] at ha; cases ha
  have eU : saidL hiddenB (u0 ++ [47]) = ((saidL hiddenB u0).1 ++ [47], true) := by rw [saidL_app hiddenB hu0, if_pos hb0, e47]
  have s1 : saidL hiddenB ((u0 ++ [47]) ++ (cutL v).1) = ((saidL hiddenB u0).1 ++ 47 :: (saidL hiddenB (cutL v).1).1, (saidL hiddenB (cutL v).1).2) := by
    rw [saidL_app hiddenB hu1, eU, if_pos rfl]; simp
  have s2 : saidL hiddenB ((u0 ++ [47]) ++ (ins ++ (cutL v).1)) = ((saidL hiddenB u0).1 ++ 47 :: (INS ++ (saidL hiddenB (cutL v).1).1), (saidL hiddenB (cutL v).1).2) := by
    rw [saidL_app hiddenB hu1, eU, if_pos rfl, saidL_app hiddenB hi2, hi4, if_pos rfl]; simp
  refine norm_eq hm ht (by rw [cs, ct]) (by rw [cs, ct, s1, s2]) ?_
  rw [cs, ct, s1, s2]
  refine kept_idle ?_ hI (hs _)
  cases u0 with
  | nil => exact .inl rfl
  | cons c u0 => exact .inr (said_head (by simpa using m2)).1
def hexl (n : Nat) : UInt8 := if n < 10 then (48 + n).toUInt8 else (87 + n).toUInt8
theorem hexl_ok : ∀ c : Nat, (97 ≤ c ∧ c ≤ 122) ∨ (48 ≤ c ∧ c ≤ 57) → num2 (hexl (c / 16)) (hexl (c % 16)) = c.toUInt8 ∧ pctB [hexl (c / 16), hexl (c % 16)] = true ∧ badC (hexl (c / 16)) = false ∧ badC (hexl (c % 16)) = false ∧ hexl (c / 16) ≠ 37 ∧ hexl (c % 16) ≠ 37 ∧ hexl (c / 16) ≠ 63 ∧ hexl (c % 16) ≠ 63 ∧ hiddenB c.toUInt8 = false ∧ plainB c.toUInt8 = true ∧ c.toUInt8 ≠ 37 ∧ c.toUInt8 ≠ 47 := by
  have h : ∀ c : Fin 123, (97 ≤ c.1 ∧ c.1 ≤ 122) ∨ (48 ≤ c.1 ∧ c.1 ≤ 57) → num2 (hexl (c.1 / 16)) (hexl (c.1 % 16)) = c.1.toUInt8 ∧ pctB [hexl (c.1 / 16), hexl (c.1 % 16)] = true ∧ badC (hexl (c.1 / 16)) = false ∧ badC (hexl (c.1 % 16)) = false ∧ hexl (c.1 / 16) ≠ 37 ∧ hexl (c.1 % 16) ≠ 37 ∧ hexl (c.1 / 16) ≠ 63 ∧ hexl (c.1 % 16) ≠ 63 ∧ hiddenB c.1.toUInt8 = false ∧ plainB c.1.toUInt8 = true ∧ c.1.toUInt8 ≠ 37 ∧ c.1.toUInt8 ≠ 47 := by decide +kernel
  intro c hc
  exact h ⟨c, by omega⟩ hc
theorem alike_let {u v : L8} {c : UInt8} {p q : L8} (hn : normL (u ++ c :: v) = some (p, q)) (hl : (u ++ c :: v).length ≤ 300) (hu : u.all (· != 63) = true) (hc63 : c ≠ 63)
    (hc : (97 ≤ c.toNat ∧ c.toNat ≤ 122) ∨ (48 ≤ c.toNat ∧ c.toNat ≤ 57)) (hb : ∀ i, u.length ≤ i + 2 → u[i]? ≠ some 37) : normL (u ++ 37 :: hexl (c.toNat / 16) :: hexl (c.toNat % 16) :: v) = some (p, q) := by
  rw [← hn]
  obtain ⟨h1, h2, h3, h4, h5, h6, h7, h8, h9, h10, h11, h12⟩ := hexl_ok c.toNat hc
  have hcc : c.toNat.toUInt8 = c := by simp
  rw [hcc] at h1 h9 h10 h11 h12
  generalize hexl (c.toNat / 16) = a at *
  generalize hexl (c.toNat % 16) = b at *
  obtain ⟨hm, hsd⟩ := norm_parts hn
  obtain ⟨m1, m2, m3⟩ := may_parts hm
  have hu0 : okL u = true := okL_pre m3 hb
  have hv : okL v = true := by
    have := okL_drop m3 (u.length + 1)
    rwa [show u ++ c :: v = (u ++ [c]) ++ v by simp, List.drop_append_of_le_length (by simp), List.drop_of_length_le (by simp)] at this
  have hab : okL [37, a, b] = true := by
    have hab' : pctB [a, b] = true := h2
    rw [okL_cons, okL_cons, okL_cons, h3, h4, hab', decide_eq_false h5, decide_eq_false h6]; simp [show badC 37 = false by decide, okL]
  have hq2 : (u ++ [37, a, b]).all (· != 63) = true := by rw [List.all_append, hu]; simp [h7, h8]
  have hq1 : (u ++ [c]).all (· != 63) = true := by rw [List.all_append, hu]; simp [hc63]
  have es : u ++ c :: v = (u ++ [c]) ++ v := by simp
  have et : u ++ 37 :: a :: b :: v = (u ++ [37, a, b]) ++ v := by simp
  have cs : cutL (u ++ c :: v) = (u ++ c :: (cutL v).1, (cutL v).2) := by rw [es, cut_app hq1]; simp
  have ct : cutL (u ++ 37 :: a :: b :: v) = (u ++ 37 :: a :: b :: (cutL v).1, (cutL v).2) := by rw [et, cut_app hq2]; simp
  have ht : mayL (u ++ 37 :: a :: b :: v) = true := by
    refine may_mk ?_ ?_ (by rw [et]; exact okL_app (okL_app hu0 hab) hv)
    · simp only [List.length_append, List.length_cons] at hl ⊢; omega
    · cases u with
      | nil => exfalso; simp at m2; exact h12 m2
      | cons d u => simpa using m2
  have key : saidL hiddenB (u ++ 37 :: a :: b :: (cutL v).1) = saidL hiddenB (u ++ c :: (cutL v).1) := by
    rw [saidL_app hiddenB hu0, saidL_app hiddenB hu0, saidL_pct, saidL_cons h11, h1, h9, h10]; simp
  refine norm_eq hm ht (by rw [cs, ct]) (by rw [cs, ct]; dsimp only; rw [key]) ?_
  rw [cs, ct]; dsimp only; rw [key]
end Go.Proofs.YtkmhaijefpgfiaaDoor.Pth
