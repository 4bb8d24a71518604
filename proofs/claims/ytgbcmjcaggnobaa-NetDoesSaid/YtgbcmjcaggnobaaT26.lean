/- Merged by bundles.py: SimDo3, SimDo4. -/
import Derived.Test.YtgbcmjcaggnobaaT25
/- The document's net: New, At, Deliver, Send, Double, Front. -/
namespace Go.Proofs.Ytgbcmjcaggnobaa.Sim
set_option linter.unusedVariables false
set_option linter.unusedSimpArgs false
open Go.RowKit Mem
/-- a literal: a row of the call's own -/
theorem e_buildN {P : Program} {bx : List (Nat × List A)} {ow : List (Nat × Own)} {o : Oper} {ρ : Operand → Option A} {t e sz by_ len d : Nat} {xs : List (Nat × Operand)} {rows : List (List T)} (ho : o.op = .buildSlice t len xs.toArray) (hT : sliceE P t = some (e, sz, by_)) (hx : DParts ow ρ sz 0 xs rows) (hlen : rows.length = len) (h0 : Nat.blt 0 len = true) (hsm : Nat.ble (len * sz) (2 ^ 24) = true)
    (hi : get ow d = none) (hp : Nat.ble 2000 d = false := by rfl) : EStep P bx ow o ρ (.own d rows.length) bx ((d, ⟨e, sz, rows⟩) :: ow) := e_run fun C m g w a he h => by
  obtain ⟨vs, h1, h2, h3, h4, h5⟩ := hx.ok he (a := a) (fun x hx y hy => h x (by simp [ho, Op.operands] at hx ⊢; exact hx) y hy)
  have hrun := built_run (P := P) hT w vs h3 (by omega) (Nat.lt_of_succ_le (Nat.le_of_ble_eq_true h0)) hsm
  have hsz := (sliceE_spec hT).choose_spec.choose_spec.2.2.2.2.2.2
  have hlw : g.lw d = false := by rw [he.lw, hi]; rfl
  have hle := Nat.le_of_ble_eq_true hsm
  have hml : len ≤ maxLen := by
    have h6 : len * 1 ≤ len * sz := Nat.mul_le_mul_left _ hsz
    unfold maxLen; omega
  subst hlen
  obtain ⟨h8, h9⟩ := he.setO (hp := hp) (w' := w.alloc (.cells (vs.flatMap fun v => v.cells.toList).toArray e)) (i := d) (v := .slice (some ⟨w.heap.size, 0, none⟩) rows.length rows.length) (e := e) (sz := sz) (rows := rows) (vs := vs.flatMap fun v => v.cells.toList)
    ⟨by rw [flatMap_cells_len h3, h2], .inr ⟨w.heap.size, rows.length, _, rfl, Nat.zero_le _, ⟨_, heap_alloc_new w _, .inl rfl⟩, Nat.le_refl _, hml, by simp [flatMap_cells_len h3, h2], by rw [List.take_of_length_le]; simp [flatMap_cells_len h3, h2]⟩⟩ h4 h5 (.inr hi) (.inr ⟨fun b hb => by injection hb with hb; subst hb; exact Nat.le_refl _, (Lo.refl w).alloc _⟩)
  refine ⟨.slice (some ⟨w.heap.size, 0, none⟩) rows.length rows.length, _, _, _, ?_, h8, ⟨by simp [Gh.setO], by simp [Gh.setO], ⟨_, _, rfl⟩, fun _ => by simp [Gh.setO]⟩, fun x u h => h.setO h9 (.inl hlw)⟩
  simp only [execOp, ho, List.map_toArray]
  rw [show (xs.map fun x => (x.1, a.eval x.2)) = (vs.zipIdx 0).map (fun x => (x.2, x.1)) from h1, Sem.run_bind, hrun]; rfl
set_option maxRecDepth 100000 in
theorem rnew_bad (n : Int) (h : n < 1 ∨ 9 < n) : LCalls Try.prog 22 [.t (.v (.int .i64 n))] [] [] (.t (.v (.pointer none))) [] [] := by
  refine lcalls_of Try.func22 rfl rfl Try.ntmps22 rfl ?_
  by_cases h1 : n < 1
  · repeat' (first | (refine rg 0 ?_; refine oAs ?_; refine oN ?_) | (refine rg 1 ?_; refine oMv ?_; refine oCm ?_; refine oMv ?_; (first | refine oMv ?_ | refine oK ?_) <;> (first | refine oCm ?_ | refine oK ?_) <;> refine oPt ?_ <;> refine oN ?_) | (refine rg 2 ?_; refine oAs ?_; refine oN ?_) | refine gc ?_ | refine ct ?_ | refine cf ?_ | refine swp_cond rfl (fun hc => ?_) (fun hc => ?_) | refine retl (by exact .inr rfl) rfl (.tmp rfl rfl .nil) ?_ rfl .nil .nil)
    all_goals rfl
  · have h2 : 9 < n := by omega
    repeat' (first | (refine rg 0 ?_; refine oAs ?_; refine oN ?_) | (refine rg 1 ?_; refine oMv ?_; refine oCm ?_; refine oMv ?_; refine oMv ?_ <;> refine oCm ?_ <;> (first | refine oPt ?_ | refine oPf ?_) <;> refine oN ?_) | (refine rg 2 ?_; refine oAs ?_; refine oN ?_) | refine gc ?_ | refine ct ?_ | refine cf ?_ | refine swp_cond rfl (fun hc => ?_) (fun hc => ?_) | refine retl (by exact .inr rfl) rfl (.tmp rfl rfl .nil) ?_ rfl .nil .nil)
    all_goals rfl
theorem vwl_rep {ow : List (Nat × Own)} : ∀ n, VwL ow (List.replicate n (.t (.v (.slice none 0 0)))) (List.replicate n (.sl 1 []))
  | 0 => .nil
  | n + 1 => .cons (.nil 1) (vwl_rep n)
theorem refT_new (n : Nat) : refT (netE n) = .v (.int .i64 (n : Int)) :: List.replicate 100 (.sl 1 []) := by
  unfold refT rowT' netE
  show _ :: (List.range 100).map (fun _ => T.sl 1 []) = _
  rw [List.map_const', List.length_range]
set_option maxRecDepth 100000 in
set_option maxHeartbeats 2000000 in
theorem rnew_ok (n : Nat) (h1 : 1 ≤ n) (h2 : n ≤ 9) : LCalls Try.prog 22 [.t (.v (.int .i64 (n : Int)))] [] [] (.bp 11 0) [(11, refB (netE n))] [] := by
  have q1 : ¬ ((n : Int) < 1) := by omega
  have q2 : ¬ ((9 : Int) < n) := by omega
  refine lcalls_of Try.func22 rfl rfl Try.ntmps22 rfl ?_
  repeat' (first | (refine rg 0 ?_; refine oAs ?_; refine oN ?_) | (refine rg 1 ?_; refine oMv ?_; refine oCm ?_; refine oMv ?_; refine oMv ?_ <;> refine oCm ?_ <;> (first | refine oPt ?_ | refine oPf ?_) <;> refine oN ?_) | refine gc ?_ | refine ct ?_ | refine cf ?_ | refine swp_cond rfl (fun hc => ?_) (fun hc => ?_) | refine rq rfl (rt .nil) ?_)
  refine rg 3 ?_
  refine oMv ?_
  refine sp (po_buildS str56 rfl (pc .nil) rfl) ?_
  refine sbx ?_
  refine sops_weak (weak_bxT (i := 11) (ts := refT (netE n)) rfl (by rw [refT_new]; exact .cons (.t _) (vwl_rep 100))) ?_
  rw [refT_map]
  refine oAs ?_
  refine oN ?_
  repeat' (first | (refine rg 0 ?_; refine oAs ?_; refine oN ?_) | (refine rg 1 ?_; refine oMv ?_; refine oCm ?_; refine oMv ?_; (first | refine oMv ?_ | refine oK ?_ | ((refine ssp (fun hc => ?_) (fun hc => ?_)) <;> first | refine oMv ?_ | refine oK ?_)) <;> (first | refine oCm ?_ | refine oK ?_) <;> (first | refine oPt ?_ | refine oPf ?_) <;> refine oN ?_) | (refine rg 2 ?_; refine oAs ?_; refine oN ?_) | (refine rg 3 ?_; refine oMv ?_; refine sp (po_buildS str56 rfl (pc .nil) rfl) ?_; refine sbx ?_; refine oAs ?_; refine oN ?_) | refine gc ?_ | refine ct ?_ | refine cf ?_ | refine swp_cond rfl (fun hc => ?_) (fun hc => ?_) | refine retl (by exact .inr rfl) rfl (.tmp rfl rfl .nil) ?_ rfl (.cons rfl (by rfl) rfl .nil) .nil)
  all_goals rfl
set_option maxRecDepth 100000 in
set_option maxHeartbeats 2000000 in
theorem rat_err (d : PNet) (x y i e : Int) (he : e ≠ 0) (c1 : LCalls Try.prog 43 [.bp 2000 0, .t (.v (.int .i64 x)), .t (.v (.int .i64 y)), .t (.v (.int .i64 i))] (refN d) [] (.t (.v (.int .i64 e))) (refN d) []) : LCalls Try.prog 42 [.bp 2000 0, .t (.v (.int .i64 x)), .t (.v (.int .i64 y)), .t (.v (.int .i64 i))] (refN d) [] (.tu [.t msg0, .t (.v (.int .i64 e))]) (refN d) [] := by
  refine lcalls_of Try.func42 rfl rfl Try.ntmps42 rfl ?_
  repeat' (first | (refine rg 0 ?_; refine sal str32 ?_; refine oAs ?_; refine oN ?_) | (refine rg 1 ?_; refine oMv ?_; refine oMv ?_; refine oMv ?_; refine oMv ?_; refine sops_lcall (c1) (fun i => i) (fun i => i) (fun _ => false) (.free rfl rfl) rfl rfl rfl (by ((repeat' (first | exact .nil | refine .cons rfl rfl rfl ?_)) <;> fail)) (.cons rfl rfl .nil) .nil rfl rfl (fun _ h => Bool.noConfusion h) ?_; refine oAs ?_; refine oN ?_) | (refine rg 2 ?_; refine oMv ?_; refine oCm ?_; refine oN ?_) | (refine rg 3 ?_; refine sp (po_buildS str32 rfl .nil rfl) ?_; refine oMv ?_; refine oS ?_; refine oAs ?_; refine oN ?_) | refine gc ?_ | refine ct ?_ | refine cf ?_ | refine swp_cond rfl (fun hc => ?_) (fun hc => ?_) | refine retl (by exact .inr rfl) rfl (.cellT rfl rfl (tyT rfl) (vc (vc (vc .nil))) rfl (.tmpT rfl (by first | exact .t _ | exact .own rfl (by rfl) | exact .nil _ | exact .emp _ | exact .fn _) .nil)) ?_ rfl (.cons rfl (by rfl) rfl .nil) .nil)
  all_goals rfl
set_option maxRecDepth 100000 in
set_option maxHeartbeats 2000000 in
theorem rat_ok (d : PNet) (hd : NetOk d) (a b k : Nat) (hL : IsL d.n a b) (hk : k < (d.row (a * 10 + b)).length) : LCalls Try.prog 42 [.bp 2000 0, .t (.v (.int .i64 (a : Int))), .t (.v (.int .i64 (b : Int))), .t (.v (.int .i64 (k : Int)))] (refN d) [] (.tu [.t (msgA ⟨a, b, (d.row (a * 10 + b))[k]⟩), .t (.v (.int .i64 0))]) (refN d) [] := by
  have c1 := none_is d hd.n a b (k : Int) hL
  rw [getP_row hk] at c1
  dsimp only at c1
  obtain ⟨g1, g2, g3, g4, g5⟩ := hL
  have hn := hd.n
  have hkk : a * 10 + b < 100 := by omega
  have hm : ((d.row (a * 10 + b)).map txtC).length = (d.row (a * 10 + b)).length := List.length_map _
  have hat : ((d.row (a * 10 + b)).map txtC)[k]? = some (txtC (d.row (a * 10 + b))[k]) := by rw [List.getElem?_map, List.getElem?_eq_getElem hk]; rfl
  have hbig := hd.big _ _ (List.getElem_mem hk)
  generalize (d.row (a * 10 + b))[k] = l at *
  have hb : (bs l).toList = l := bs_toList l
  have hbz : (bs l).size ≤ maxLen := by rw [← toList_len, hb]; unfold maxLen; omega
  unfold txtC at hat
  unfold msgA msgT bysT
  refine lcalls_of Try.func42 rfl rfl Try.ntmps42 rfl ?_
  repeat' (first | (refine rg 0 ?_; refine sal str32 ?_; refine oAs ?_; refine oN ?_) | (refine rg 1 ?_; refine oMv ?_; refine oMv ?_; refine oMv ?_; refine oMv ?_; refine sops_lcall (c1) (fun i => i) (fun i => i) (fun _ => false) (.free rfl rfl) rfl rfl rfl (by ((repeat' (first | exact .nil | refine .cons rfl rfl rfl ?_)) <;> fail)) (.cons rfl rfl .nil) .nil rfl rfl (fun _ h => Bool.noConfusion h) ?_; refine oAs ?_; refine oN ?_) | (refine rg 2 ?_; refine oMv ?_; refine oCm ?_; refine oN ?_) | (refine rg 4 ?_; refine oMv ?_; refine oMv ?_; refine oMv ?_; refine oMv ?_; refine oMv ?_; refine sp (po_nilcheck rfl rfl) ?_; refine oFb ?_; refine sp (po_index_arr rfl rfl rfl arr54 rfl (by omega)) ?_; (first | refine sp (po_index_arr rfl rfl rfl arr54 rfl (by omega)) ?_ | refine sp (po_index_arr rfl rfl rfl arr53 rfl (by omega)) ?_); refine sp (po_load_ref (a * 10 + b) rfl rfl (tyT rfl) rfl (by first | rfl | omega) (by assumption)) ?_; refine oMv ?_; (first | refine sp (po_index_arr rfl rfl rfl arr54 rfl (by omega)) ?_ | refine sp (po_index_arr rfl rfl rfl arr53 rfl (by omega)) ?_ | refine sp (pix rfl (tyS rfl) (by rfl)) ?_); (first | refine sp (po_load_ref (a * 10 + b) rfl rfl (tyT rfl) rfl (by rfl) (by assumption)) ?_ | refine sp (po_load_ntn rfl rfl (tyT rfl) rfl) ?_ | refine sp (po_load_ntk rfl rfl (tyT rfl) rfl (by assumption) (by assumption) rfl) ?_ | refine oLb ?_ | refine oLd ?_); refine sops_str_bytes 100 (.free rfl rfl) rfl rfl rfl rfl (tyR rfl) byt28 (by assumption) rfl ?_; refine sp (po_buildS str32 rfl (pc (pc (pc .nil))) rfl) ?_; refine oS ?_; refine oAs ?_; refine oN ?_) | refine gc ?_ | refine ct ?_ | refine cf ?_ | refine swp_cond rfl (fun hc => ?_) (fun hc => ?_) | refine retl (by exact .inr rfl) rfl (.cellT rfl rfl (tyT rfl) (vc (vc (vc .nil))) rfl (.tmpT rfl (by first | exact .t _ | exact .own rfl (by rfl) | exact .nil _ | exact .emp _ | exact .fn _) .nil)) ?_ rfl (.cons rfl (by rfl) rfl .nil) .nil)
  all_goals (first | rfl | (rw [hb]; rfl))
theorem rat_ (d : PNet) (hd : NetOk d) (x y i : Int) : LCalls Try.prog 42 [.bp 2000 0, .t (.v (.int .i64 x)), .t (.v (.int .i64 y)), .t (.v (.int .i64 i))] (refN d) [] (.tu [.t (msgA (atP d x y i).1), .t (.v (.int .i64 (atP d x y i).2))]) (refN d) [] := by
  have c1 := none_ d hd x y i
  unfold atP at c1 ⊢
  cases hl : isL d.n x y with
  | false => rw [hl] at c1; exact (rat_err d x y i 1 (by decide) c1).res fun m g v => le_tu
  | true =>
    rw [hl] at c1
    obtain ⟨a, b, rfl, rfl, hk, hL⟩ := isL_spec hl
    cases hg : getP (d.row (kOf a b)) i with
    | none => rw [hg] at c1; exact (rat_err d a b i 4 (by decide) c1).res fun m g v => le_tu
    | some c =>
      obtain ⟨k, h1, rfl, h3, h4⟩ := getP_some hg
      simp only [hk] at h1 h4
      subst h4
      exact rat_ok d hd a b k hL h1
theorem atP_err {d : PNet} {x y i : Int} (h : (atP d x y i).2 ≠ 0) : (atP d x y i).1 = msgZ ∧ delP d x y i = d ∧ frontP d x y i = d ∧ doubleP d x y i = (d, (atP d x y i).2) := by
  unfold atP delP frontP doubleP at *
  cases hl : isL d.n x y with
  | false => exact ⟨rfl, rfl, rfl, rfl⟩
  | true =>
    rw [hl] at h
    cases hg : getP (d.row (kOf x y)) i with
    | none => exact ⟨rfl, rfl, rfl, rfl⟩
    | some c => rw [hg] at h; exact absurd rfl h
theorem atP_is {d : PNet} {x y i : Int} (h : (atP d x y i).2 = 0) : ∃ (a b k : Nat) (hk : k < (d.row (a * 10 + b)).length), x = a ∧ y = b ∧ i = k ∧ IsL d.n a b ∧ (atP d x y i).1 = ⟨a, b, (d.row (a * 10 + b))[k]⟩ ∧ delP d x y i = d.put (a * 10 + b) ((d.row (a * 10 + b)).eraseIdx k) ∧ frontP d x y i = d.put (a * 10 + b) ((d.row (a * 10 + b))[k] :: (d.row (a * 10 + b)).eraseIdx k) ∧
    doubleP d x y i = (if (d.row (a * 10 + b)).length < 32 then (d.put (a * 10 + b) (d.row (a * 10 + b) ++ [(d.row (a * 10 + b))[k]]), 0) else (d, 3)) := by
  unfold atP at *
  cases hl : isL d.n x y with
  | false => rw [hl] at h; exact absurd h (show ¬ (1 : Int) = 0 by decide)
  | true =>
    rw [hl] at h
    obtain ⟨a, b, rfl, rfl, hk, hL⟩ := isL_spec hl
    cases hg : getP (d.row (kOf a b)) i with
    | none => rw [hg] at h; exact absurd h (show ¬ (4 : Int) = 0 by decide)
    | some c =>
      obtain ⟨k, h1, rfl, h3, h4⟩ := getP_some hg
      refine ⟨a, b, k, by rw [hk] at h1; exact h1, rfl, rfl, rfl, hL, ?_, ?_, ?_, ?_⟩
      · show (⟨a, b, c⟩ : PMsg) = _
        rw [← h4]; simp only [hk]
      · unfold delP; rw [hl, hg]; simp only [hk, Int.toNat_natCast]; rfl
      · unfold frontP; rw [hl, hg]; simp only [hk, Int.toNat_natCast]; subst h4; simp only [hk]; rfl
      · unfold doubleP; rw [hl, hg]; subst h4; simp only [hk]; rfl
set_option maxRecDepth 100000 in
set_option maxHeartbeats 2000000 in
theorem rdel_err (d : PNet) (x y i e : Int) (he : e ≠ 0) (q : T) (c1 : LCalls Try.prog 42 [.bp 2000 0, .t (.v (.int .i64 x)), .t (.v (.int .i64 y)), .t (.v (.int .i64 i))] (refN d) [] (.tu [.t (msgA msgZ), .t (.v (.int .i64 e))]) (refN d) []) : LCalls Try.prog 39 [.bp 2000 0, .t (.v (.int .i64 x)), .t (.v (.int .i64 y)), .t (.v (.int .i64 i))] (refN d) [] (.tu [.t (msgA msgZ), .t (.v (.int .i64 e))]) (refN d) [] := by
  unfold msgA msgT at c1
  refine lcalls_of Try.func39 rfl rfl Try.ntmps39 rfl ?_
  repeat' (first | (refine rg 0 ?_; refine sal str32 ?_; refine oAs ?_; refine oN ?_) | (refine rg 1 ?_; refine oMv ?_; refine oMv ?_; refine oMv ?_; refine oMv ?_; refine sops_lcall (c1) (fun i => i) (fun i => i) (fun _ => false) (.free rfl rfl) rfl rfl rfl (by ((repeat' (first | exact .nil | refine .cons rfl rfl rfl ?_)) <;> fail)) (.cons rfl rfl .nil) .nil rfl rfl (fun _ h => Bool.noConfusion h) ?_; refine oMv ?_; (first | refine oEx ?_ | refine sp (po_extract_tu rfl rfl rfl) ?_); (first | refine oEx ?_ | refine sp (po_extract_tu rfl rfl rfl) ?_); refine sal str32 ?_; refine oS ?_; refine oAs ?_; refine oN ?_) | (refine rg 2 ?_; refine oMv ?_; refine oCm ?_; refine oN ?_) | (refine rg 4 ?_; (refine sp (po_load_bx_agg rfl rfl (tyT rfl) rfl (vc (vc (vc .nil))) rfl) ?_); refine oMv ?_; refine oS ?_; refine oAs ?_; refine oN ?_) | refine gc ?_ | refine ct ?_ | refine cf ?_ | refine swp_cond rfl (fun hc => ?_) (fun hc => ?_) | refine retl (by exact .inr rfl) rfl (.cellT rfl rfl (tyT rfl) (vc (vc (vc .nil))) rfl (.tmpT rfl (by first | exact .t _ | exact .own rfl (by rfl) | exact .nil _ | exact .emp _ | exact .fn _) .nil)) ?_ rfl (.cons rfl (by rfl) rfl .nil) .nil)
  all_goals rfl
set_option maxRecDepth 100000 in
set_option maxHeartbeats 2000000 in
theorem rdel_ok (d : PNet) (hd : NetOk d) (a b k : Nat) (hL : IsL d.n a b) (hk : k < (d.row (a * 10 + b)).length) : LCalls Try.prog 39 [.bp 2000 0, .t (.v (.int .i64 (a : Int))), .t (.v (.int .i64 (b : Int))), .t (.v (.int .i64 (k : Int)))] (refN d) [] (.tu [.t (msgA ⟨a, b, (d.row (a * 10 + b))[k]⟩), .t (.v (.int .i64 0))]) (refN (d.put (a * 10 + b) ((d.row (a * 10 + b)).eraseIdx k))) [] := by
  have c1 := rat_ok d hd a b k hL hk
  have hlen := hd.len (a * 10 + b)
  have c2 := without_ (d.row (a * 10 + b)) (k : Int) (by omega)
  have hw := wthP_erase k 0 (d.row (a * 10 + b))
  rw [Nat.zero_add] at hw
  rw [hw] at c2
  obtain ⟨g1, g2, g3, g4, g5⟩ := hL
  have hn := hd.n
  have hkk : a * 10 + b < 100 := by omega
  have hst := ref_set d (off := 0 + 1 + a * 10 + b * 1) ((d.row (a * 10 + b)).eraseIdx k) (by omega) hkk
  have hfit := ref_fit d (off := 0 + 1 + a * 10 + b * 1) (k := a * 10 + b) (by omega) hkk
  unfold rowT at hst
  generalize (d.row (a * 10 + b))[k] = l at *
  unfold msgA msgT at c1 ⊢
  refine lcalls_of Try.func39 rfl rfl Try.ntmps39 rfl ?_
  repeat' (first | (refine rg 0 ?_; refine sal str32 ?_; refine oAs ?_; refine oN ?_) | (refine rg 1 ?_; refine oMv ?_; refine oMv ?_; refine oMv ?_; refine oMv ?_; refine sops_lcall (c1) (fun i => i) (fun i => i) (fun _ => false) (.free rfl rfl) rfl rfl rfl (by ((repeat' (first | exact .nil | refine .cons rfl rfl rfl ?_)) <;> fail)) (.cons rfl rfl .nil) .nil rfl rfl (fun _ h => Bool.noConfusion h) ?_; refine oMv ?_; (first | refine oEx ?_ | refine sp (po_extract_tu rfl rfl rfl) ?_); (first | refine oEx ?_ | refine sp (po_extract_tu rfl rfl rfl) ?_); refine sal str32 ?_; (first | refine sops_store (.free rfl rfl) rfl rfl rfl rfl rfl rfl (tyT rfl) rfl hfit ?_ | refine oS ?_); refine oAs ?_; refine oN ?_) | (refine rg 2 ?_; refine oMv ?_; refine oCm ?_; refine oN ?_) | (refine swp_draw (id := 3) 17 mixed (by kernel_rfl) (by kernel_rfl) ?_; refine dMv ?_; refine dMv ?_; refine dMv ?_; refine dMv ?_; refine dMv ?_; refine dMv ?_; refine dp (po_nilcheck rfl rfl) ?_; refine dFb ?_; refine dp (po_index_arr rfl rfl rfl arr54 rfl (by omega)) ?_; (first | refine dp (po_index_arr rfl rfl rfl arr54 rfl (by omega)) ?_ | refine dp (po_index_arr rfl rfl rfl arr53 rfl (by omega)) ?_); refine dp (po_load_ref (a * 10 + b) rfl rfl (tyT rfl) rfl (by first | rfl | omega) (by assumption)) ?_; refine dMv ?_; refine dC (c2) rfl (ac (ac .nil)) ?_; refine dp (po_nilcheck rfl rfl) ?_; refine dFb ?_; refine dp (po_index_arr rfl rfl rfl arr54 rfl (by omega)) ?_; (first | refine dp (po_index_arr rfl rfl rfl arr54 rfl (by omega)) ?_ | refine dp (po_index_arr rfl rfl rfl arr53 rfl (by omega)) ?_); refine dN ?_; refine sops_store (.free rfl rfl) rfl rfl rfl rfl rfl rfl (tyT rfl) rfl hfit ?_; refine oN ?_) | (refine rg 4 ?_; (first | refine sp (po_load_ref (a * 10 + b) rfl rfl (tyT rfl) rfl (by first | rfl | omega) (by first | assumption | omega)) ?_ | refine sp (po_load_bx_agg rfl rfl (tyT rfl) rfl (vc (vc (vc .nil))) rfl) ?_); refine oMv ?_; (first | refine sops_store (.free rfl rfl) rfl rfl rfl rfl rfl rfl (tyT rfl) rfl hfit ?_ | refine oS ?_); refine oAs ?_; refine oN ?_) | refine gc ?_ | refine ct ?_ | refine cf ?_ | refine swp_cond rfl (fun hc => ?_) (fun hc => ?_) | refine retl (by exact .inr rfl) rfl (.cellT rfl rfl (tyT rfl) (vc (vc (vc .nil))) rfl (.tmpT rfl (by first | exact .t _ | exact .own rfl (by rfl) | exact .nil _ | exact .emp _ | exact .fn _) .nil)) ?_ rfl (.cons rfl (by first | rfl | assumption) rfl .nil) .nil)
  all_goals rfl
theorem rdel_ (d : PNet) (hd : NetOk d) (x y i : Int) : LCalls Try.prog 39 [.bp 2000 0, .t (.v (.int .i64 x)), .t (.v (.int .i64 y)), .t (.v (.int .i64 i))] (refN d) [] (.tu [.t (msgA (atP d x y i).1), .t (.v (.int .i64 (atP d x y i).2))]) (refN (delP d x y i)) [] := by
  have c1 := rat_ d hd x y i
  by_cases he : (atP d x y i).2 = 0
  · obtain ⟨a, b, k, hk, e1, e2, e3, hL, e4, e5, e6, e7⟩ := atP_is he
    rw [he, e4, e5]
    subst e1 e2 e3
    exact rdel_ok d hd a b k hL hk
  · obtain ⟨e1, e2, e3, e4⟩ := atP_err he
    rw [e1] at c1 ⊢
    rw [e2]
    exact rdel_err d x y i _ he (.v undef) c1
end Go.Proofs.Ytgbcmjcaggnobaa.Sim

/- The document's net: Send, Double, Front. -/
namespace Go.Proofs.Ytgbcmjcaggnobaa.Sim
set_option linter.unusedVariables false
set_option linter.unusedSimpArgs false
open Go.RowKit Mem
theorem map_refB (f : A → A) (hf : ∀ x : T, f (.t x) = .t x) (d : PNet) : (refB d).map f = refB d := by
  rw [← refT_map, List.map_map]
  exact List.map_congr_left fun x _ => hf x
theorem mv_spl (i j : Nat) (d : PNet) (off n : Nat) (h : A.mv i j (.own i n) = .own j n) : (spl (refB d) off [.own i n]).map (A.mv i j) = spl (refB d) off [.own j n] := by
  unfold spl
  rw [List.map_append, List.map_append, List.map_take, List.map_drop, map_refB (A.mv i j) (fun x => rfl)]
  rw [List.map_cons, h]; rfl
def SSd (d : PNet) (a b : Nat) (l : List UInt8) (rows : List (List T)) : St := ⟨[(0, .bp 2000 0), (1, .t (.v (.int .i64 (a : Int)))), (2, .t (.v (.int .i64 (b : Int)))), (3, .t (.sl 1 (l.map byteT))), (9, .own 1003 rows.length)], refN d, [(1003, ⟨9, 1, rows⟩)]⟩
def SFr (d : PNet) (a b : Nat) (l : List UInt8) : St := ⟨[(0, .bp 2000 0), (1, .t (.v (.int .i64 (a : Int)))), (2, .t (.v (.int .i64 (b : Int)))), (9, .bp 9 0)], [(2000, refB d), (9, [.t (.v (.int .i64 (a : Int))), .t (.v (.int .i64 (b : Int))), .t (.sl 1 (l.map byteT))])], []⟩
set_option maxRecDepth 100000 in
theorem rsend_no (d : PNet) (x y : Int) (l : List UInt8) (c1 : LCalls Try.prog 43 [.bp 2000 0, .t (.v (.int .i64 x)), .t (.v (.int .i64 y)), .t (.v (.int .i64 0))] (refN d) [] (.t (.v (.int .i64 1))) (refN d) []) : LCalls Try.prog 38 [.bp 2000 0, .t (.v (.int .i64 x)), .t (.v (.int .i64 y)), .t (bysT l)] (refN d) [] (.t (.v (.int .i64 1))) (refN d) [] := by
  refine lcalls_of Try.func38 rfl rfl Try.ntmps38 rfl ?_
  repeat' (first | (refine rg 0 ?_; refine oAs ?_; refine oN ?_) | (refine rg 1 ?_; refine oMv ?_; refine oMv ?_; refine oMv ?_; refine sops_lcall0 (c1) (fun i => i) (.free rfl rfl) rfl rfl rfl (by ((repeat' (first | exact .nil | refine .cons rfl rfl rfl ?_)) <;> fail)) (.cons rfl rfl .nil) rfl rfl ?_; refine oCm ?_; refine oN ?_) | (refine rg 2 ?_; refine oAs ?_; refine oN ?_) | refine gc ?_ | refine ct ?_ | refine cf ?_ | refine swp_cond rfl (fun hc => ?_) (fun hc => ?_) | refine retl (by exact .inr rfl) rfl (.tmp rfl rfl .nil) ?_ rfl (.cons rfl (by rfl) rfl .nil) .nil)
  all_goals rfl
set_option maxRecDepth 100000 in
set_option maxHeartbeats 2000000 in
theorem rsend_is (d : PNet) (hd : NetOk d) (a b : Nat) (hL : IsL d.n a b) (l : List UInt8) (hl : l.length ≤ 140737488355328) (e : Int) (he : ¬ e = 1) (c1 : LCalls Try.prog 43 [.bp 2000 0, .t (.v (.int .i64 (a : Int))), .t (.v (.int .i64 (b : Int))), .t (.v (.int .i64 0))] (refN d) [] (.t (.v (.int .i64 e))) (refN d) []) :
    LCalls Try.prog 38 [.bp 2000 0, .t (.v (.int .i64 (a : Int))), .t (.v (.int .i64 (b : Int))), .t (bysT l)] (refN d) [] (.t (.v (.int .i64 (if 16384 < l.length then 6 else if (d.row (a * 10 + b)).length < 32 then 0 else 3)))) (refN (if 16384 < l.length then d else if (d.row (a * 10 + b)).length < 32 then d.put (a * 10 + b) (d.row (a * 10 + b) ++ [l]) else d)) [] := by
  obtain ⟨g1, g2, g3, g4, g5⟩ := hL
  have hn := hd.n
  have hkk : a * 10 + b < 100 := by omega
  have hml : (l.map byteT).length = l.length := List.length_map _
  by_cases h1 : 16384 < l.length
  · rw [if_pos h1, if_pos h1]
    refine lcalls_of Try.func38 rfl rfl Try.ntmps38 rfl ?_
    unfold bysT
    repeat' (first | (refine rg 0 ?_; refine oAs ?_; refine oN ?_) | (refine rg 1 ?_; refine oMv ?_; refine oMv ?_; refine oMv ?_; refine sops_lcall0 (c1) (fun i => i) (.free rfl rfl) rfl rfl rfl (by ((repeat' (first | exact .nil | refine .cons rfl rfl rfl ?_)) <;> fail)) (.cons rfl rfl .nil) rfl rfl ?_; refine oCm ?_; refine oN ?_) | (refine rg 3 ?_; refine oMv ?_; (first | refine sp (po_len_own rfl rfl (tyS rfl)) ?_ | refine sp (pln rfl (tyS rfl)) ?_); refine oCm ?_; refine oN ?_) | (refine rg 4 ?_; refine oAs ?_; refine oN ?_) | refine gc ?_ | refine ct ?_ | refine cf ?_ | refine swp_cond rfl (fun hc => ?_) (fun hc => ?_) | refine retl (by exact .inr rfl) rfl (.tmp rfl rfl .nil) ?_ rfl (.cons rfl (by rfl) rfl .nil) .nil)
    all_goals rfl
  rw [if_neg h1, if_neg h1]
  have hlen := hd.len (a * 10 + b)
  have c2 := withoutL_ (d.row (a * 10 + b)) (-1) (by omega)
  rw [wthP_none (-1) 0 _ (by omega)] at c2
  have hmr : ((d.row (a * 10 + b)).map txtC).length = (d.row (a * 10 + b)).length := List.length_map _
  by_cases h2 : (d.row (a * 10 + b)).length < 32
  · rw [if_pos h2, if_pos h2]
    have hmx : l.length ≤ maxLen := by unfold maxLen; omega
    refine lcalls_of Try.func38 rfl rfl Try.ntmps38 rfl ?_
    unfold bysT
    repeat' (first | (refine rg 0 ?_; refine oAs ?_; refine oN ?_) | (refine rg 1 ?_; refine oMv ?_; refine oMv ?_; refine oMv ?_; refine sops_lcall0 (c1) (fun i => i) (.free rfl rfl) rfl rfl rfl (by ((repeat' (first | exact .nil | refine .cons rfl rfl rfl ?_)) <;> fail)) (.cons rfl rfl .nil) rfl rfl ?_; refine oCm ?_; refine oN ?_) | (refine rg 3 ?_; refine oMv ?_; (first | refine sp (po_len_own rfl rfl (tyS rfl)) ?_ | refine sp (pln rfl (tyS rfl)) ?_); refine oCm ?_; refine oN ?_) | refine gc ?_ | refine ct ?_ | refine cf ?_ | refine swp_cond rfl (fun hc => ?_) (fun hc => ?_) | refine rq rfl (rt .nil) ?_)
    repeat' (first | (refine rg 5 ?_; refine oMv ?_; refine oMv ?_; refine oMv ?_; refine sp (po_nilcheck rfl rfl) ?_; refine oFb ?_; refine sp (po_index_arr rfl rfl rfl arr54 rfl (by omega)) ?_; (first | refine sp (po_index_arr rfl rfl rfl arr54 rfl (by omega)) ?_ | refine sp (po_index_arr rfl rfl rfl arr53 rfl (by omega)) ?_); refine sp (po_load_ref (a * 10 + b) rfl rfl (tyT rfl) rfl (by first | rfl | omega) (by assumption)) ?_; refine sops_lcall (c2) (fun i => i) (fun i => i) (fun _ => false) (.free rfl rfl) rfl rfl rfl (by ((repeat' (first | exact .nil | refine .cons rfl rfl rfl ?_)) <;> fail)) .nil .nil rfl rfl (fun _ h => Bool.noConfusion h) ?_; refine oAs ?_; refine oN ?_) | (refine rg 6 ?_; refine oMv ?_; refine sp (po_len_own rfl rfl (tyS rfl)) ?_; refine oCm ?_; refine oN ?_) | refine gc ?_ | refine ct ?_ | refine cf ?_ | refine swp_cond rfl (fun hc => ?_) (fun hc => ?_) | refine rq rfl (rt .nil) ?_)
    refine swp_weak (st' := SSd d a b l ((d.row (a * 10 + b)).map txtC)) (weak_sub (.cons rfl rfl rfl (.cons rfl rfl rfl (.cons rfl rfl rfl (.cons rfl rfl rfl (.cons rfl rfl rfl .nil))))) (.cons rfl rfl rfl .nil) (.cons rfl rfl .nil)) ?_
    unfold SSd
    refine swp_any (id := 8) [[], [], [], [], [], [], [], [1003], [], [], [], [], [2000]] [[1003], [1003], [1003], [], [], [], [], [], [1003], [1003], [1003], [1003], []] mixed (by kernel_rfl) ?_
    refine yp (fun _ _ => po_move rfl rfl) ?_
    refine yp (fun _ _ => po_move rfl rfl) ?_
    refine yp (fun _ _ => po_move rfl rfl) ?_
    refine yp (fun _ _ => po_move rfl rfl) ?_
    refine yp (fun _ _ => po_move rfl rfl) ?_
    refine yp (fun _ _ => po_bytes_str rfl rfl (.t _) byt28 (tyR rfl)) ?_
    refine yp (fun _ _ => po_buildSlice rfl (tyE rfl) (dc (.nil _)) rfl rfl rfl) ?_
    refine sany_eff [] [(1003, _)] (.free rfl rfl) rfl rfl (fun _ _ _ _ => e_append rfl rfl rfl rfl rfl (.t _) (tyE rfl) (by simp; omega) (by simp [maxLen]; omega)) ?_
    refine yp (fun _ _ => po_nilcheck rfl rfl) ?_
    refine yp (fun _ _ => po_field_bx rfl rfl (tyF rfl)) ?_
    refine yp (fun _ _ => po_index_arr rfl rfl rfl arr54 rfl (by omega)) ?_
    refine yp (fun _ _ => po_index_arr rfl rfl rfl arr53 rfl (by omega)) ?_
    refine sany_eff [(2000, _)] [] (.free rfl rfl) rfl rfl (fun _ _ _ _ => e_store rfl rfl rfl rfl rfl rfl (tyT rfl) rfl (ref_fit d (k := a * 10 + b) (by omega) hkk)) ?_
    refine sany_nil ?_
    refine gc ?_
    refine swp_weak (weak_show 1003 103 rfl rfl rfl rfl) ?_
    refine swp_weak (weak_bxT (i := 2000) (cs := spl (refB d) (0 + 1 + a * 10 + b * 1) [.own 103 ((d.row (a * 10 + b)).map txtC ++ [[T.v (.string (bs l))]]).length]) (ts := refT (d.put (a * 10 + b) (d.row (a * 10 + b) ++ [l]))) (by show some (List.map (A.mv 1003 103) (spl _ _ [A.own 1003 _])) = some _; rw [mv_spl 1003 103 _ _ _ rfl]; rfl) (vw_ref (k := a * 10 + b) (by rw [List.map_append]; exact .own rfl rfl) (by omega) hkk)) ?_
    rw [refT_map]
    repeat' (first | (refine rg 9 ?_; refine oAs ?_; refine oN ?_) | refine gc ?_ | refine ct ?_ | refine cf ?_ | refine swp_cond rfl (fun hc => ?_) (fun hc => ?_) | refine retl (by exact .inr rfl) rfl (.tmp rfl rfl .nil) ?_ rfl (.cons rfl (by rfl) rfl .nil) .nil)
    all_goals rfl
  · rw [if_neg h2, if_neg h2]
    refine lcalls_of Try.func38 rfl rfl Try.ntmps38 rfl ?_
    unfold bysT
    repeat' (first | (refine rg 0 ?_; refine oAs ?_; refine oN ?_) | (refine rg 1 ?_; refine oMv ?_; refine oMv ?_; refine oMv ?_; refine sops_lcall (c1) (fun i => i) (fun i => i) (fun _ => false) (.free rfl rfl) rfl rfl rfl (by ((repeat' (first | exact .nil | refine .cons rfl rfl rfl ?_)) <;> fail)) (.cons rfl rfl .nil) .nil rfl rfl (fun _ h => Bool.noConfusion h) ?_; refine oCm ?_; refine oN ?_) | (refine rg 3 ?_; refine oMv ?_; (first | refine sp (po_len_own rfl rfl (tyS rfl)) ?_ | refine sp (pln rfl (tyS rfl)) ?_); refine oCm ?_; refine oN ?_) | (refine rg 5 ?_; refine oMv ?_; refine oMv ?_; refine oMv ?_; refine sp (po_nilcheck rfl rfl) ?_; refine oFb ?_; refine sp (po_index_arr rfl rfl rfl arr54 rfl (by omega)) ?_; (first | refine sp (po_index_arr rfl rfl rfl arr54 rfl (by omega)) ?_ | refine sp (po_index_arr rfl rfl rfl arr53 rfl (by omega)) ?_); refine sp (po_load_ref (a * 10 + b) rfl rfl (tyT rfl) rfl (by first | rfl | omega) (by assumption)) ?_; refine sops_lcall (c2) (fun i => i) (fun i => i) (fun _ => false) (.free rfl rfl) rfl rfl rfl (by ((repeat' (first | exact .nil | refine .cons rfl rfl rfl ?_)) <;> fail)) .nil .nil rfl rfl (fun _ h => Bool.noConfusion h) ?_; refine oAs ?_; refine oN ?_) | (refine rg 6 ?_; refine oMv ?_; refine sp (po_len_own rfl rfl (tyS rfl)) ?_; refine oCm ?_; refine oN ?_) | (refine rg 7 ?_; refine oAs ?_; refine oN ?_) | refine gc ?_ | refine ct ?_ | refine cf ?_ | refine swp_cond rfl (fun hc => ?_) (fun hc => ?_) | refine retl (by exact .inr rfl) rfl (.tmp rfl rfl .nil) ?_ rfl (.cons rfl (by rfl) rfl .nil) .nil)
    all_goals rfl
theorem rsend_ (d : PNet) (hd : NetOk d) (x y : Int) (l : List UInt8) (hl : l.length ≤ 140737488355328) : LCalls Try.prog 38 [.bp 2000 0, .t (.v (.int .i64 x)), .t (.v (.int .i64 y)), .t (bysT l)] (refN d) [] (.t (.v (.int .i64 (sendP d x y l).2))) (refN (sendP d x y l).1) [] := by
  have c1 := none_ d hd x y 0
  unfold atP at c1
  unfold sendP
  cases hL : isL d.n x y with
  | false => rw [hL] at c1; exact rsend_no d x y l c1
  | true =>
    rw [hL] at c1
    obtain ⟨a, b, rfl, rfl, hk, hL⟩ := isL_spec hL
    have key : ∀ e : Int, ¬ e = 1 → LCalls Try.prog 43 [.bp 2000 0, .t (.v (.int .i64 (a : Int))), .t (.v (.int .i64 (b : Int))), .t (.v (.int .i64 0))] (refN d) [] (.t (.v (.int .i64 e))) (refN d) [] → LCalls Try.prog 38 [.bp 2000 0, .t (.v (.int .i64 (a : Int))), .t (.v (.int .i64 (b : Int))), .t (bysT l)] (refN d) [] (.t (.v (.int .i64 (if 16384 < l.length then (d, (6 : Int)) else if (d.row (kOf a b)).length < 32 then (d.put (kOf a b) (d.row (kOf a b) ++ [l]), 0) else (d, 3)).2))) (refN (if 16384 < l.length then (d, (6 : Int)) else if (d.row (kOf a b)).length < 32 then (d.put (kOf a b) (d.row (kOf a b) ++ [l]), 0) else (d, 3)).1) [] := fun e he c1 => by
      have := rsend_is d hd a b hL l hl e he c1
      rw [hk]
      split
      · rename_i h; rw [if_pos h, if_pos h] at this; exact this
      · rename_i h; rw [if_neg h, if_neg h] at this
        split
        · rename_i h; rw [if_pos h, if_pos h] at this; exact this
        · rename_i h; rw [if_neg h, if_neg h] at this; exact this
    cases hg : getP (d.row (kOf a b)) 0 with
    | none => rw [hg] at c1; exact key 4 (by decide) c1
    | some c => rw [hg] at c1; exact key 0 (by decide) c1
set_option maxRecDepth 100000 in
set_option maxHeartbeats 2000000 in
theorem rdouble_err (d : PNet) (x y i e : Int) (he : e ≠ 0) (c1 : LCalls Try.prog 42 [.bp 2000 0, .t (.v (.int .i64 x)), .t (.v (.int .i64 y)), .t (.v (.int .i64 i))] (refN d) [] (.tu [.t (msgA msgZ), .t (.v (.int .i64 e))]) (refN d) []) : LCalls Try.prog 40 [.bp 2000 0, .t (.v (.int .i64 x)), .t (.v (.int .i64 y)), .t (.v (.int .i64 i))] (refN d) [] (.t (.v (.int .i64 e))) (refN d) [] := by
  unfold msgA msgT at c1
  refine lcalls_of Try.func40 rfl rfl Try.ntmps40 rfl ?_
  repeat' (first | (refine rg 0 ?_; refine oAs ?_; refine oN ?_) | (refine rg 1 ?_; refine oMv ?_; refine oMv ?_; refine oMv ?_; refine oMv ?_; refine sops_lcall0 (c1) (fun i => i) (.free rfl rfl) rfl rfl rfl (by ((repeat' (first | exact .nil | refine .cons rfl rfl rfl ?_)) <;> fail)) (.cons rfl rfl .nil) rfl rfl ?_; refine oMv ?_; (first | refine oEx ?_ | refine sp (po_extract_tu rfl rfl rfl) ?_); (first | refine oEx ?_ | refine sp (po_extract_tu rfl rfl rfl) ?_); refine sal str32 ?_; refine oS ?_; refine oAs ?_; refine oN ?_) | (refine rg 2 ?_; refine oMv ?_; refine oCm ?_; refine oN ?_) | (refine rg 3 ?_; refine oMv ?_; refine oAs ?_; refine oN ?_) | refine gc ?_ | refine ct ?_ | refine cf ?_ | refine swp_cond rfl (fun hc => ?_) (fun hc => ?_) | refine retl (by exact .inr rfl) rfl (.tmp rfl rfl .nil) ?_ rfl (.cons rfl (by rfl) rfl .nil) .nil)
  all_goals rfl
set_option maxRecDepth 100000 in
set_option maxHeartbeats 2000000 in
theorem rdouble_is (d d' : PNet) (x y i e : Int) (l : List UInt8) (c1 : LCalls Try.prog 42 [.bp 2000 0, .t (.v (.int .i64 x)), .t (.v (.int .i64 y)), .t (.v (.int .i64 i))] (refN d) [] (.tu [.t (msgA ⟨x, y, l⟩), .t (.v (.int .i64 0))]) (refN d) []) (c2 : LCalls Try.prog 38 [.bp 2000 0, .t (.v (.int .i64 x)), .t (.v (.int .i64 y)), .t (bysT l)] (refN d) [] (.t (.v (.int .i64 e))) (refN d') []) : LCalls Try.prog 40 [.bp 2000 0, .t (.v (.int .i64 x)), .t (.v (.int .i64 y)), .t (.v (.int .i64 i))] (refN d) [] (.t (.v (.int .i64 e))) (refN d') [] := by
  unfold msgA msgT at c1
  refine lcalls_of Try.func40 rfl rfl Try.ntmps40 rfl ?_
  repeat' (first | (refine rg 0 ?_; refine oAs ?_; refine oN ?_) | (refine rg 1 ?_; refine oMv ?_; refine oMv ?_; refine oMv ?_; refine oMv ?_; refine sops_lcall0 (c1) (fun i => i) (.free rfl rfl) rfl rfl rfl (by ((repeat' (first | exact .nil | refine .cons rfl rfl rfl ?_)) <;> fail)) (.cons rfl rfl .nil) rfl rfl ?_; refine oMv ?_; (first | refine oEx ?_ | refine sp (po_extract_tu rfl rfl rfl) ?_); (first | refine oEx ?_ | refine sp (po_extract_tu rfl rfl rfl) ?_); refine sal str32 ?_; refine oS ?_; refine oAs ?_; refine oN ?_) | (refine rg 2 ?_; refine oMv ?_; refine oCm ?_; refine oN ?_) | (refine rg 4 ?_; refine oMv ?_; refine oMv ?_; refine oMv ?_; refine oFb ?_; (first | refine sp (po_load_ntn rfl rfl (tyT rfl) rfl) ?_ | refine sp (po_load_ntk rfl rfl (tyT rfl) rfl (by first | assumption | omega) (by assumption) rfl) ?_ | refine oLb ?_); refine sops_lcall0 (c2) (fun i => i) (.free rfl rfl) rfl rfl rfl (by ((repeat' (first | exact .nil | refine .cons rfl rfl rfl ?_)) <;> fail)) (.cons rfl rfl .nil) rfl rfl ?_; refine oAs ?_; refine oN ?_) | refine gc ?_ | refine ct ?_ | refine cf ?_ | refine swp_cond rfl (fun hc => ?_) (fun hc => ?_) | refine retl (by exact .inr rfl) rfl (.tmp rfl rfl .nil) ?_ rfl (.cons rfl (by rfl) rfl .nil) .nil)
  all_goals rfl
theorem rdouble_ (d : PNet) (hd : NetOk d) (x y i : Int) : LCalls Try.prog 40 [.bp 2000 0, .t (.v (.int .i64 x)), .t (.v (.int .i64 y)), .t (.v (.int .i64 i))] (refN d) [] (.t (.v (.int .i64 (doubleP d x y i).2))) (refN (doubleP d x y i).1) [] := by
  have c1 := rat_ d hd x y i
  by_cases he : (atP d x y i).2 = 0
  · obtain ⟨a, b, k, hk, e1, e2, e3, hL, e4, e5, e6, e7⟩ := atP_is he
    rw [he, e4] at c1
    subst e1 e2 e3
    have hbig := hd.big _ _ (List.getElem_mem hk)
    have c2 := rsend_ d hd a b (d.row (a * 10 + b))[k] (by omega)
    have es : sendP d a b (d.row (a * 10 + b))[k] = doubleP d a b k := by
      rw [e7]
      obtain ⟨h1, h2⟩ := Sim.isL_of hL
      unfold sendP
      rw [h1, h2, if_neg (by omega)]; rfl
    rw [es] at c2
    exact rdouble_is d _ a b k _ _ c1 c2
  · obtain ⟨e1, e2, e3, e4⟩ := atP_err he
    rw [e1] at c1
    rw [e4]
    exact rdouble_err d x y i _ he c1
set_option maxRecDepth 100000 in
set_option maxHeartbeats 2000000 in
theorem rfront_err (d : PNet) (x y i e : Int) (he : e ≠ 0) (c1 : LCalls Try.prog 39 [.bp 2000 0, .t (.v (.int .i64 x)), .t (.v (.int .i64 y)), .t (.v (.int .i64 i))] (refN d) [] (.tu [.t (msgA msgZ), .t (.v (.int .i64 e))]) (refN d) []) : LCalls Try.prog 41 [.bp 2000 0, .t (.v (.int .i64 x)), .t (.v (.int .i64 y)), .t (.v (.int .i64 i))] (refN d) [] (.t (.v (.int .i64 e))) (refN d) [] := by
  unfold msgA msgT at c1
  refine lcalls_of Try.func41 rfl rfl Try.ntmps41 rfl ?_
  repeat' (first | (refine rg 0 ?_; refine oAs ?_; refine oN ?_) | (refine rg 1 ?_; refine oMv ?_; refine oMv ?_; refine oMv ?_; refine oMv ?_; refine sops_lcall0 (c1) (fun i => i) (.free rfl rfl) rfl rfl rfl (by ((repeat' (first | exact .nil | refine .cons rfl rfl rfl ?_)) <;> fail)) (.cons rfl rfl .nil) rfl rfl ?_; refine oMv ?_; (first | refine oEx ?_ | refine sp (po_extract_tu rfl rfl rfl) ?_); (first | refine oEx ?_ | refine sp (po_extract_tu rfl rfl rfl) ?_); refine sal str32 ?_; refine oS ?_; refine oAs ?_; refine oN ?_) | (refine rg 2 ?_; refine oMv ?_; refine oCm ?_; refine oN ?_) | (refine rg 3 ?_; refine oMv ?_; refine oAs ?_; refine oN ?_) | refine gc ?_ | refine ct ?_ | refine cf ?_ | refine swp_cond rfl (fun hc => ?_) (fun hc => ?_) | refine retl (by exact .inr rfl) rfl (.tmp rfl rfl .nil) ?_ rfl (.cons rfl (by rfl) rfl .nil) .nil)
  all_goals rfl
set_option maxRecDepth 100000 in
set_option maxHeartbeats 4000000 in
theorem rfront_is (d d' : PNet) (a b k : Nat) (l : List UInt8) (hl : l.length ≤ 140737488355328) (hkk : a * 10 + b < 100) (ha : a < 10) (hb : b < 10) (hr : (d'.row (a * 10 + b)).length ≤ 32) (c1 : LCalls Try.prog 39 [.bp 2000 0, .t (.v (.int .i64 (a : Int))), .t (.v (.int .i64 (b : Int))), .t (.v (.int .i64 (k : Int)))] (refN d) [] (.tu [.t (msgA ⟨a, b, l⟩), .t (.v (.int .i64 0))]) (refN d') []) :
    LCalls Try.prog 41 [.bp 2000 0, .t (.v (.int .i64 (a : Int))), .t (.v (.int .i64 (b : Int))), .t (.v (.int .i64 (k : Int)))] (refN d) [] (.t (.v (.int .i64 0))) (refN (d'.put (a * 10 + b) (l :: d'.row (a * 10 + b)))) [] := by
  unfold msgA msgT bysT at c1
  have hmr : ((d'.row (a * 10 + b)).map txtC).length = (d'.row (a * 10 + b)).length := List.length_map _
  refine lcalls_of Try.func41 rfl rfl Try.ntmps41 rfl ?_
  repeat' (first | (refine rg 0 ?_; refine oAs ?_; refine oN ?_) | (refine rg 1 ?_; refine oMv ?_; refine oMv ?_; refine oMv ?_; refine oMv ?_; refine sops_lcall0 (c1) (fun i => i) (.free rfl rfl) rfl rfl rfl (by ((repeat' (first | exact .nil | refine .cons rfl rfl rfl ?_)) <;> fail)) (.cons rfl rfl .nil) rfl rfl ?_; refine oMv ?_; (first | refine oEx ?_ | refine sp (po_extract_tu rfl rfl rfl) ?_); (first | refine oEx ?_ | refine sp (po_extract_tu rfl rfl rfl) ?_); refine sal str32 ?_; refine oS ?_; refine oAs ?_; refine oN ?_) | (refine rg 2 ?_; refine oMv ?_; refine oCm ?_; refine oN ?_) | refine gc ?_ | refine ct ?_ | refine cf ?_ | refine swp_cond rfl (fun hc => ?_) (fun hc => ?_) | refine rq rfl (rt .nil) ?_)
  refine swp_weak (st' := SFr d' a b l) (weak_sub (.cons rfl rfl rfl (.cons rfl rfl rfl (.cons rfl rfl rfl (.cons rfl rfl rfl .nil)))) (.cons rfl rfl rfl (.cons rfl rfl rfl .nil)) .nil) ?_
  unfold SFr
  refine swp_any (id := 4) [[], [], [], [], [], [], [1004], [], [], [], [], [], [], [], [], [1004], [], [], [], [], [2000]] [[1004], [1004], [1004], [], [], [], [], [1004], [1004], [1004], [1004], [1004], [1004], [1004], [1004], [], [1004], [1004], [1004], [1004], []] mixed (by kernel_rfl) ?_
  refine yp (fun _ _ => po_move rfl rfl) ?_
  refine yp (fun _ _ => po_move rfl rfl) ?_
  refine yp (fun _ _ => po_move rfl rfl) ?_
  refine yp (fun _ _ => po_field_bx rfl rfl (tyF rfl)) ?_
  refine yp (fun _ _ => po_load_bx rfl rfl (tyT rfl) rfl rfl) ?_
  refine yp (fun _ _ => po_bytes_str rfl rfl (.t _) byt28 (tyR rfl)) ?_
  refine sany_eff [] [(1004, _)] (.free rfl rfl) rfl rfl (fun _ _ _ ho => e_buildN rfl (tyE rfl) (dc (.nil _)) rfl rfl rfl (ho 1004 rfl rfl)) ?_
  refine yp (fun _ _ => po_move rfl rfl) ?_
  refine yp (fun _ _ => po_move rfl rfl) ?_
  refine yp (fun _ _ => po_move rfl rfl) ?_
  refine yp (fun _ _ => po_nilcheck rfl rfl) ?_
  refine yp (fun _ _ => po_field_bx rfl rfl (tyF rfl)) ?_
  refine yp (fun _ _ => po_index_arr rfl rfl rfl arr54 rfl (by omega)) ?_
  refine yp (fun _ _ => po_index_arr rfl rfl rfl arr53 rfl (by omega)) ?_
  refine yp (fun _ _ => po_load_ref (a * 10 + b) rfl rfl (tyT rfl) rfl (by omega) hkk) ?_
  refine sany_eff [] [(1004, _)] (.free rfl rfl) rfl rfl (fun _ _ _ _ => e_append rfl rfl rfl rfl rfl (.t _) (tyE rfl) (by simp; omega) (by simp [maxLen]; omega)) ?_
  refine yp (fun _ _ => po_nilcheck rfl rfl) ?_
  refine yp (fun _ _ => po_field_bx rfl rfl (tyF rfl)) ?_
  refine yp (fun _ _ => po_index_arr rfl rfl rfl arr54 rfl (by omega)) ?_
  refine yp (fun _ _ => po_index_arr rfl rfl rfl arr53 rfl (by omega)) ?_
  refine sany_eff [(2000, _)] [] (.free rfl rfl) rfl rfl (fun _ _ _ _ => e_store rfl rfl rfl rfl rfl rfl (tyT rfl) rfl (ref_fit d' (k := a * 10 + b) (by omega) hkk)) ?_
  refine sany_nil ?_
  refine gc ?_
  refine swp_weak (weak_show 1004 104 rfl rfl rfl rfl) ?_
  refine swp_weak (weak_bxT (i := 2000) (cs := spl (refB d') (0 + 1 + a * 10 + b * 1) [.own 104 ([[T.v (.string (bs l))]] ++ (d'.row (a * 10 + b)).map txtC).length]) (ts := refT (d'.put (a * 10 + b) (l :: d'.row (a * 10 + b)))) (by show some (List.map (A.mv 1004 104) (spl _ _ [A.own 1004 _])) = some _; rw [mv_spl 1004 104 _ _ _ rfl]; rfl) (vw_ref (k := a * 10 + b) (.own rfl rfl) (by omega) hkk)) ?_
  rw [refT_map]
  repeat' (first | (refine rg 5 ?_; refine oAs ?_; refine oN ?_) | refine gc ?_ | refine ct ?_ | refine cf ?_ | refine swp_cond rfl (fun hc => ?_) (fun hc => ?_) | refine retl (by exact .inr rfl) rfl (.tmp rfl rfl .nil) ?_ rfl (.cons rfl (by rfl) rfl .nil) .nil)
  all_goals rfl
theorem rfront_ (d : PNet) (hd : NetOk d) (x y i : Int) : LCalls Try.prog 41 [.bp 2000 0, .t (.v (.int .i64 x)), .t (.v (.int .i64 y)), .t (.v (.int .i64 i))] (refN d) [] (.t (.v (.int .i64 (atP d x y i).2))) (refN (frontP d x y i)) [] := by
  have c1 := rdel_ d hd x y i
  by_cases he : (atP d x y i).2 = 0
  · obtain ⟨a, b, k, hk, e1, e2, e3, hL, e4, e5, e6, e7⟩ := atP_is he
    rw [he, e4, e5] at c1
    rw [he, e6]
    subst e1 e2 e3
    have hbig := hd.big _ _ (List.getElem_mem hk)
    have hlen := hd.len (a * 10 + b)
    have hn := hd.n
    obtain ⟨g1, g2, g3, g4, g5⟩ := hL
    have := rfront_is d _ a b k _ (by omega) (by omega) (by omega) (by omega) (by rw [PNet.put_row]; exact Nat.le_trans (List.length_eraseIdx_le _ _) hlen) c1
    rw [PNet.put_row, PNet.put_put] at this
    exact this
  · obtain ⟨e1, e2, e3, e4⟩ := atP_err he
    rw [e1, e2] at c1
    rw [e3]
    exact rfront_err d x y i _ he c1
end Go.Proofs.Ytgbcmjcaggnobaa.Sim
