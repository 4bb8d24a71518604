/- Merged by bundles.py: SimNy, SimNz, PlNet, SimNza. -/
import Derived.Test.YtgbcmjcaggnobaaT18
import Derived.Test.YtgbcmjcaggnobaaT16
/- Rows that are the call's alone, appended, asked whether they are nil. -/
namespace Go.Proofs.Ytgbcmjcaggnobaa.Sim
set_option linter.unusedVariables false
set_option linter.unusedSimpArgs false
open Go.RowKit Mem
section
variable {P : Program} {N : Nat} {Q : Exit → St → Prop} {ops : Array Oper} {rest : List Oper} {o : Oper} {tm : List (Nat × A)} {bx : List (Nat × List A)} {ow : List (Nat × Own)}
theorem sops_append_see {t e sz by_ : Nat} {x z : Operand} {i n d : Nat} {y' : A} {rows rows2 : List (List T)} (hg : o.guard = none) (ho : o.op = .call { callee := .builtin .append, args := #[x, z], argTypes := #[t, t] }) (hd : o.dst = some d) (hN : Nat.blt d N = true)
    (hx : evA tm x = some (.own i n)) (hi : get ow i = some ⟨e, sz, rows⟩) (hn : n = rows.length) (hz : evA tm z = some y') (hz' : VwS ow y' (.sl sz rows2)) (hpv : ∀ t ∈ rows2.flatten, ∃ x, t = T.v x) (hT : sliceE P t = some (e, sz, by_))
    (hb : (rows.length + rows2.length) * by_ ≤ 140737488355328) (hm : rows.length + rows2.length ≤ maxLen)
    (h : SOps P N ops Q rest ⟨(d, .own i (rows ++ rows2).length) :: tm, bx, (i, ⟨e, sz, rows ++ rows2⟩) :: ow⟩) (hp : Nat.ble 2000 i = false := by rfl) : SOps P N ops Q (o :: rest) ⟨tm, bx, ow⟩ := by
  refine sops_run (.free hg rfl) (fun C a w m g hr => ?_) h
  have he := hr.env
  obtain ⟨i', zv, hu, hi', hzz, h4, h5, h6, h7⟩ := sliceE_spec hT
  obtain ⟨hlw, _, hAx, hgo⟩ := hr.ev hx
  have hln := he.ln i _ hi
  have hvx := hgo (by rw [hln]; exact hn)
  have hvz : TR (allw w) (.sl sz rows2) (a.eval z) := hz'.ok he (hr.ev hz)
  obtain ⟨vs, ho1, hrl, hc, hbk⟩ := he.owns i _ hi
  dsimp only at ho1 hrl hc hbk
  have hrl2 : ∀ r ∈ rows2, r.length = sz := by generalize a.eval z = vz at hvz; cases hvz with | sl _ _ A b off cap u hc hm' hA hr hu' ht => exact hr
  have hform : ∃ A cap, a.eval z = .slice A rows2.length cap := by generalize a.eval z = vz at hvz; cases hvz with | sl _ _ A b off cap => exact ⟨A, cap, rfl⟩
  obtain ⟨Az, capz, hvv⟩ := hform
  have hexec : ∀ v' w', (Builtin.append_ #[t, t] o.type #[a.eval x, a.eval z]).run P w = .ok v' w' → (execOp a.eval o).run P w = .ok (.value v') w' := fun v' w' hh => by
    simp only [execOp, ho, resolve, invoke, builtin, Sem.run_bind, Sem.run_pure, Result.andThen_ok, List.map_toArray, List.map_cons, List.map_nil, hh]
  rw [hd]
  have hdN := Nat.lt_of_succ_le (Nat.le_of_ble_eq_true hN)
  rcases Nat.eq_zero_or_pos rows2.length with h0 | h0
  · have hr0 : rows2 = [] := List.eq_nil_of_length_eq_zero h0
    subst hr0
    obtain ⟨A, c, hA⟩ := hAx
    have hnc : n ≤ c := by
      obtain ⟨_, hcase⟩ := ho1
      rcases hcase with ⟨e1, e2⟩ | ⟨q, cap, cur, e1, _, _, e2, _⟩
      · omega
      · rw [← hvx, hA] at e1; injection e1 with e3 e4 e5; omega
    refine ⟨a.eval x, w, hexec _ _ (by rw [hvv, hA]; exact run_append_nothing (P := P) (w := w) t o.type e i' hu hi' A Az n c capz hnc), ?_⟩
    have hrel : Rel C N ⟨(d, .own i rows.length) :: tm, bx, ow⟩ (a.put (some d) (a.eval x)) w := ⟨m, g, hr.put he (fun x v h => h) hdN (by subst hn; exact hr.ev hx)⟩
    rw [List.append_nil]
    obtain ⟨m1, g1, hr1⟩ := hrel
    refine ⟨m1, g1, hr1.env.same (fun j => rfl) (fun j => ?_), hr1.size, hr1.defers, hr1.tmps⟩
    rw [get_cons]
    split
    · rename_i e'; subst e'; exact hi.symm
    · rfl
  · obtain ⟨b, off, us, rfl, hcu', hlu, hcell⟩ := TR.flat (hvv ▸ hvz) h0 h7
    have hcu : CellsAre m rows2.flatten us := ⟨hcu'.1, fun j t u hj hu => by
      obtain ⟨h1, h2⟩ := hcu'.2 j t u hj hu
      obtain ⟨x, rfl⟩ := hpv t (List.mem_of_getElem? hj)
      rw [tr_v h1]
      exact ⟨.v _, by rw [← tr_v h1]; exact h2⟩⟩
    obtain ⟨v', w', hrun, hown, hcase⟩ := run_append_own3 (P := P) w 0 t o.type e i' zv sz by_ hu hi' hzz h4 h5 h6 h7 (g.go i) rows.length vs ho1 ⟨b, off, none⟩ rows2.length capz us hlu (fun j u hj => by rw [addr_add]; exact hcell j u hj) hcu.one hm hb (Nat.zero_le _)
    refine ⟨v', w', hexec _ _ (by rw [hvv, hvx]; exact hrun), ?_⟩
    obtain ⟨h8, h9⟩ := he.setO (hp := hp) (i := i) (v := v') (e := e) (sz := sz) (rows := rows ++ rows2) (vs := vs ++ us) (by rw [List.length_append]; exact hown) (fun r hr' => by
        rcases List.mem_append.1 hr' with hr' | hr'
        · exact hrl r hr'
        · exact hrl2 r hr') (by rw [List.flatten_append]; exact hc.app hcu) (.inl ⟨_, hi, by simp; omega⟩) (by
        rcases hcase with ⟨e1, e2⟩ | hf
        · exact .inl ⟨_, vis i vs, hi, e1, e2, vis_pre fun k u hk => by rw [List.getElem?_append_left (List.getElem?_eq_some_iff.1 hk).1]; exact hk, fun b hb k => (hbk b hb).1 k⟩
        · exact .inr hf)
    refine ⟨_, _, hr.put h8 (fun x u h => h.setO h9 (.inr (by rw [hln]; simp; omega))) hdN ?_⟩
    refine ⟨by simp [Gh.setO], by simp [Gh.setO], ?_, fun _ => by simp [Gh.setO]⟩
    obtain ⟨_, hq⟩ := hown
    rcases hq with ⟨rfl, e2⟩ | ⟨q, cap, cur, rfl, _⟩
    · omega
    · exact ⟨some ⟨q, 0, none⟩, cap, by rw [List.length_append]⟩
theorem sops_isnil_own {t t2 e sz d i n : Nat} {x : Operand} {rows : List (List T)} (hg : GuardIs ops tm o true) (ho : o.op = .binOp .eql t x (.const (.slice none 0 0)) t2) (hd : o.dst = some d) (hN : Nat.blt d N = true) (hx : evA tm x = some (.own i n)) (hi : get ow i = some ⟨e, sz, rows⟩) (hn : n = rows.length) (hT : sliceSz P t = some sz)
    (h : ∀ b, (b = true → rows = []) → SOps P N ops Q rest ⟨(d, .t (.v (.bool b))) :: tm, bx, ow⟩) : SOps P N ops Q (o :: rest) ⟨tm, bx, ow⟩ := by
  refine .mk fun C a w ⟨m, g, hr⟩ => ?_
  obtain ⟨hlw, _, ⟨A0, cap, hvx⟩, hgo⟩ := hr.ev hx
  obtain ⟨vs, hown, _, _, _⟩ := hr.env.owns i _ hi
  have hv := hgo (by rw [hr.env.ln i _ hi]; exact hn)
  obtain ⟨ee, ii, hu, _⟩ := sliceSz_spec hT
  have hrun : (execOp a.eval o).run P w = .ok (.value (.bool A0.isNone)) w := by
    have := Lib.run_eql_slice_nil (P := P) w t ee A0 n cap 0 0 hu
    have hc0 : a.eval (.const (.slice none 0 0)) = .slice none 0 0 := rfl
    have hgd : (eqGuard .eql t x (.const (.slice none 0 0)) (.slice A0 n cap) (.slice none 0 0)).run P w = .ok () w := by simp [eqGuard]
    simp only [execOp, ho, hvx, hc0, Sem.run_bind, Sem.run_pure, Result.andThen_ok, this, hgd]
  have hb : A0.isNone = true → rows = [] := fun hn0 => by
    obtain ⟨_, ⟨_, e2⟩ | ⟨b, c2, cur, e1, _⟩⟩ := hown
    · exact List.eq_nil_of_length_eq_zero e2
    · rw [← hv, hvx] at e1; injection e1 with e1; rw [e1] at hn0; cases hn0
  refine wpList_step fun K hK => ?_
  rw [if_pos (hg.wanted (m := m) (g := g) fun j want e _ _ y hy => hr.tmps e y hy)]
  refine wp_of_run hrun (hK _ _ ((h A0.isNone hb).go C _ _ ⟨m, g, ?_⟩))
  rw [hd]
  exact hr.put hr.env (fun x v h => h) (Nat.lt_of_succ_le (Nat.le_of_ble_eq_true hN)) (TR.v _)
end
theorem kp_one {ow0 ow1 : List (Nat × Own)} {o0 o1 : Own} (h0 : get ow0 2000 = some o0) (h1 : get ow1 2000 = some o1) (he : o1.rows.length = o0.rows.length) : ∀ i, Nat.beq i 2000 = true → Nat.ble 2000 i = true ∧ ∃ o0 o1, get ow0 i = some o0 ∧ get ow1 i = some o1 ∧ o1.rows.length = o0.rows.length := fun i h => by
  rw [Nat.eq_of_beq_eq_true h]
  exact ⟨rfl, o0, o1, h0, h1, he⟩
theorem bytes_pv (l : List UInt8) : ∀ t ∈ (l.map byteT).flatten, ∃ x, t = T.v x := fun t ht => by
  rw [flat_bytes] at ht
  obtain ⟨b, _, rfl⟩ := List.mem_map.1 ht
  exact ⟨_, rfl⟩
def bO (l : List UInt8) : Own := ⟨5, 1, l.map byteT⟩
set_option maxRecDepth 100000 in
/-- a copy of a row that is lent -/
theorem clone_own (l : List UInt8) (hl : l.length ≤ 140737488355328) : LCalls Try.prog 50 [.own 2000 (l.map byteT).length] [] [(2000, bO l)] (.t (bysT l)) [] [(2000, bO l)] := by
  have hm : (l.map byteT).length = l.length := List.length_map _
  have hmx : (l.map byteT).length ≤ maxLen := by unfold maxLen; omega
  unfold bysT bO
  refine lcalls_of Try.func50 rfl rfl Try.ntmps50 rfl ?_
  repeat' (first | (refine rg 0 ?_; refine oAs ?_; refine oN ?_) | (refine rg 1 ?_; refine oMv ?_; refine sops_isnil_own (.free rfl rfl) rfl rfl rfl rfl rfl rfl (tyS rfl) (fun b hnil => ?_); refine oN ?_) | refine gc ?_ | refine ct ?_ | refine cf ?_ | refine swp_cond rfl (fun hc => ?_) (fun hc => ?_) | refine rq rfl (rt .nil) ?_)
  · have hn := hnil hc
    rw [hn]
    repeat' (first | (refine rg 2 ?_; refine oAs ?_; refine oN ?_) | refine gc ?_ | refine ct ?_ | refine cf ?_ | refine swp_cond rfl (fun hc => ?_) (fun hc => ?_) | exact retl1 (by exact .inr rfl) rfl (.tmpT rfl (by first | exact .t _ | exact .own rfl (by rfl) | exact .nil _) .nil) rfl .nil (.cons rfl (by rfl) .nil))
  · repeat' (first | (refine rg 3 ?_; refine sops_build0i 101 (.free rfl rfl) rfl rfl rfl (tyE rfl) rfl ?_; refine oMv ?_; refine sops_append_see rfl rfl rfl rfl rfl rfl rfl rfl (.own rfl rfl) (bytes_pv l) (tyE rfl) (by simp; omega) (by simp; omega) ?_; refine oAs ?_; refine oN ?_) | refine gc ?_ | refine ct ?_ | refine cf ?_ | refine swp_cond rfl (fun hc => ?_) (fun hc => ?_) | refine retl (by exact .inr rfl) rfl (.tmpT rfl (by first | exact .t _ | exact .own rfl (by rfl) | exact .nil _ | exact .emp _ | exact .fn _) .nil) ?_ rfl .nil (.cons rfl (by rfl) .nil))
    rfl
set_option maxRecDepth 100000 in
theorem put_room_own (on : Nat → Bool) (d : PNet) (k : Nat) (l : List UInt8) (hk : k < 100) (hon : on k = true) (hl : l.length ≤ 140737488355328) (hr : (d.row k).length < 32) :
    LCalls Try.prog 48 [.rp 3000 k, .own 2000 (l.map byteT).length] (netX on d) [(2000, bO l)] (.t (.v (.bool true))) (netX on (d.put k (d.row k ++ [l]))) [(2000, bO l)] := by
  have c1 := clone_own l hl
  unfold bO at c1 ⊢
  refine lcalls_of Try.func48 rfl rfl Try.ntmps48 rfl ?_
  repeat' (first | (refine rg 0 ?_; refine oAs ?_; refine oN ?_) | (refine rg 1 ?_; refine oMv ?_; refine oN ?_) | (refine rg 2 ?_; refine oMv ?_; refine sops_lcall (c1) (fun i => i) (fun i => i) (fun i => Nat.beq i 2000) (.free rfl rfl) rfl rfl rfl (by ((repeat' (first | exact .nil | refine .cons rfl rfl rfl ?_)) <;> fail)) .nil (.cons rfl rfl .nil) rfl rfl (kp_one rfl rfl rfl) ?_; refine oN ?_) | ((first | refine swp_put_room (id := 3) rfl zsl rfl rfl rfl rfl rfl (by first | exact .t _ | exact .own rfl (by rfl) | exact .nil _ | exact .emp _ | exact .fn _) (by assumption) (by assumption) rfl rfl (by assumption) ?_ | refine swp_put_full (id := 3) rfl zsl rfl rfl rfl rfl (by assumption) (by assumption) rfl (by first | assumption | omega) ?_); refine oEx ?_; refine oCm ?_; refine oN ?_) | (refine rg 5 ?_; refine oAs ?_; refine oN ?_) | (refine rg 4 ?_; refine oAs ?_; refine oN ?_) | refine gc ?_ | refine ct ?_ | refine cf ?_ | refine swp_cond rfl (fun hc => ?_) (fun hc => ?_) | exact retl1 (by exact .inr rfl) rfl (.tmp rfl rfl .nil) rfl (.cons rfl (by rfl) rfl .nil) (.cons rfl (by rfl) .nil))
set_option maxRecDepth 100000 in
theorem put_full_own (on : Nat → Bool) (d : PNet) (k : Nat) (l : List UInt8) (hk : k < 100) (hon : on k = true) (hl : l.length ≤ 140737488355328) (hr : 32 ≤ (d.row k).length) :
    LCalls Try.prog 48 [.rp 3000 k, .own 2000 (l.map byteT).length] (netX on d) [(2000, bO l)] (.t (.v (.bool false))) (netX on d) [(2000, bO l)] := by
  have c1 := clone_own l hl
  unfold bO at c1 ⊢
  refine lcalls_of Try.func48 rfl rfl Try.ntmps48 rfl ?_
  repeat' (first | (refine rg 0 ?_; refine oAs ?_; refine oN ?_) | (refine rg 1 ?_; refine oMv ?_; refine oN ?_) | (refine rg 2 ?_; refine oMv ?_; refine sops_lcall (c1) (fun i => i) (fun i => i) (fun i => Nat.beq i 2000) (.free rfl rfl) rfl rfl rfl (by ((repeat' (first | exact .nil | refine .cons rfl rfl rfl ?_)) <;> fail)) .nil (.cons rfl rfl .nil) rfl rfl (kp_one rfl rfl rfl) ?_; refine oN ?_) | ((first | refine swp_put_room (id := 3) rfl zsl rfl rfl rfl rfl rfl (by first | exact .t _ | exact .own rfl (by rfl) | exact .nil _ | exact .emp _ | exact .fn _) (by assumption) (by assumption) rfl rfl (by first | assumption | omega) ?_ | refine swp_put_full (id := 3) rfl zsl rfl rfl rfl rfl (by assumption) (by assumption) rfl (by assumption) ?_); refine oEx ?_; refine oCm ?_; refine oN ?_) | (refine rg 5 ?_; refine oAs ?_; refine oN ?_) | (refine rg 4 ?_; refine oAs ?_; refine oN ?_) | refine gc ?_ | refine ct ?_ | refine cf ?_ | refine swp_cond rfl (fun hc => ?_) (fun hc => ?_) | exact retl1 (by exact .inr rfl) rfl (.tmp rfl rfl .nil) rfl (.cons rfl (by rfl) rfl .nil) (.cons rfl (by rfl) .nil))
set_option maxRecDepth 100000 in
theorem osend_no (d : PNet) (x y : Int) (b : List UInt8) (h : noL d.n x y) :
    LCalls Try.prog 34 [.bp 3000 0, .t (.v (.int .i64 x)), .t (.v (.int .i64 y)), .own 2000 (b.map byteT).length] (netN d) [(2000, bO b)] (.t (.v (.int .i64 1))) (netN d) [(2000, bO b)] := by
  have c1 := way_no (lnk d.n) d x y h
  unfold bO
  refine lcalls_of Try.func34 rfl rfl Try.ntmps34 rfl ?_
  repeat' (first | (refine rg 0 ?_; refine oAs ?_; refine oN ?_) | (refine rg 1 ?_; refine oMv ?_; refine oMv ?_; refine oMv ?_; refine sops_lcall (c1) (fun i => i) (fun i => i) (fun _ => false) (.free rfl rfl) rfl rfl rfl (by ((repeat' (first | exact .nil | refine .cons rfl rfl rfl ?_)) <;> fail)) (.cons rfl rfl .nil) .nil rfl rfl (fun _ h => Bool.noConfusion h) ?_; refine oAs ?_; refine oN ?_) | (refine rg 2 ?_; refine oMv ?_; (first | refine sp (po_nil_nt rfl rfl (by kernel_rfl) (by first | assumption | omega) (by assumption) rfl) ?_ | refine sp (po_nil_nil rfl rfl (by kernel_rfl)) ?_); refine oAs ?_; refine oN ?_) | (refine rg 3 ?_; refine oAs ?_; refine oN ?_) | refine gc ?_ | refine ct ?_ | refine cf ?_ | refine swp_cond rfl (fun hc => ?_) (fun hc => ?_) | exact retl1 (by exact .inr rfl) rfl (.tmp rfl rfl .nil) rfl (.cons rfl (by rfl) rfl .nil) (.cons rfl (by rfl) .nil))
set_option maxRecDepth 100000 in
theorem osend_long (d : PNet) (hd : NetOk d) (x y : Nat) (hl : IsL d.n x y) (b : List UInt8) (hb : 16384 < b.length) :
    LCalls Try.prog 34 [.bp 3000 0, .t (.v (.int .i64 (x : Int))), .t (.v (.int .i64 (y : Int))), .own 2000 (b.map byteT).length] (netN d) [(2000, bO b)] (.t (.v (.int .i64 6))) (netN d) [(2000, bO b)] := by
  have hon := lnk_ok hd.n hl.hx hl.hx2 hl.hy hl.hy2
  have c1 := way_ok (lnk d.n) d hd.n x y hl.hx hl.hx2 hl.hy hl.hy2 hl.hne hon
  have hk : x * 10 + y < 100 := by have := hd.n; have := hl.hx2; have := hl.hy2; omega
  have hm : (b.map byteT).length = b.length := List.length_map _
  unfold bO
  refine lcalls_of Try.func34 rfl rfl Try.ntmps34 rfl ?_
  repeat' (first | (refine rg 0 ?_; refine oAs ?_; refine oN ?_) | (refine rg 1 ?_; refine oMv ?_; refine oMv ?_; refine oMv ?_; refine sops_lcall (c1) (fun i => i) (fun i => i) (fun _ => false) (.free rfl rfl) rfl rfl rfl (by ((repeat' (first | exact .nil | refine .cons rfl rfl rfl ?_)) <;> fail)) (.cons rfl rfl .nil) .nil rfl rfl (fun _ h => Bool.noConfusion h) ?_; refine oAs ?_; refine oN ?_) | (refine rg 2 ?_; refine oMv ?_; refine sp (po_nil_nt rfl rfl (by kernel_rfl) (by assumption) (by assumption) rfl) ?_; refine oAs ?_; refine oN ?_) | (refine rg 4 ?_; refine oMv ?_; refine sp (po_len_own rfl rfl (tyS rfl)) ?_; refine oCm ?_; refine oAs ?_; refine oN ?_) | (refine rg 5 ?_; refine oAs ?_; refine oN ?_) | refine gc ?_ | refine ct ?_ | refine cf ?_ | refine swp_cond rfl (fun hc => ?_) (fun hc => ?_) | exact retl1 (by exact .inr rfl) rfl (.tmp rfl rfl .nil) rfl (.cons rfl (by rfl) rfl .nil) (.cons rfl (by rfl) .nil))
set_option maxRecDepth 100000 in
theorem osend_full (d : PNet) (hd : NetOk d) (x y : Nat) (hl : IsL d.n x y) (b : List UInt8) (hb : b.length ≤ 16384) (hr : 32 ≤ (d.row (x * 10 + y)).length) :
    LCalls Try.prog 34 [.bp 3000 0, .t (.v (.int .i64 (x : Int))), .t (.v (.int .i64 (y : Int))), .own 2000 (b.map byteT).length] (netN d) [(2000, bO b)] (.t (.v (.int .i64 3))) (netN d) [(2000, bO b)] := by
  have hon := lnk_ok hd.n hl.hx hl.hx2 hl.hy hl.hy2
  have c1 := way_ok (lnk d.n) d hd.n x y hl.hx hl.hx2 hl.hy hl.hy2 hl.hne hon
  have hk : x * 10 + y < 100 := by have := hd.n; have := hl.hx2; have := hl.hy2; omega
  have hm : (b.map byteT).length = b.length := List.length_map _
  have c2 := put_full_own (lnk d.n) d (x * 10 + y) b hk hon (by omega) hr
  unfold bO at c2 ⊢
  refine lcalls_of Try.func34 rfl rfl Try.ntmps34 rfl ?_
  repeat' (first | (refine rg 0 ?_; refine oAs ?_; refine oN ?_) | (refine rg 1 ?_; refine oMv ?_; refine oMv ?_; refine oMv ?_; (first | refine sops_lcall (c2) (fun i => i) (fun i => i) (fun i => Nat.beq i 2000) (.free rfl rfl) rfl rfl rfl (by first | ((repeat' (first | exact .nil | refine .cons rfl rfl rfl ?_ | refine .vw rfl (by first | exact .t _ | exact .own rfl (by rfl) | exact .nil _ | exact .emp _ | exact .fn _) ?_)) <;> fail) | fail) (.cons rfl rfl .nil) (.cons rfl rfl .nil) rfl rfl (kp_one rfl rfl rfl) ?_ | refine sops_lcall (c1) (fun i => i) (fun i => i) (fun _ => false) (.free rfl rfl) rfl rfl rfl (by ((repeat' (first | exact .nil | refine .cons rfl rfl rfl ?_)) <;> fail)) (.cons rfl rfl .nil) .nil rfl rfl (fun _ h => Bool.noConfusion h) ?_); refine oAs ?_; refine oN ?_) | (refine rg 2 ?_; refine oMv ?_; refine sp (po_nil_nt rfl rfl (by kernel_rfl) (by assumption) (by assumption) rfl) ?_; refine oAs ?_; refine oN ?_) | (refine rg 4 ?_; refine oMv ?_; refine sp (po_len_own rfl rfl (tyS rfl)) ?_; refine oCm ?_; refine oAs ?_; refine oN ?_) | (refine rg 6 ?_; refine oMv ?_; refine oMv ?_; (refine sops_lcall (c2) (fun i => i) (fun i => i) (fun i => Nat.beq i 2000) (.free rfl rfl) rfl rfl rfl (by ((repeat' (first | exact .nil | refine .cons rfl rfl rfl ?_)) <;> fail)) (.cons rfl rfl .nil) (.cons rfl rfl .nil) rfl rfl (kp_one rfl rfl rfl) ?_); refine sp (po_not rfl rfl) ?_; refine oAs ?_; refine oN ?_) | (refine rg 7 ?_; refine oAs ?_; refine oN ?_) | refine gc ?_ | refine ct ?_ | refine cf ?_ | refine swp_cond rfl (fun hc => ?_) (fun hc => ?_) | exact retl1 (by exact .inr rfl) rfl (.tmp rfl rfl .nil) rfl (.cons rfl (by rfl) rfl .nil) (.cons rfl (by rfl) .nil))
set_option maxRecDepth 100000 in
theorem osend_ok (d : PNet) (hd : NetOk d) (x y : Nat) (hl : IsL d.n x y) (b : List UInt8) (hb : b.length ≤ 16384) (hr : (d.row (x * 10 + y)).length < 32) :
    LCalls Try.prog 34 [.bp 3000 0, .t (.v (.int .i64 (x : Int))), .t (.v (.int .i64 (y : Int))), .own 2000 (b.map byteT).length] (netN d) [(2000, bO b)] (.t (.v (.int .i64 0))) (netN (d.put (x * 10 + y) (d.row (x * 10 + y) ++ [b]))) [(2000, bO b)] := by
  have hon := lnk_ok hd.n hl.hx hl.hx2 hl.hy hl.hy2
  have c1 := way_ok (lnk d.n) d hd.n x y hl.hx hl.hx2 hl.hy hl.hy2 hl.hne hon
  have hk : x * 10 + y < 100 := by have := hd.n; have := hl.hx2; have := hl.hy2; omega
  have hm : (b.map byteT).length = b.length := List.length_map _
  have c2 := put_room_own (lnk d.n) d (x * 10 + y) b hk hon (by omega) hr
  unfold bO at c2 ⊢
  refine lcalls_of Try.func34 rfl rfl Try.ntmps34 rfl ?_
  repeat' (first | (refine rg 0 ?_; refine oAs ?_; refine oN ?_) | (refine rg 1 ?_; refine oMv ?_; refine oMv ?_; refine oMv ?_; (first | refine sops_lcall (c2) (fun i => i) (fun i => i) (fun i => Nat.beq i 2000) (.free rfl rfl) rfl rfl rfl (by first | ((repeat' (first | exact .nil | refine .cons rfl rfl rfl ?_ | refine .vw rfl (by first | exact .t _ | exact .own rfl (by rfl) | exact .nil _ | exact .emp _ | exact .fn _) ?_)) <;> fail) | fail) (.cons rfl rfl .nil) (.cons rfl rfl .nil) rfl rfl (kp_one rfl rfl rfl) ?_ | refine sops_lcall (c1) (fun i => i) (fun i => i) (fun _ => false) (.free rfl rfl) rfl rfl rfl (by ((repeat' (first | exact .nil | refine .cons rfl rfl rfl ?_)) <;> fail)) (.cons rfl rfl .nil) .nil rfl rfl (fun _ h => Bool.noConfusion h) ?_); refine oAs ?_; refine oN ?_) | (refine rg 2 ?_; refine oMv ?_; refine sp (po_nil_nt rfl rfl (by kernel_rfl) (by assumption) (by assumption) rfl) ?_; refine oAs ?_; refine oN ?_) | (refine rg 4 ?_; refine oMv ?_; refine sp (po_len_own rfl rfl (tyS rfl)) ?_; refine oCm ?_; refine oAs ?_; refine oN ?_) | (refine rg 6 ?_; refine oMv ?_; refine oMv ?_; (refine sops_lcall (c2) (fun i => i) (fun i => i) (fun i => Nat.beq i 2000) (.free rfl rfl) rfl rfl rfl (by ((repeat' (first | exact .nil | refine .cons rfl rfl rfl ?_)) <;> fail)) (.cons rfl rfl .nil) (.cons rfl rfl .nil) rfl rfl (kp_one rfl rfl rfl) ?_); refine sp (po_not rfl rfl) ?_; refine oAs ?_; refine oN ?_) | (refine rg 8 ?_; refine oAs ?_; refine oN ?_) | refine gc ?_ | refine ct ?_ | refine cf ?_ | refine swp_cond rfl (fun hc => ?_) (fun hc => ?_) | exact retl1 (by exact .inr rfl) rfl (.tmp rfl rfl .nil) rfl (.cons rfl (by rfl) rfl .nil) (.cons rfl (by rfl) .nil))
end Go.Proofs.Ytgbcmjcaggnobaa.Sim

/- At, its bytes a row of the caller's own. -/
namespace Go.Proofs.Ytgbcmjcaggnobaa.Sim
set_option linter.unusedVariables false
set_option linter.unusedSimpArgs false
open Go.RowKit Mem
section
variable {P : Program} {bx : List (Nat × List A)} {ow : List (Nat × Own)} {o : Oper} {ρ : Operand → Option A} {r : A}
/-- a struct's literal of three parts -/
theorem po_build_ag3 {t : TypeId} {i i1 i2 : Nat} {x x1 x2 : Operand} {y y1 y2 : A} {rs : List A} {pl : List (Nat × Nat)} {zs : List Value} (hS : strI P t = some (pl, zs)) (ho : o.op = .build t #[(i, x), (i1, x1), (i2, x2)]) (hx : ρ x = some y) (hx1 : ρ x1 = some y1) (hx2 : ρ x2 = some y2) (hb : fillA (fun i => pl[i]?) (zs.map fun v => .t (.v v)) [(i, y), (i1, y1), (i2, y2)] = some rs) (hlf : rs.all A.isLf = true) : PureOp P bx ow o ρ (.ag rs) := pure_run fun C m g w a he h => by
  have h1 := h x (by simp [ho, Op.operands]) _ hx
  have h11 := h x1 (by simp [ho, Op.operands]) _ hx1
  have h12 := h x2 (by simp [ho, Op.operands]) _ hx2
  unfold strI at hS
  split at hS
  · rename_i it fields hi hu
    split at hS
    · rename_i z places hz hpl
      cases hb2 : (z.cells.toList.all (·.oneCell')) with
      | false => rw [hb2] at hS; cases hS
      | true =>
        rw [hb2] at hS
        injection hS with hS
        injection hS with e1 e2
        subst e1 e2
        obtain ⟨cells, h3, h4⟩ := fillA_ok (m := m) (g := g) (vals := [(i, a.eval x), (i1, a.eval x1), (i2, a.eval x2)]) hb (zero_acells m g (List.all_eq_true.1 hb2)) rfl (fun j p q hj hq => by
          match j, hj, hq with
          | 0, hj, hq => simp at hj hq; subst hj hq; exact ⟨rfl, h1⟩
          | 1, hj, hq => simp at hj hq; subst hj hq; exact ⟨rfl, h11⟩
          | 2, hj, hq => simp at hj hq; subst hj hq; exact ⟨rfl, h12⟩)
        have hbuilt : P.built t [(i, a.eval x), (i1, a.eval x1), (i2, a.eval x2)] = some cells := by
          unfold Program.built
          rw [hi, hu]
          dsimp only
          rw [hz, hpl]
          dsimp only
          have : (fun i : Nat => places[i]?) = (fun i : Nat => places.toArray[i]?) := by funext i; simp
          rw [← this]; exact h3
        have hrun := run_build (P := P) w t #[(i, a.eval x), (i1, a.eval x1), (i2, a.eval x2)] cells (by simpa using hbuilt)
        refine ⟨.agg cells, by simp [execOp, ho, hrun], cells, rfl, by have := h4.1; simpa using this, fun j y u hj hu => ?_⟩
        obtain ⟨h5, h6⟩ := h4.2 j y u hj (by simpa using hu)
        exact ⟨ar_leaf h5 ((List.all_eq_true.1 hlf) y (List.mem_of_getElem? hj)), h6⟩
    · cases hS
  · cases hS
end
set_option maxRecDepth 100000 in
/-- a copy as a row of the caller's own -/
theorem clone_mk (l : List UInt8) (hl : l.length ≤ 140737488355328) : LCalls Try.prog 50 [.t (bysT l)] [] [] (.own 1001 (l.map byteT).length) [] [(1001, bO l)] := by
  have hm : (l.map byteT).length = l.length := List.length_map _
  have hmx : (l.map byteT).length ≤ maxLen := by unfold maxLen; omega
  unfold bysT bO
  refine lcalls_of Try.func50 rfl rfl Try.ntmps50 rfl ?_
  repeat' (first | (refine rg 0 ?_; refine oAs ?_; refine oN ?_) | (refine rg 1 ?_; refine oMv ?_; refine sops_isnil (.free rfl rfl) rfl rfl rfl rfl (.t _) (tyS rfl) (fun b hnil => ?_); refine oN ?_) | refine gc ?_ | refine ct ?_ | refine cf ?_ | refine swp_cond rfl (fun hc => ?_) (fun hc => ?_) | refine rq rfl (rt .nil) ?_)
  · have hn := hnil hc
    rw [hn]
    repeat' (first | refine then_go ?_ | refine swp_seq ?_ | refine swp_ret_weak (weak_own0 (i := 1001) 5 1 (s := 2) rfl rfl) ?_ | (refine rg 2 ?_; refine oAs ?_; refine oN ?_) | refine swp_ret ?_ | refine swp_skip ?_ | refine swp_block ?_ | refine swp_exit ?_ | refine block_go ?_ | refine block_exit ?_ | refine block_far rfl ?_ | refine block_ret ?_ | refine then_ret ?_ | refine then_exit ?_ | refine for_ret ?_ | refine for_exit ?_ | refine ct ?_ | refine cf ?_ | refine swp_cond rfl (fun hc => ?_) (fun hc => ?_) | exact retl1 (by exact .inr rfl) rfl (.tmp rfl rfl .nil) rfl .nil (.cons rfl (by rfl) .nil))
  · repeat' (first | (refine rg 3 ?_; refine sops_build0i 1001 (.free rfl rfl) rfl rfl rfl (tyE rfl) rfl ?_; refine oMv ?_; refine sap rfl (tyE rfl) ?_; refine oAs ?_; refine oN ?_) | refine gc ?_ | refine ct ?_ | refine cf ?_ | refine swp_cond rfl (fun hc => ?_) (fun hc => ?_) | refine retl (by exact .inr rfl) rfl (.tmp rfl rfl .nil) ?_ rfl .nil (.cons rfl (by rfl) .nil))
    rfl
set_option maxRecDepth 100000 in
set_option maxHeartbeats 2000000 in
theorem turns_own (on : Nat → Bool) (d : PNet) (hn : d.n ≤ 9) (x y i : Nat) (hx : 1 ≤ x) (hx2 : x ≤ d.n) (hy : 1 ≤ y) (hy2 : y ≤ d.n) (hne : x ≠ y) (hon : on (x * 10 + y) = true) (h32 : (d.row (x * 10 + y)).length ≤ 32) (hi : i < (d.row (x * 10 + y)).length) (hbig : (d.row (x * 10 + y))[i].length ≤ 16384) :
    LCalls Try.prog 35 [.bp 3000 0, .t (.v (.int .i64 (x : Int))), .t (.v (.int .i64 (y : Int))), .t (.v (.int .i64 (i : Int))), .t (.clo 36 [])] (netX on d) [] (.tu [.ag [.t (.v (.int .i64 (x : Int))), .t (.v (.int .i64 (y : Int))), .own 1001 (((d.row (x * 10 + y))[i]).map byteT).length], .t (.v (.int .i64 0))]) (netX on d) [(1001, bO (d.row (x * 10 + y))[i])] := by
  have c1 := way_ok on d hn x y hx hx2 hy hy2 hne hon
  have hk : x * 10 + y < 100 := by omega
  have c2 := all_ on d (x * 10 + y) hk hon h32
  have c4 := clone_mk (d.row (x * 10 + y))[i] (by omega)
  have hne' : d.row (x * 10 + y) ≠ [] := fun e => by rw [e] at hi; simp at hi
  have c3 := lcalls_row (at_way (i := 0) (d.row (x * 10 + y))) hne' (ent_of Try.func36 rfl rfl) rfl rfl .nil (fun q R hq hg => by cases hg)
  have c5 := set_ on (d.put (x * 10 + y) []) (x * 10 + y) hk hon (d.row (x * 10 + y)) (PNet.put_row _ _ _) (by omega)
  have hm := rowsB_len (d.row (x * 10 + y))
  have hat : (rowsB (d.row (x * 10 + y)))[i]? = some [bysT (d.row (x * 10 + y))[i]] := by unfold rowsB; rw [List.getElem?_map, List.getElem?_eq_getElem hi]; rfl
  rw [PNet.put_put, PNet.put_same] at c5
  refine lcalls_of Try.func35 rfl rfl Try.ntmps35 rfl ?_
  repeat' (first | (refine rg 0 ?_; refine sal str32 ?_; refine oAs ?_; refine oN ?_) | (refine rg 1 ?_; refine oMv ?_; refine oMv ?_; refine oMv ?_; (first | refine sops_lcall (c5) (fun i => i) (fun i => 1002) (fun _ => false) (.free rfl rfl) rfl rfl rfl (by first | ((repeat' (first | exact .nil | refine .cons rfl rfl rfl ?_ | refine .vw rfl (by first | exact .t _ | exact .own rfl (by rfl) | exact .nil _ | exact .emp _ | exact .fn _) ?_)) <;> fail) | fail) (.cons rfl rfl .nil) (.cons rfl rfl .nil) rfl rfl (fun _ h => Bool.noConfusion h) ?_ | refine sops_lcall (c3) (fun i => i) (fun i => bif Nat.beq i 2000 then 1000 else 1002) (fun _ => false) (.free rfl rfl) rfl rfl rfl (by first | ((repeat' (first | exact .nil | refine .cons rfl rfl rfl ?_ | refine .vw rfl (by first | exact .t _ | exact .own rfl (by rfl) | exact .nil _ | exact .emp _ | exact .fn _) ?_)) <;> fail) | fail) .nil (.cons rfl rfl .nil) rfl rfl (fun _ h => Bool.noConfusion h) ?_ | refine sops_lcall (c4) (fun i => i) (fun i => i) (fun _ => false) (.free rfl rfl) rfl rfl rfl (by first | ((repeat' (first | exact .nil | refine .cons rfl rfl rfl ?_ | refine .vw rfl (by exact .t _) ?_)) <;> fail) | fail) .nil .nil rfl rfl (fun _ h => Bool.noConfusion h) ?_ | refine sops_lcall (c2) (fun i => i) (fun i => i) (fun _ => false) (.free rfl rfl) rfl rfl rfl (by first | ((repeat' (first | exact .nil | refine .cons rfl rfl rfl ?_ | refine .vw rfl (by first | exact .t _ | exact .own rfl (by rfl) | exact .nil _ | exact .emp _ | exact .fn _) ?_)) <;> fail) | fail) (.cons rfl rfl .nil) .nil rfl rfl (fun _ h => Bool.noConfusion h) ?_ | refine sops_lcall (c1) (fun i => i) (fun i => i) (fun _ => false) (.free rfl rfl) rfl rfl rfl (by ((repeat' (first | exact .nil | refine .cons rfl rfl rfl ?_)) <;> fail)) (.cons rfl rfl .nil) .nil rfl rfl (fun _ h => Bool.noConfusion h) ?_); refine oAs ?_; refine oN ?_) | (refine rg 2 ?_; refine oMv ?_; refine sp (po_nil_nt rfl rfl (by kernel_rfl) (by assumption) (by assumption) rfl) ?_; refine oAs ?_; refine oN ?_) | (refine rg 4 ?_; refine oMv ?_; refine oCm ?_; refine oMv ?_; refine oMv ?_ <;> refine oMv ?_ <;> (first | refine sp (po_len_own rfl rfl (tyS rfl)) ?_ | refine sp (pln rfl (tyS rfl)) ?_ | refine sp (po_len_nt rfl rfl (by kernel_rfl) (by assumption) (by assumption) rfl) ?_) <;> refine oCm ?_ <;> (first | refine oPt ?_ | refine oPf ?_) <;> refine oAs ?_ <;> refine oN ?_) | (refine rg 6 ?_; refine oMv ?_; (first | refine sops_lcall (c5) (fun i => i) (fun i => 1002) (fun _ => false) (.free rfl rfl) rfl rfl rfl (by first | ((repeat' (first | exact .nil | refine .cons rfl rfl rfl ?_ | refine .vw rfl (by first | exact .t _ | exact .own rfl (by rfl) | exact .nil _ | exact .emp _ | exact .fn _) ?_)) <;> fail) | fail) (.cons rfl rfl .nil) (.cons rfl rfl .nil) rfl rfl (fun _ h => Bool.noConfusion h) ?_ | refine sops_lcall (c3) (fun i => i) (fun i => bif Nat.beq i 2000 then 1000 else 1002) (fun _ => false) (.free rfl rfl) rfl rfl rfl (by first | ((repeat' (first | exact .nil | refine .cons rfl rfl rfl ?_ | refine .vw rfl (by first | exact .t _ | exact .own rfl (by rfl) | exact .nil _ | exact .emp _ | exact .fn _) ?_)) <;> fail) | fail) .nil (.cons rfl rfl .nil) rfl rfl (fun _ h => Bool.noConfusion h) ?_ | refine sops_lcall (c4) (fun i => i) (fun i => i) (fun _ => false) (.free rfl rfl) rfl rfl rfl (by first | ((repeat' (first | exact .nil | refine .cons rfl rfl rfl ?_ | refine .vw rfl (by exact .t _) ?_)) <;> fail) | fail) .nil .nil rfl rfl (fun _ h => Bool.noConfusion h) ?_ | refine sops_lcall (c2) (fun i => i) (fun i => i) (fun _ => false) (.free rfl rfl) rfl rfl rfl (by ((repeat' (first | exact .nil | refine .cons rfl rfl rfl ?_)) <;> fail)) (.cons rfl rfl .nil) .nil rfl rfl (fun _ h => Bool.noConfusion h) ?_); refine oAs ?_; refine oN ?_) | (refine rg 7 ?_; refine oMv ?_; refine oMv ?_; refine oMv ?_; refine oMv ?_; refine sp (ixo rfl) ?_; (first | refine sp (po_load_ntn rfl rfl (tyT rfl) rfl) ?_ | refine sp (po_load_ntk rfl rfl (tyT rfl) rfl (by assumption) (by assumption) rfl) ?_ | refine oLb ?_ | refine oLd ?_ | refine sp (ldo rfl) ?_); (first | refine sops_lcall (c5) (fun i => i) (fun i => 1002) (fun _ => false) (.free rfl rfl) rfl rfl rfl (by first | ((repeat' (first | exact .nil | refine .cons rfl rfl rfl ?_ | refine .vw rfl (by first | exact .t _ | exact .own rfl (by rfl) | exact .nil _ | exact .emp _ | exact .fn _) ?_)) <;> fail) | fail) (.cons rfl rfl .nil) (.cons rfl rfl .nil) rfl rfl (fun _ h => Bool.noConfusion h) ?_ | refine sops_lcall (c3) (fun i => i) (fun i => bif Nat.beq i 2000 then 1000 else 1002) (fun _ => false) (.free rfl rfl) rfl rfl rfl (by first | ((repeat' (first | exact .nil | refine .cons rfl rfl rfl ?_ | refine .vw rfl (by first | exact .t _ | exact .own rfl (by rfl) | exact .nil _ | exact .emp _ | exact .fn _) ?_)) <;> fail) | fail) .nil (.cons rfl rfl .nil) rfl rfl (fun _ h => Bool.noConfusion h) ?_ | refine sops_lcall (c4) (fun i => i) (fun i => i) (fun _ => false) (.free rfl rfl) rfl rfl rfl (by ((repeat' (first | exact .nil | refine .cons rfl rfl rfl ?_)) <;> fail)) .nil .nil rfl rfl (fun _ h => Bool.noConfusion h) ?_); refine sp (po_build_ag3 str32 rfl rfl rfl rfl rfl rfl) ?_; refine sal str32 ?_; refine oS ?_; refine oN ?_) | (refine rg 8 ?_; refine oMv ?_; refine oMv ?_; refine oMv ?_; (first | refine sops_lcall_tclo (args := [_]) (caps := []) (c5) (fun i => i) (fun i => 1002) (fun _ => false) (.free rfl rfl) rfl rfl rfl rfl (by first | ((repeat' (first | exact .nil | refine .cons rfl rfl rfl ?_ | refine .vw rfl (by first | exact .t _ | exact .own rfl (by first | rfl | assumption | (simp; done) | (simp; omega)) | exact .nil _ | exact .emp _ | exact .fn _) ?_)) <;> fail) | fail) (.cons rfl rfl .nil) (.cons rfl rfl .nil) rfl rfl (fun _ h => Bool.noConfusion h) ?_ | refine sops_lcall_clo (args := [_]) (caps0 := []) (c5) (fun i => i) (fun i => 1002) (fun _ => false) (.free rfl rfl) rfl rfl rfl rfl rfl rfl (by first | ((repeat' (first | exact .nil | refine .cons rfl rfl rfl ?_ | refine .vw rfl (by first | exact .t _ | exact .own rfl (by first | rfl | assumption | (simp; done) | (simp; omega)) | exact .nil _ | exact .emp _ | exact .fn _) ?_)) <;> fail) | fail) (.cons rfl rfl .nil) (.cons rfl rfl .nil) rfl rfl (fun _ h => Bool.noConfusion h) ?_ | refine sops_lcall_tclo (args := [_]) (caps := []) (c3) (fun i => i) (fun i => bif Nat.beq i 2000 then 1000 else 1002) (fun _ => false) (.free rfl rfl) rfl rfl rfl rfl (by ((repeat' (first | exact .nil | refine .cons rfl rfl rfl ?_)) <;> fail)) .nil (.cons rfl rfl .nil) rfl rfl (fun _ h => Bool.noConfusion h) ?_); (refine sops_lcall (c5) (fun i => i) (fun i => 1002) (fun _ => false) (.free rfl rfl) rfl rfl rfl (by ((repeat' (first | exact .nil | refine .cons rfl rfl rfl ?_)) <;> fail)) (.cons rfl rfl .nil) (.cons rfl rfl .nil) rfl rfl (fun _ h => Bool.noConfusion h) ?_); refine oN ?_) | (refine rg 9 ?_; (first | refine sp (po_load_bx_agg rfl rfl (tyT rfl) rfl (vc (vc (vc .nil))) rfl) ?_ | refine sp (po_load_agg rfl rfl (tyT rfl) rfl rfl) ?_ | refine sp (lda rfl) ?_ | refine sp (po_load_bx_ag rfl rfl (tyT rfl) rfl rfl rfl rfl) ?_); refine oS ?_; refine oAs ?_; refine oN ?_) | refine gc ?_ | refine ct ?_ | refine cf ?_ | refine swp_cond rfl (fun hc => ?_) (fun hc => ?_) | refine retl (by exact .inr rfl) rfl (.cell rfl rfl (tyT rfl) rfl rfl (.tmp rfl rfl .nil)) ?_ rfl (.cons rfl (by rfl) rfl .nil) (.cons rfl (by rfl) .nil))
  rfl
end Go.Proofs.Ytgbcmjcaggnobaa.Sim

/- A net in plain Lean: what its calls answer and leave. -/
namespace Go.Proofs.Ytgbcmjcaggnobaa.Sim
set_option linter.unusedVariables false
set_option linter.unusedSimpArgs false
structure PMsg where
  f : Int
  t : Int
  b : List UInt8
deriving DecidableEq
structure PHop where
  kind : Int
  f : Int
  t : Int
  no : Int
  load : List UInt8
def isL (n : Nat) (x y : Int) : Bool := decide (1 ≤ x ∧ x ≤ n ∧ 1 ≤ y ∧ y ≤ n ∧ x ≠ y)
def kOf (x y : Int) : Nat := x.toNat * 10 + y.toNat
def msgZ : PMsg := ⟨0, 0, []⟩
def getP (l : List (List UInt8)) (i : Int) : Option (List UInt8) := if 0 ≤ i then l[i.toNat]? else none
def atP (d : PNet) (x y i : Int) : PMsg × Int := bif isL d.n x y then (match getP (d.row (kOf x y)) i with | some b => (⟨x, y, b⟩, 0) | none => (msgZ, 4)) else (msgZ, 1)
def delP (d : PNet) (x y i : Int) : PNet := bif isL d.n x y then (match getP (d.row (kOf x y)) i with | some _ => d.put (kOf x y) ((d.row (kOf x y)).eraseIdx i.toNat) | none => d) else d
def frontP (d : PNet) (x y i : Int) : PNet := bif isL d.n x y then (match getP (d.row (kOf x y)) i with | some b => d.put (kOf x y) (b :: (d.row (kOf x y)).eraseIdx i.toNat) | none => d) else d
def sendP (d : PNet) (x y : Int) (b : List UInt8) : PNet × Int := bif isL d.n x y then (if 16384 < b.length then (d, 6) else if (d.row (kOf x y)).length < 32 then (d.put (kOf x y) (d.row (kOf x y) ++ [b]), 0) else (d, 3)) else (d, 1)
def doubleP (d : PNet) (x y i : Int) : PNet × Int := bif isL d.n x y then (match getP (d.row (kOf x y)) i with | some b => (if (d.row (kOf x y)).length < 32 then (d.put (kOf x y) (d.row (kOf x y) ++ [b]), 0) else (d, 3)) | none => (d, 4)) else (d, 1)
def lenP (d : PNet) (x y : Int) : Int := bif isL d.n x y then ((d.row (kOf x y)).length : Int) else 0
/-- a kind, modulo 8 -/
def knd (i : Int) : Int := IntKind.i64.wrap (BitVec.ofInt IntKind.i64.bits i &&& BitVec.ofInt IntKind.i64.bits 7).toNat
/-- a call: what is told, how many, the error -/
def doesR (d : PNet) (h : PHop) : PMsg × Int × Int :=
  if knd h.kind = 0 ∨ knd h.kind = 1 then (msgZ, 0, (sendP d h.f h.t h.load).2)
  else if knd h.kind = 2 then ((atP d h.f h.t h.no).1, 0, (atP d h.f h.t h.no).2)
  else if knd h.kind = 3 then (msgZ, 0, (atP d h.f h.t h.no).2)
  else if knd h.kind = 4 then (msgZ, 0, (doubleP d h.f h.t h.no).2)
  else if knd h.kind = 5 then (msgZ, 0, (atP d h.f h.t h.no).2)
  else if knd h.kind = 6 then ((atP d h.f h.t h.no).1, 0, (atP d h.f h.t h.no).2)
  else (msgZ, lenP d h.f h.t, 0)
def doesN (d : PNet) (h : PHop) : PNet :=
  if knd h.kind = 0 ∨ knd h.kind = 1 then (sendP d h.f h.t h.load).1
  else if knd h.kind = 2 ∨ knd h.kind = 3 then delP d h.f h.t h.no
  else if knd h.kind = 4 then (doubleP d h.f h.t h.no).1
  else if knd h.kind = 5 then frontP d h.f h.t h.no
  else d
theorem isL_spec {n : Nat} {x y : Int} (h : isL n x y = true) : ∃ a b : Nat, x = a ∧ y = b ∧ kOf x y = a * 10 + b ∧ IsL n a b := by
  unfold isL at h
  rw [decide_eq_true_eq] at h
  obtain ⟨h1, h2, h3, h4, h5⟩ := h
  exact ⟨x.toNat, y.toNat, by omega, by omega, rfl, by omega, by omega, by omega, by omega, by omega⟩
theorem isL_no {n : Nat} {x y : Int} (h : isL n x y = false) : noL n x y := by
  unfold isL at h
  rw [decide_eq_false_iff_not] at h
  unfold noL; omega
theorem getP_some {l : List (List UInt8)} {i : Int} {b : List UInt8} (h : getP l i = some b) : ∃ (k : Nat) (hk : k < l.length), i = k ∧ i.toNat = k ∧ l[k] = b := by
  unfold getP at h
  split at h
  · obtain ⟨h1, h2⟩ := List.getElem?_eq_some_iff.1 h
    exact ⟨i.toNat, h1, by omega, rfl, h2⟩
  · cases h
theorem getP_none {l : List (List UInt8)} {i : Int} (h : getP l i = none) : i < 0 ∨ (l.length : Int) ≤ i := by
  unfold getP at h
  split at h
  · have := List.getElem?_eq_none_iff.1 h; omega
  · omega
theorem NetOk.put {d : PNet} (h : NetOk d) {k : Nat} {l : List (List UInt8)} (hk : ∃ x y, IsL d.n x y ∧ k = x * 10 + y) (h1 : l.length ≤ 32) (h2 : ∀ x ∈ l, x.length ≤ 16384) : NetOk (d.put k l) where
  n := h.n
  len := fun j => by
    show (if j = k then l else d.row j).length ≤ 32
    split
    · exact h1
    · exact h.len j
  big := fun j x hx => by
    have hx : x ∈ (if j = k then l else d.row j) := hx
    split at hx
    · exact h2 x hx
    · exact h.big j x hx
  zero := fun j hj => by
    show (if j = k then l else d.row j) = []
    obtain ⟨x, y, h3, h4⟩ := hk
    rw [if_neg fun e => hj x y h3 (e.trans h4)]
    exact h.zero j hj
theorem isL_key {n : Nat} {x y : Int} (h : isL n x y = true) : ∃ a b, IsL n a b ∧ kOf x y = a * 10 + b := by
  obtain ⟨a, b, _, _, h1, h2⟩ := isL_spec h
  exact ⟨a, b, h2, h1⟩
theorem del_ok {d : PNet} (h : NetOk d) (x y i : Int) : NetOk (delP d x y i) := by
  unfold delP
  cases hL : isL d.n x y with
  | false => exact h
  | true =>
    cases hg : getP (d.row (kOf x y)) i with
    | none => exact h
    | some b => exact h.put (isL_key hL) (Nat.le_trans (List.length_eraseIdx_le _ _) (h.len _)) fun z hz => h.big _ z (List.mem_of_mem_eraseIdx hz)
theorem front_okN {d : PNet} (h : NetOk d) (x y i : Int) : NetOk (frontP d x y i) := by
  unfold frontP
  cases hL : isL d.n x y with
  | false => exact h
  | true =>
    cases hg : getP (d.row (kOf x y)) i with
    | none => exact h
    | some b =>
      obtain ⟨k, hk, h1, h2, h3⟩ := getP_some hg
      refine h.put (isL_key hL) ?_ fun z hz => ?_
      · rw [List.length_cons, List.length_eraseIdx, h2, if_pos hk]; have := h.len (kOf x y); omega
      · rcases List.mem_cons.1 hz with rfl | hz
        · rw [← h3]; exact h.big _ _ (List.getElem_mem hk)
        · exact h.big _ z (List.mem_of_mem_eraseIdx hz)
theorem send_okN {d : PNet} (h : NetOk d) (x y : Int) (b : List UInt8) : NetOk (sendP d x y b).1 := by
  unfold sendP
  cases hL : isL d.n x y with
  | false => exact h
  | true =>
    show NetOk (if 16384 < b.length then (d, 6) else if (d.row (kOf x y)).length < 32 then (d.put (kOf x y) (d.row (kOf x y) ++ [b]), 0) else (d, 3) : PNet × Int).1
    split
    · exact h
    · split
      · refine h.put (isL_key hL) (by simp; omega) fun z hz => ?_
        rcases List.mem_append.1 hz with hz | hz
        · exact h.big _ z hz
        · simp at hz; subst hz; omega
      · exact h
theorem double_okN {d : PNet} (h : NetOk d) (x y i : Int) : NetOk (doubleP d x y i).1 := by
  unfold doubleP
  cases hL : isL d.n x y with
  | false => exact h
  | true =>
    cases hg : getP (d.row (kOf x y)) i with
    | none => exact h
    | some b =>
      show NetOk (if (d.row (kOf x y)).length < 32 then (d.put (kOf x y) (d.row (kOf x y) ++ [b]), 0) else (d, 3) : PNet × Int).1
      split
      · obtain ⟨k, hk, h1, h2, h3⟩ := getP_some hg
        refine h.put (isL_key hL) (by simp; omega) fun z hz => ?_
        rcases List.mem_append.1 hz with hz | hz
        · exact h.big _ z hz
        · simp at hz; subst hz; rw [← h3]; exact h.big _ _ (List.getElem_mem hk)
      · exact h
theorem does_okN {d : PNet} (h : NetOk d) (p : PHop) : NetOk (doesN d p) := by
  unfold doesN
  repeat' split
  · exact send_okN h _ _ _
  · exact del_ok h _ _ _
  · exact double_okN h _ _ _
  · exact front_okN h _ _ _
  · exact h
end Go.Proofs.Ytgbcmjcaggnobaa.Sim

/- At, its bytes a row of the caller's own; the plain net; the net's calls as they are said of it. -/
namespace Go.Proofs.Ytgbcmjcaggnobaa.Sim
set_option linter.unusedVariables false
set_option linter.unusedSimpArgs false
open Go.RowKit Mem
set_option maxRecDepth 100000 in
theorem at_own (d : PNet) (hd : NetOk d) (x y i : Nat) (hl : IsL d.n x y) (hi : i < (d.row (x * 10 + y)).length) :
    LCalls Try.prog 12 [.bp 3000 0, .t (.v (.int .i64 (x : Int))), .t (.v (.int .i64 (y : Int))), .t (.v (.int .i64 (i : Int)))] (netN d) [] (.tu [.ag [.t (.v (.int .i64 (x : Int))), .t (.v (.int .i64 (y : Int))), .own 1001 (((d.row (x * 10 + y))[i]).map byteT).length], .t (.v (.int .i64 0))]) (netN d) [(1001, bO (d.row (x * 10 + y))[i])] := by
  have hon := lnk_ok hd.n hl.hx hl.hx2 hl.hy hl.hy2
  have c1 := turns_own (lnk d.n) d hd.n x y i hl.hx hl.hx2 hl.hy hl.hy2 hl.hne hon (hd.len _) hi (hd.big _ _ (List.getElem_mem hi))
  refine lcalls_of Try.func12 rfl rfl Try.ntmps12 rfl ?_
  repeat' (first | (refine rg 0 ?_; refine sal str32 ?_; refine oAs ?_; refine oN ?_) | (refine rg 1 ?_; refine oMv ?_; refine oMv ?_; refine oMv ?_; refine oMv ?_; refine sops_lcall (c1) (fun i => i) (fun i => i) (fun _ => false) (.free rfl rfl) rfl rfl rfl (by ((repeat' (first | exact .nil | refine .cons rfl rfl rfl ?_ | refine .vw rfl (by first | exact .t _ | exact .own rfl (by rfl) | exact .nil _ | exact .emp _ | exact .fn _) ?_)) <;> fail)) (.cons rfl rfl .nil) .nil rfl rfl (fun _ h => Bool.noConfusion h) ?_; (first | refine oEx ?_ | refine sp (po_extract_tu rfl rfl rfl) ?_); (first | refine oEx ?_ | refine sp (po_extract_tu rfl rfl rfl) ?_); refine oS ?_; refine oAs ?_; refine oN ?_) | refine gc ?_ | refine ct ?_ | refine cf ?_ | refine swp_cond rfl (fun hc => ?_) (fun hc => ?_) | refine retl (by exact .inr rfl) rfl (.cell rfl rfl (tyT rfl) rfl rfl (.tmp rfl rfl .nil)) ?_ rfl (.cons rfl (by rfl) rfl .nil) (.cons rfl (by rfl) .nil))
  rfl
end Go.Proofs.Ytgbcmjcaggnobaa.Sim
