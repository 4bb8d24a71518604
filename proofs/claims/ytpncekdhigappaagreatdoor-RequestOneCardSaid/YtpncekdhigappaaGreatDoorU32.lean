/- Merged by bundles.py: SimCb, SimLn. -/
import Derived.Test.YtpncekdhigappaaGreatDoorU10
import Derived.Test.YtpncekdhigappaaGreatDoorU4
import Derived.Lib.SlBytesConst
import Derived.Test.YtpncekdhigappaaGreatDoorU31
import Derived.Test.YtpncekdhigappaaGreatDoorU20
import Derived.Test.YtpncekdhigappaaGreatDoorU13
/- A logic of states: a constant text's bytes. -/
namespace Go.Proofs.YtpncekdhigappaaGreatDoor.Sim
set_option linter.unusedVariables false
set_option linter.unusedSimpArgs false
open Go.RowKit Mem
section
variable {P : Program} {N : Nat} {Q : Exit → St → Prop} {ops : Array Oper} {rest : List Oper} {o : Oper} {tm : List (Nat × A)} {bx : List (Nat × List A)} {ow : List (Nat × Own)}
structure SMk (P : Program) (N : Nat) (ops : Array Oper) (Q : Exit → St → Prop) (d e : Nat) (rows : List (List T)) (l : List Oper) (st : St) : Prop where
  go : ∀ C a w m g, RelG C N st a w m g → ∀ vs : List Value, vs.length = rows.length * 1 → (∀ r ∈ rows, r.length = 1) → CellsAre m rows.flatten vs → wpList P ops (Good C N Q) l (a.put (some d) (.slice (some ⟨w.heap.size, 0, none⟩) rows.length rows.length)) (w.alloc (.cells vs.toArray e))
theorem sops_cb1 {t e by_ len d : Nat} {xs : List (Nat × Operand)} {rows : List (List T)} (hg : GuardIs ops tm o true) (ho : o.op = .buildSlice t len xs.toArray) (hd : o.dst = some d) (hT : sliceE P t = some (e, 1, by_)) (hx : DParts ow (evA tm) 1 0 xs rows) (hlen : rows.length = len) (h0 : Nat.blt 0 len = true) (hsm : Nat.ble (len * 1) (2 ^ 24) = true)
    (k : SMk P N ops Q d e rows rest ⟨tm, bx, ow⟩) : SOps P N ops Q (o :: rest) ⟨tm, bx, ow⟩ := by
  refine .mk fun C a w ⟨m, g, hr⟩ => ?_
  obtain ⟨vs, h1, h2, h3, h4, h5⟩ := hx.ok hr.env (a := a) (fun x _ y hy => hr.ev hy)
  have hrun := built_run (P := P) hT w vs h3 (by omega) (Nat.lt_of_succ_le (Nat.le_of_ble_eq_true h0)) hsm
  refine wpList_step fun K hK => ?_
  rw [if_pos (hg.wanted (m := m) (g := g) fun j want e _ _ y hy => hr.tmps e y hy)]
  subst hlen
  refine wp_of_run (v := .slice (some ⟨w.heap.size, 0, none⟩) rows.length rows.length) (w' := w.alloc (.cells (vs.flatMap fun v => v.cells.toList).toArray e)) ?_ (hK _ _ ?_)
  · simp only [execOp, ho, List.map_toArray]
    rw [show (xs.map fun x => (x.1, a.eval x.2)) = (vs.zipIdx 0).map (fun x => (x.2, x.1)) from h1, Sem.run_bind, hrun]; rfl
  · rw [hd]
    exact k.go C a w m g hr _ (by rw [flatMap_cells_len h3, h2]) h4 h5
theorem sops_cb2 {t e d d2 : Nat} {rows : List (List T)} (hg : GuardIs ops ((d, .t (.sl 1 rows)) :: tm) o true) (ho : o.op = .convert t t (.tmp d)) (hd : o.dst = some d2) (hN : Nat.blt d N = true) (hN2 : Nat.blt d2 N = true) (hT : byE P t = some e) (hsm : Nat.ble rows.length (2 ^ 24) = true)
    (h : SOps P N ops Q rest ⟨(d2, .t (.sl 1 rows)) :: (d, .t (.sl 1 rows)) :: tm, bx, ow⟩) : SMk P N ops Q d e rows (o :: rest) ⟨tm, bx, ow⟩ := by
  refine .mk fun C a w m g hr vs hl h4 h5 => ?_
  obtain ⟨t1, t2⟩ := byE_spec hT
  have hle := Nat.le_of_ble_eq_true hsm
  have hrl : rows.length ≤ maxLen := by unfold maxLen; omega
  have hd1 : d < N := Nat.lt_of_succ_le (Nat.le_of_ble_eq_true hN)
  have hlo : Lo w (w.alloc (.cells vs.toArray e (vs.toArray.size, vs.toArray.size + 1))) := (Lo.refl w).alloc _
  have hs := upm_sub hr.env.sub hlo
  have he := ext_upm (w' := w.alloc (.cells vs.toArray e (vs.toArray.size, vs.toArray.size + 1))) hr.env.sub
  have hnew : (w.alloc (.cells vs.toArray e (vs.toArray.size, vs.toArray.size + 1))).heap[w.heap.size]? = some (.cells vs.toArray e (vs.toArray.size, vs.toArray.size + 1)) := heap_alloc_new w _
  have hTR : TR (upm m w (w.alloc (.cells vs.toArray e (vs.toArray.size, vs.toArray.size + 1)))) (.sl 1 rows) (.slice (some ⟨w.heap.size, 0, none⟩) rows.length rows.length) := by
    refine tr_owns (w := w.alloc (.cells vs.toArray e (vs.toArray.size, vs.toArray.size + 1))) (base := 0) (e := e) (vs := vs) ⟨hl, .inr ⟨w.heap.size, rows.length, vs.toArray, rfl, Nat.zero_le _, ⟨_, hnew, .inr (Nat.le_refl _)⟩, Nat.le_refl _, hrl, by simp [hl], ?_⟩⟩ h4 (h5.mono he.1) ?_
    · simp only; rw [← hl]; exact List.take_length
    · intro b hb k u hu
      injection hb with hb; subst hb
      unfold upm
      rw [if_neg (Nat.lt_irrefl _)]
      unfold World.cell?
      rw [hnew]
      simpa using hu
  have R1 := hr.put (x := .t (.sl 1 rows)) (v := .slice (some ⟨w.heap.size, 0, none⟩) rows.length rows.length) (hr.env.step hlo he hs) (fun x v h => h.mono he.1) hd1 hTR
  have R2 := R1.put (d := d2) (x := .t (.sl 1 rows)) (v := .slice (some ⟨w.heap.size, 0, none⟩) rows.length rows.length) R1.env (fun x v h => h) (Nat.lt_of_succ_le (Nat.le_of_ble_eq_true hN2)) hTR
  refine wpList_step fun K hK => ?_
  rw [if_pos (hg.wanted (m := upm m w (w.alloc (.cells vs.toArray e (vs.toArray.size, vs.toArray.size + 1)))) (g := g) fun j want e _ _ y hy => R1.tmps e y hy)]
  refine wp_of_run (v := .slice (some ⟨w.heap.size, 0, none⟩) rows.length rows.length) (w' := w.alloc (.cells vs.toArray e (vs.toArray.size, vs.toArray.size + 1))) ?_ (hK _ _ (h.go C _ _ ⟨_, _, by rw [hd]; exact R2⟩))
  have hev := eval_put_same (a := a) (.slice (some ⟨w.heap.size, 0, none⟩) rows.length rows.length) hr.size hd1
  have hc := Lib.run_convert_bytes_const (P := P) w t e vs.toArray rows.length rows.length t1 t2
  simp only [execOp, ho, hev, Sem.run_bind, hc]
  rfl
end
end Go.Proofs.YtpncekdhigappaaGreatDoor.Sim

/- The document's reader of messages: lines, sizes; walks. -/
namespace Go.Proofs.YtpncekdhigappaaGreatDoor.Rq
set_option linter.unusedVariables false
set_option linter.unusedSimpArgs false
open Go.RowKit Mem Sim Opn Hd Str
open An (vws_eq)
theorem scan_cons (acc l : List UInt8) (c : UInt8) : scan acc (c :: l) = if c.toNat = 10 then .bad 2 else if c.toNat = 13 then (match l with
      | [] => .wait
      | d :: l' => if d.toNat = 10 then .ok acc l' else .bad 2) else if 578 ≤ acc.length then .bad 6 else scan (acc ++ [c]) l := by cases l <;> rfl
def lineT (n : Nat) : LR → T
  | .ok s rest => .tup [.v (.string (bs s)), .v (.int .i64 ((n - rest.length : Nat) : Int)), .v (.int .i64 1)]
  | .wait => .tup [.v (.string ⟨#[]⟩), .v (.int .i64 0), .v (.int .i64 0)]
  | .bad e => .tup [.v (.string ⟨#[]⟩), .v (.int .i64 0), .v (.int .i64 (if e = 2 then 2 else 3))]
theorem lineT_ok (n : Nat) (s rest : List UInt8) : lineT n (.ok s rest) = .tup [.v (.string (bs s)), .v (.int .i64 ((n - rest.length : Nat) : Int)), .v (.int .i64 1)] := rfl
theorem lineT_wait (n : Nat) : lineT n .wait = .tup [.v (.string ⟨#[]⟩), .v (.int .i64 0), .v (.int .i64 0)] := rfl
theorem rows_at (b : List UInt8) (p k : Nat) : ((b.map byteT).take (p + k)).drop p = ((b.drop p).take k).map byteT := by
  rw [← List.map_take, ← List.map_drop, List.drop_take]
  congr 2; omega
theorem take_snocD {b : List UInt8} {p k : Nat} (h : p + k < b.length) : (b.drop p).take k ++ [b[p + k]] = (b.drop p).take (k + 1) := by
  have : k < (b.drop p).length := by rw [List.length_drop]; omega
  rw [List.take_succ_eq_append_getElem this, List.getElem_drop]
set_option maxRecDepth 100000 in
set_option maxHeartbeats 4000000 in
theorem refLine_ (b : List UInt8) (hb : b.length ≤ 100000) (p : Nat) (hp : p ≤ b.length) : PCalls Tryz.prog 96 [.sl 1 (b.map byteT), .v (.int .i64 (p : Int))] (lineT b.length (scan [] (b.drop p))) := by
  have hml : (b.map byteT).length = b.length := List.length_map _
  refine pcalls_of Tryz.func96 rfl rfl Tryz.ntmps96 rfl ?_
  repeat' (first | refine rg 0 (aq21 ?_) | refine rg 1 (aq4 ?_) | refine gc ?_ | refine ct ?_ | refine cf ?_ | refine sc ?_ ?_ <;> intro hc | refine rq rfl (rt (rt (rt .nil))) ?_)
  refine swp_for (fun k => ⟨[(0, .t (.sl 1 (b.map byteT))), (1, .t (.v (.int .i64 (p : Int)))), (7, .t (.v (.int .i64 ((p + k : Nat) : Int))))], [], []⟩) (fun k => scan [] (b.drop p) = scan ((b.drop p).take k) (b.drop (p + k)) ∧ k ≤ 578) (b.length - p) (weak_sub (.cons rfl rfl rfl (.cons rfl rfl rfl (.cons rfl rfl rfl .nil))) .nil .nil) ⟨by simp, by omega⟩ ?_
  intro k hk ⟨hI, hk5⟩
  by_cases hlt : p + k < b.length
  · have hmk : (b.map byteT)[p + k]? = some (byteT b[p + k]) := map_at hlt
    have hd : b.drop (p + k) = b[p + k] :: b.drop (p + k + 1) := List.drop_eq_getElem_cons hlt
    have htk := take_snocD hlt
    have hlen : ((b.drop p).take k).length = k := by rw [List.length_take, List.length_drop]; omega
    have hrows := rows_at b p k
    rw [hd] at hI
    generalize b[p + k] = c at *
    rw [scan_cons] at hI
    by_cases h10 : c.toNat = 10
    · rw [if_pos h10] at hI
      rw [hI]
      repeat' (first | refine rg 2 (aq1 ?_) | refine rg 4 (aq182 ?_) | refine rg 5 (aq21 ?_) | refine gc ?_ | refine ct ?_ | refine cf ?_ | refine sc ?_ ?_ <;> intro hc | refine rq rfl (rt (rt (rt .nil))) ?_)
      rfl
    · rw [if_neg h10] at hI
      by_cases h13 : c.toNat = 13
      · rw [if_pos h13] at hI
        by_cases hl2 : p + k + 1 < b.length
        · have hmk2 : (b.map byteT)[p + k + 1]? = some (byteT b[p + k + 1]) := map_at hl2
          have hd2 : b.drop (p + k + 1) = b[p + k + 1] :: b.drop (p + k + 2) := List.drop_eq_getElem_cons hl2
          rw [hd2] at hI
          generalize b[p + k + 1] = d at *
          simp only at hI
          by_cases hd10 : d.toNat = 10
          · rw [if_pos hd10] at hI
            rw [hI]
            have e1 : (!decide ((d.toNat : Int) = 10)) = false := by rw [decide_eq_true (by omega)]; rfl
            have e2 : b.length - (b.drop (p + k + 2)).length = p + k + 2 := by rw [List.length_drop]; omega
            have hsl : T.sl 1 (((b.map byteT).take (p + k)).drop p) = T.sl 1 (((b.drop p).take k).map byteT) := by rw [hrows]
            have e3 : lineT b.length (.ok ((b.drop p).take k) (b.drop (p + k + 2))) = .tup [.v (.string (bs ((b.drop p).take k))), .v (.int .i64 ((p + k + 2 : Nat) : Int)), .v (.int .i64 1)] := by
              show T.tup [_, .v (.int .i64 ((b.length - (b.drop (p + k + 2)).length : Nat) : Int)), _] = _
              rw [e2]
            rw [e3]
            repeat' (first | refine rg 2 (aq1 ?_) | refine rg 4 (aq182 ?_) | refine rg 6 (aq182 ?_) | refine rg 7 (aq196 ?_) | refine rg 9 (aq197 ?_) | (refine rg 11 ?_; refine oMv ?_; refine oMv ?_; refine oMv ?_; refine sp (po_slice rfl rfl (by exact .t _) (tyS rfl) (by first | rfl | exact ⟨_, rfl⟩) (by first | rfl | exact ⟨_, rfl⟩) (by omega) (by omega)) ?_; refine sp (po_bytes_str (l := (b.drop p).take k) rfl rfl (vws_eq hsl) byt23 (tyR rfl)) ?_; refine oMv ?_; (first | refine sp (xinc rfl) ?_ | refine sp (xadd rfl) ?_); refine oAs ?_; refine oAs ?_; refine oAs ?_; refine oN ?_) | refine gc ?_ | refine ct ?_ | refine cf ?_ | refine sc ?_ ?_ <;> intro hc | refine rq rfl (rt (rt (rt .nil))) ?_)
            rfl
          · rw [if_neg hd10] at hI
            rw [hI]
            have e1 : (!decide ((d.toNat : Int) = 10)) = true := by rw [decide_eq_false (by omega)]; rfl
            repeat' (first | refine rg 2 (aq1 ?_) | refine rg 4 (aq182 ?_) | refine rg 6 (aq182 ?_) | refine rg 7 (aq196 ?_) | refine rg 9 (aq197 ?_) | refine rg 10 (aq21 ?_) | refine gc ?_ | refine ct ?_ | refine cf ?_ | refine sc ?_ ?_ <;> intro hc | refine rq rfl (rt (rt (rt .nil))) ?_)
            rfl
        · have hd2 : b.drop (p + k + 1) = [] := List.drop_eq_nil_of_le (by omega)
          rw [hd2] at hI
          simp only at hI
          rw [hI]
          repeat' (first | refine rg 2 (aq1 ?_) | refine rg 4 (aq182 ?_) | refine rg 6 (aq182 ?_) | refine rg 7 (aq196 ?_) | refine rg 8 (aq21 ?_) | refine gc ?_ | refine ct ?_ | refine cf ?_ | refine sc ?_ ?_ <;> intro hc | refine rq rfl (rt (rt (rt .nil))) ?_)
          rfl
      · rw [if_neg h13] at hI
        by_cases h5 : 578 ≤ k
        · rw [hlen, if_pos h5] at hI
          rw [hI]
          repeat' (first | refine rg 2 (aq1 ?_) | refine rg 4 (aq182 ?_) | refine rg 6 (aq182 ?_) | (refine rg 12 (aq16 ?_); (first | refine sp (po_dec rfl rfl rfl (by omega)) ?_ | refine sp (po_arith rfl rfl rfl (ar_sub (by first | rfl | (refine wrap_i64 ?_; omega)) rfl)) ?_); refine aq6 ?_) | refine rg 13 (aq21 ?_) | refine gc ?_ | refine ct ?_ | refine cf ?_ | refine sc ?_ ?_ <;> intro hc | refine rq rfl (rt (rt (rt .nil))) ?_)
          rfl
        · rw [hlen, if_neg h5, htk] at hI
          repeat' (first | refine for_next (by omega) (weak_sub (.cons rfl rfl rfl (.cons rfl rfl rfl (.cons rfl rfl rfl .nil))) .nil .nil) ⟨hI, by omega⟩ | refine rg 2 (aq1 ?_) | refine rg 4 (aq182 ?_) | refine rg 6 (aq182 ?_) | (refine rg 12 (aq16 ?_); (first | refine sp (po_dec rfl rfl rfl (by omega)) ?_ | refine sp (po_arith rfl rfl rfl (ar_sub (by first | rfl | (refine wrap_i64 ?_; omega)) rfl)) ?_); refine aq6 ?_) | refine rg 3 (aq3 ?_) | refine gc ?_ | refine ct ?_ | refine cf ?_)
  · have hd : b.drop (p + k) = [] := List.drop_eq_nil_of_le (by omega)
    rw [hd] at hI
    have e : scan ((b.drop p).take k) [] = .wait := by unfold scan; rfl
    rw [hI, e]
    repeat' (first | refine rg 2 (aq1 ?_) | refine rg 14 (aq21 ?_) | refine gc ?_ | refine ct ?_ | refine cf ?_ | refine sc ?_ ?_ <;> intro hc | refine rq rfl (rt (rt (rt .nil))) ?_)
    rfl
def faultN (h : Int) : Int := if h = 2 then 2 else if h = 3 then 6 else 0
set_option maxRecDepth 100000 in
theorem refFault_ (h : Int) : PCalls Tryz.prog 97 [.v (.int .i64 h)] (.v (.int .i64 (faultN h))) := by
  unfold faultN
  refine pcalls_of Tryz.func97 rfl rfl Tryz.ntmps97 rfl ?_
  by_cases h2 : h = 2
  · rw [if_pos h2]
    repeat' (first | refine rg 0 (aq0 ?_) | refine rg 1 (aq22 ?_) | refine rg 2 (aq0 ?_) | refine gc ?_ | refine ct ?_ | refine cf ?_ | refine sc ?_ ?_ <;> intro hc | refine rq rfl (rt .nil) ?_)
    rfl
  · rw [if_neg h2]
    by_cases h3 : h = 3
    · rw [if_pos h3]
      repeat' (first | refine rg 0 (aq0 ?_) | refine rg 1 (aq22 ?_) | refine rg 3 (aq22 ?_) | refine rg 4 (aq0 ?_) | refine gc ?_ | refine ct ?_ | refine cf ?_ | refine sc ?_ ?_ <;> intro hc | refine rq rfl (rt .nil) ?_)
      rfl
    · rw [if_neg h3]
      repeat' (first | refine rg 0 (aq0 ?_) | refine rg 1 (aq22 ?_) | refine rg 3 (aq22 ?_) | refine rg 5 (aq0 ?_) | refine gc ?_ | refine ct ?_ | refine cf ?_ | refine sc ?_ ?_ <;> intro hc | refine rq rfl (rt .nil) ?_)
      rfl
abbrev digS : ByteArray := ⟨#[48, 49, 50, 51, 52, 53, 54, 55, 56, 57, 97, 98, 99, 100, 101, 102, 65, 66, 67, 68, 69, 70]⟩
def hexQ (c : UInt8) : Int := if hexB c then digP c else -1
def hexR (k : Nat) : Int := if 15 < k then (k : Int) - 6 else (k : Int)
theorem digS_at : ∀ k : Fin 22, hexQ (digS[k.1]'(k.2)) = hexR k.1 := by decide
theorem hexQ_all : (List.range 256).all (fun n => decide (hexQ (UInt8.ofNat n) = -1) || (List.range 22).any (fun k => decide ((digS.get! k).toNat = n))) = true := by kernel_rfl
theorem digS_miss {c : UInt8} (h : ∀ k (hk : k < 22), (digS[k]'hk).toNat ≠ c.toNat) : hexQ c = -1 := by
  have := (List.all_eq_true.1 hexQ_all) c.toNat (List.mem_range.2 c.toNat_lt)
  rw [UInt8.ofNat_toNat, Bool.or_eq_true] at this
  rcases this with h1 | h1
  · simpa using h1
  · obtain ⟨k, hk, he⟩ := List.any_eq_true.1 h1
    have hk := List.mem_range.1 hk
    have e : digS.get! k = digS[k]'hk := by
      show digS.data[k]! = digS.data[k]'hk
      exact getElem!_pos digS.data k hk
    rw [decide_eq_true_eq, e] at he
    exact absurd he (h k hk)
set_option maxRecDepth 100000 in
set_option maxHeartbeats 2000000 in
theorem refHex_ (c : UInt8) : PCalls Tryz.prog 147 [.v (.int .u8 (c.toNat : Int))] (.v (.int .i64 (hexQ c))) := by
  refine pcalls_of Tryz.func147 rfl rfl Tryz.ntmps147 rfl ?_
  repeat' (first | refine rg 0 (aq0 ?_) | refine rg 1 (aq0 ?_) | refine gc ?_ | refine ct ?_ | refine cf ?_ | refine sc ?_ ?_ <;> intro hc | refine rq rfl (rt .nil) ?_)
  refine swp_for (fun k => ⟨[(0, .t (.v (.int .u8 (c.toNat : Int)))), (3, .t (.v (.int .i64 (k : Int))))], [], []⟩) (fun k => ∀ j (hj : j < 22), j < k → (digS[j]'hj).toNat ≠ c.toNat) 22 (weak_sub (.cons rfl rfl rfl (.cons rfl rfl rfl .nil)) .nil .nil) (fun j hj h => by omega) ?_
  intro k hk hI
  have h22 : digS.size = 22 := rfl
  by_cases hlt : k < 22
  · have hq := digS_at ⟨k, hlt⟩
    have hlt' : k < digS.size := hlt
    simp only at hq
    by_cases he : (digS[k]'hlt').toNat = c.toNat
    · have hc : digS[k]'hlt' = c := UInt8.toNat_inj.1 he
      rw [hc] at hq
      rw [hq]
      unfold hexR
      have e1 : decide (((digS[k]'hlt').toNat : Int) = (c.toNat : Int)) = true := by rw [he]; simp
      by_cases h15 : 15 < k
      · rw [if_pos h15]
        repeat' (first | refine rg 2 (aq22 ?_) | refine rg 4 (aq155 ?_) | refine rg 5 (aq22 ?_) | (refine rg 6 ?_; refine oMv ?_; (first | refine sp (po_dec rfl rfl rfl (by omega)) ?_ | refine sp (po_arith rfl rfl rfl (ar_sub (by first | rfl | (refine wrap_i64 ?_; omega)) rfl)) ?_); refine aq0 ?_) | refine gc ?_ | refine ct ?_ | refine cf ?_ | refine sc ?_ ?_ <;> intro hc | refine rq rfl (rt .nil) ?_)
        rfl
      · rw [if_neg h15]
        repeat' (first | refine rg 2 (aq22 ?_) | refine rg 4 (aq155 ?_) | refine rg 5 (aq22 ?_) | refine rg 7 (aq4 ?_) | refine gc ?_ | refine ct ?_ | refine cf ?_ | refine sc ?_ ?_ <;> intro hc | refine rq rfl (rt .nil) ?_)
        rfl
    · have e1 : decide (((digS[k]'hlt').toNat : Int) = (c.toNat : Int)) = false := decide_eq_false (by omega)
      repeat' (first | refine for_next hlt (weak_sub (.cons rfl rfl rfl (.cons rfl rfl rfl .nil)) .nil .nil) (fun j hj h => by rcases Nat.lt_succ_iff_lt_or_eq.1 h with h | h; exact hI j hj h; subst h; exact he) | refine rg 2 (aq22 ?_) | refine rg 4 (aq155 ?_) | refine rg 3 (aq3 ?_) | refine gc ?_ | refine ct ?_ | refine cf ?_)
  · obtain rfl : k = 22 := by omega
    rw [digS_miss fun j hj => hI j hj hj]
    repeat' (first | refine rg 2 (aq22 ?_) | refine rg 8 (aq0 ?_) | refine gc ?_ | refine ct ?_ | refine cf ?_ | refine sc ?_ ?_ <;> intro hc | refine rq rfl (rt .nil) ?_)
    rfl
set_option maxRecDepth 100000 in
set_option maxHeartbeats 4000000 in
theorem refSize_ (s : ByteArray) (hs : s.size ≤ maxLen) : PCalls Tryz.prog 127 [.v (.string s)] (.v (.int .i64 (sizeP s))) := by
  unfold maxLen at hs
  have hl := toList_len s
  unfold sizeP
  refine pcalls_of Tryz.func127 rfl rfl Tryz.ntmps127 rfl ?_
  cases h0 : lead0 s with
  | true =>
    rcases lead0_yes h0 with h1 | ⟨h1, h2⟩
    · repeat' (first | refine rg 0 (aq0 ?_) | (refine rg 1 ?_; refine oMv ?_; refine sp (po_len_str rfl rfl (tyR rfl)) ?_; refine oCm ?_; refine oMv ?_; (first | refine oMv ?_ | refine oK ?_) <;> (first | refine sp (po_len_str rfl rfl (tyR rfl)) ?_ | refine oK ?_) <;> (first | refine oCm ?_ | refine oK ?_) <;> refine oPt ?_ <;> refine oMv ?_ <;> (first | refine oMv ?_ | refine oK ?_) <;> (first | refine sp (po_len_str rfl rfl (tyR rfl)) ?_ | refine oK ?_) <;> (first | refine oCm ?_ | refine oK ?_) <;> (first | refine oMv ?_ | refine oK ?_) <;> (first | refine oMv ?_ | refine oK ?_) <;> (first | refine sp (po_index_str (k := 0) rfl rfl rfl (tyR rfl) (by rfl) (by first | assumption | omega)) ?_ | refine oK ?_) <;> (first | refine oCm ?_ | refine oK ?_) <;> (first | refine oPt ?_ | refine oPf ?_ | refine oK ?_) <;> refine oPt ?_ <;> refine oN ?_) | refine rg 2 (aq0 ?_) | refine gc ?_ | refine ct ?_ | refine cf ?_ | refine sc ?_ ?_ <;> intro hc | refine rq rfl (rt .nil) ?_)
      rfl
    · have h3 := h2 (by omega)
      by_cases h4 : s.size ≤ 4
      · repeat' (first | refine rg 0 (aq0 ?_) | (refine rg 1 ?_; refine oMv ?_; refine sp (po_len_str rfl rfl (tyR rfl)) ?_; refine oCm ?_; refine oMv ?_; refine oMv ?_ <;> refine sp (po_len_str rfl rfl (tyR rfl)) ?_ <;> refine oCm ?_ <;> (first | refine oPt ?_ | refine oPf ?_) <;> refine oMv ?_ <;> refine oMv ?_ <;> refine sp (po_len_str rfl rfl (tyR rfl)) ?_ <;> refine oCm ?_ <;> refine oMv ?_ <;> refine oMv ?_ <;> refine sp (po_index_str (k := 0) rfl rfl rfl (tyR rfl) (by rfl) (by first | assumption | omega)) ?_ <;> refine oCm ?_ <;> refine oPt ?_ <;> (first | refine oPt ?_ | refine oPf ?_) <;> refine oN ?_) | refine rg 2 (aq0 ?_) | refine gc ?_ | refine ct ?_ | refine cf ?_ | refine sc ?_ ?_ <;> intro hc | refine rq rfl (rt .nil) ?_)
        rfl
      · repeat' (first | refine rg 0 (aq0 ?_) | (refine rg 1 ?_; refine oMv ?_; refine sp (po_len_str rfl rfl (tyR rfl)) ?_; refine oCm ?_; refine oMv ?_; refine oMv ?_ <;> refine sp (po_len_str rfl rfl (tyR rfl)) ?_ <;> refine oCm ?_ <;> (first | refine oPt ?_ | refine oPf ?_) <;> refine oMv ?_ <;> (first | refine oMv ?_ | refine oK ?_) <;> (first | refine sp (po_len_str rfl rfl (tyR rfl)) ?_ | refine oK ?_) <;> (first | refine oCm ?_ | refine oK ?_) <;> (first | refine oMv ?_ | refine oK ?_) <;> (first | refine oMv ?_ | refine oK ?_) <;> (first | refine sp (po_index_str (k := 0) rfl rfl rfl (tyR rfl) (by rfl) (by first | assumption | omega)) ?_ | refine oK ?_) <;> (first | refine oCm ?_ | refine oK ?_) <;> (first | refine oPt ?_ | refine oPf ?_ | refine oK ?_) <;> refine oPt ?_ <;> refine oN ?_) | refine rg 2 (aq0 ?_) | refine gc ?_ | refine ct ?_ | refine cf ?_ | refine sc ?_ ?_ <;> intro hc | refine rq rfl (rt .nil) ?_)
        rfl
  | false =>
    obtain ⟨h1, h2⟩ := lead0_no h0
    have h3 := h2 h1
    by_cases h4 : s.size ≤ 4
    · rw [decide_eq_true h4]
      have hcs : s.size ≤ 1 ∨ (1 < s.size ∧ s[0].toNat ≠ 48) := by
        by_cases h5 : s.size ≤ 1
        · exact .inl h5
        · exact .inr ⟨by omega, fun h => h5 (by have := h3 h; omega)⟩
      rcases hcs with h5 | ⟨h5, h6⟩
      all_goals
        repeat' (first | refine rg 0 (aq0 ?_) | (refine rg 1 ?_; refine oMv ?_; refine sp (po_len_str rfl rfl (tyR rfl)) ?_; refine oCm ?_; refine oMv ?_; refine oMv ?_ <;> refine sp (po_len_str rfl rfl (tyR rfl)) ?_ <;> refine oCm ?_ <;> (first | refine oPt ?_ | refine oPf ?_) <;> refine oMv ?_ <;> refine oMv ?_ <;> refine sp (po_len_str rfl rfl (tyR rfl)) ?_ <;> refine oCm ?_ <;> refine oMv ?_ <;> (first | refine oMv ?_ | refine oK ?_) <;> (first | refine sp (po_index_str (k := 0) rfl rfl rfl (tyR rfl) (by rfl) (by assumption)) ?_ | refine oK ?_) <;> (first | refine oCm ?_ | refine oK ?_) <;> (first | refine oPt ?_ | refine oPf ?_) <;> (first | refine oPt ?_ | refine oPf ?_) <;> refine oN ?_) | refine rg 3 (aq0 ?_) | refine rg 4 (aq0 ?_) | refine gc ?_ | refine ct ?_ | refine cf ?_ | refine sc ?_ ?_ <;> intro hc | refine rq rfl (rt .nil) ?_)
        refine swp_for (fun k => ⟨[(0, .t (.v (.string s))), (3, .t (.v (.int .i64 (sizeN (s.toList.take k))))), (4, .t (.v (.int .i64 (k : Int))))], [], []⟩) (fun k => (s.toList.take k).all hexB = true) s.size (weak_sub (.cons rfl rfl rfl (.cons rfl rfl rfl (.cons rfl rfl rfl .nil))) .nil .nil) rfl ?_
        intro k hk hI
        by_cases hlt : k < s.size
        · have hR := digP_rng s[k]
          have hc1 := refHex_ s[k]
          have hb := sizeN_4 (s.toList.take k) hI (k := k) (by simp; omega) (by omega)
          rw [List.take_take, Nat.min_self] at hb
          unfold hexQ at hc1
          cases hd : hexB s[k] with
          | true =>
            rw [hd, if_pos rfl] at hc1
            have hR := hR hd
            have hn := sizeN_snoc s.toList (k := k) (by omega)
            rw [toList_at s hlt] at hn
            have hsw : sizeN (s.toList.take k) * 16 + digP s[k] = 16 * sizeN (s.toList.take k) + digP s[k] := by omega
            repeat' (first | refine for_next hlt (weak_sub (.cons rfl (by rfl) rfl (.cons rfl (by first | rfl | (exact congrArg (fun n => A.t (T.v (Value.int .i64 n))) (by rw [hn]; omega))) rfl (.cons rfl (by rfl) rfl .nil))) .nil .nil) (all_snoc hI hlt hd) | refine rg 5 (aq24 ?_) | (refine rg 7 (aq33 ?_); refine oC (hc1) rfl (ac .nil) ?_; refine aq0 ?_) | refine rg 8 (aq22 ?_) | (refine rg 10 ?_; refine oMv ?_; refine sp (po_arith rfl rfl rfl (ar_mul (by first | rfl | (refine wrap_i64 ?_; omega)) rfl)) ?_; refine aq77 ?_) | refine rg 6 (aq3 ?_) | refine gc ?_ | refine ct ?_ | refine cf ?_)
          | false =>
            rw [hd, if_neg (by simp)] at hc1
            rw [all_bad hlt hd]
            repeat' (first | refine rg 5 (aq24 ?_) | (refine rg 7 (aq33 ?_); refine oC (hc1) rfl (ac .nil) ?_; refine aq0 ?_) | refine rg 8 (aq22 ?_) | refine rg 9 (aq0 ?_) | refine gc ?_ | refine ct ?_ | refine cf ?_ | refine sc ?_ ?_ <;> intro hc | refine rq rfl (rt .nil) ?_)
            rfl
        · obtain rfl : k = s.size := by omega
          rw [take_full s (Nat.lt_irrefl _)] at hI
          rw [hI, take_full s (Nat.lt_irrefl _)]
          repeat' (first | refine rg 5 (aq24 ?_) | refine rg 11 (aq4 ?_) | refine gc ?_ | refine ct ?_ | refine cf ?_ | refine sc ?_ ?_ <;> intro hc | refine rq rfl (rt .nil) ?_)
          rfl
    · rw [decide_eq_false h4]
      repeat' (first | refine rg 0 (aq0 ?_) | (refine rg 1 ?_; refine oMv ?_; refine sp (po_len_str rfl rfl (tyR rfl)) ?_; refine oCm ?_; refine oMv ?_; refine oMv ?_ <;> refine sp (po_len_str rfl rfl (tyR rfl)) ?_ <;> refine oCm ?_ <;> (first | refine oPt ?_ | refine oPf ?_) <;> refine oMv ?_ <;> (first | refine oMv ?_ | refine oK ?_) <;> (first | refine sp (po_len_str rfl rfl (tyR rfl)) ?_ | refine oK ?_) <;> (first | refine oCm ?_ | refine oK ?_) <;> (first | refine oMv ?_ | refine oK ?_) <;> (first | refine oMv ?_ | refine oK ?_) <;> (first | refine sp (po_index_str (k := 0) rfl rfl rfl (tyR rfl) (by rfl) (by assumption)) ?_ | refine oK ?_) <;> (first | refine oCm ?_ | refine oK ?_) <;> (first | refine oPt ?_ | refine oPf ?_ | refine oK ?_) <;> refine oPt ?_ <;> refine oN ?_) | refine rg 2 (aq0 ?_) | refine gc ?_ | refine ct ?_ | refine cf ?_ | refine sc ?_ ?_ <;> intro hc | refine rq rfl (rt .nil) ?_)
      rfl
end Go.Proofs.YtpncekdhigappaaGreatDoor.Rq
