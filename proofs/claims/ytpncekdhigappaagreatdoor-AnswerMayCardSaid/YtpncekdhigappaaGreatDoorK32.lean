/- Merged by bundles.py: SimAn9, SimCb, SimAn10, SimAn11. -/
import Derived.Test.YtpncekdhigappaaGreatDoorK31
import Derived.Test.YtpncekdhigappaaGreatDoorK11
import Derived.Test.YtpncekdhigappaaGreatDoorK4
import Derived.Lib.SlBytesConst
import Derived.Test.YtpncekdhigappaaGreatDoorK25
/- Answers: the chapter's examples; walks. -/
namespace Go.Proofs.YtpncekdhigappaaGreatDoor.An
set_option linter.unusedVariables false
set_option linter.unusedSimpArgs false
open Go.RowKit Mem Sim Opn Hd Str Rq
theorem k2 : (List.range 1025).all (fun n => decide (lenP (digitsP n) = ((n : Int), 0)) && mayValue (digitsP n)) = true := by kernel_rfl
theorem k2at {n : Nat} (h : n ≤ 1024) : lenP (digitsP n) = ((n : Int), 0) ∧ mayValue (digitsP n) = true := by
  have := (List.all_eq_true.1 k2) n (List.mem_range.2 (by omega))
  simp only [Bool.and_eq_true, decide_eq_true_eq] at this
  exact this
theorem clNm : mayName clS = true := by kernel_rfl
theorem fram_simp {n : Nat} (h : n ≤ 1024) : fram [⟨clS, digitsP n⟩] = (⟨0, 1, n⟩, 0) := by
  have h1 : valsOf clS [⟨clS, digitsP n⟩] = [digitsP n] := by simp [valsOf]
  have h2 : valsOf teS [⟨clS, digitsP n⟩] = [] := by
    have : clS ≠ teS := by decide
    simp [valsOf, this]
  unfold fram
  rw [h1, h2]
  show (if (lenP (digitsP n)).2 = 0 then ((⟨0, 1, (lenP (digitsP n)).1⟩ : BodyEnd), (0 : Int)) else ((⟨0, 0, 0⟩ : BodyEnd), (lenP (digitsP n)).2)) = _
  rw [(k2at h).1]; rfl
theorem mayL_simp {n : Nat} (h : n ≤ 1024) : mayL [⟨clS, digitsP n⟩] = true := by
  unfold mayL good
  simp [clNm, (k2at h).2]
theorem fits_simp {s : ByteArray} (h : s.size ≤ 1024) : fitsP [⟨clS, digitsP s.size⟩] s.toList = true := by
  unfold fitsP
  rw [fram_simp h, mayL_simp h]
  have hl := toList_len s
  simp [hl, h]
theorem mayA_simp {code : Int} {s : ByteArray} (h1 : 200 ≤ code) (h2 : code ≤ 599) (h : s.size ≤ 1024) : mayA (simpA code s) = true := by
  unfold mayA simpA
  rw [fits_simp h, decide_eq_true h1, decide_eq_true h2]; rfl
abbrev noS : ByteArray := ⟨#[110, 111]⟩
def noR : PRaw := ⟨startS 403, [⟨clS, digitsP 2⟩], noS.toList⟩
theorem k4w : wrP noR = true := by kernel_rfl
theorem k3s : (startS 403).size = 22 := by kernel_rfl
def noB : List UInt8 := [72, 84, 84, 80, 47, 49, 46, 49, 32, 52, 48, 51, 32, 70, 111, 114, 98, 105, 100, 100, 101, 110, 13, 10, 99, 111, 110, 116, 101, 110, 116, 45, 108, 101, 110, 103, 116, 104, 58, 32, 50, 13, 10, 13, 10, 110, 111]
theorem k4 : msgP noR = noB := by kernel_rfl
def l5 : List UInt8 := [72, 84, 84, 80, 47, 49, 46, 49, 32, 53, 48, 51, 32, 13, 10, 13, 10]
def r5 : PRaw := ⟨⟨#[72, 84, 84, 80, 47, 49, 46, 49, 32, 53, 48, 51, 32]⟩, [], []⟩
theorem k5 : rawsL l5 = ([r5], 0) := by kernel_rfl
def l6 : List UInt8 := [72, 84, 84, 80, 47, 49, 46, 49, 32, 50, 48, 48, 13, 10, 13, 10]
def r6 : PRaw := ⟨⟨#[72, 84, 84, 80, 47, 49, 46, 49, 32, 50, 48, 48]⟩, [], []⟩
theorem k6 : rawsL l6 = ([r6], 0) := by kernel_rfl
theorem k7 : ofP r5 = true := by kernel_rfl
theorem k7b : num3 (codeS r5.start) = 503 := by kernel_rfl
theorem k8 : ofP r6 = false := by kernel_rfl
theorem one5 : oneT l5 = .tup [.agg [.v (.int .i64 503), headsT [], .sl 1 (([] : List UInt8).map byteT)], .v (.int .i64 0)] := by
  unfold oneT
  rw [k5, if_neg (by decide)]
  show ofT r5 = _
  unfold ofT ansT ansOf
  rw [k7, if_pos rfl]
  show T.tup [.agg [.v (.int .i64 (num3 (codeS r5.start))), _, _], _] = _
  rw [k7b]; rfl
theorem one6 : oneT l6 = .tup [.agg ansT0, .v (.int .i64 2)] := by
  unfold oneT
  rw [k6, if_neg (by decide)]
  show ofT r6 = _
  unfold ofT
  rw [k8]; rfl
theorem simp403 : simpT 403 noS = .tup [.agg (ansT (simpA 403 noS)), .v (.int .i64 0)] := by
  unfold simpT
  rw [mayA_simp (by decide) (by decide) (by decide), if_pos rfl]
set_option maxRecDepth 100000 in
set_option maxHeartbeats 1000000 in
theorem bytes0_ : PCalls Tryz.prog 27 [.agg (ansT (simpA 403 noS))] (.tup [.sl 1 (noB.map byteT), .v (.int .i64 0)]) := by
  have hm := may_ (simpA 403 noS) (by decide) (fun h hh => by
    simp [simpA] at hh; subst hh
    exact ⟨cl_okA, by have := digitsP_size noS.size; show (digitsP noS.size).size ≤ maxLen; unfold maxLen; omega⟩) (by simp [simpA])
  rw [mayA_simp (by decide) (by decide) (by decide)] at hm
  have c2 := raw_ 403 (by decide) [⟨clS, digitsP 2⟩] noS.toList
  have c3 := writeOk_ noR ⟨by decide, fun h hh => by
    simp [noR] at hh; subst hh
    exact ⟨cl_okA, by have := digitsP_size 2; show (digitsP 2).size ≤ maxLen; unfold maxLen; omega⟩, by show noS.toList.length ≤ 100000; rw [toList_len]; decide, by show (startS 403).size ≤ maxLen; rw [k3s]; unfold maxLen; decide⟩ k4w
  rw [k4] at c3
  unfold noR at c3
  unfold ansT simpA at hm ⊢
  unfold ansT at c2
  unfold rawT at c2 c3
  refine pcalls_of Tryz.func27 rfl rfl Tryz.ntmps27 rfl ?_
  repeat' (first | refine then_go ?_ | refine swp_seq ?_ | (refine rg 0 ?_; refine sbx ?_; refine oAs ?_; refine oAs ?_; refine oN ?_) | (refine rg 1 ?_; (first | refine sp (po_load_bx_agg rfl rfl (tyT rfl) rfl (vc (vc (vc .nil))) rfl) ?_ | refine sp (po_load_agg rfl rfl (tyT rfl) rfl rfl) ?_); (first | refine oC (hm) rfl (ac .nil) ?_ | refine oC (c2) rfl (ac .nil) ?_ | refine oC (c3) rfl (ac .nil) ?_); refine sp (po_not rfl rfl) ?_; refine oN ?_) | (refine rg 3 ?_; (first | refine sp (po_load_bx_agg rfl rfl (tyT rfl) rfl (vc (vc (vc .nil))) rfl) ?_ | refine sp (po_load_agg rfl rfl (tyT rfl) rfl rfl) ?_); (first | refine oC (hm) rfl (ac .nil) ?_ | refine oC (c2) rfl (ac .nil) ?_ | refine oC (c3) rfl (ac .nil) ?_); (first | refine oC (hm) rfl (ac .nil) ?_ | refine oC (c2) rfl (ac .nil) ?_ | refine oC (c3) rfl (ac .nil) ?_); refine oEx ?_; refine oEx ?_; refine oAs ?_; refine oAs ?_; refine oN ?_) | refine gc ?_ | refine ct ?_ | refine cf ?_ | refine swp_cond rfl (fun hc => ?_) (fun hc => ?_) | refine rq rfl (rt (rt .nil)) ?_)
  rfl
end Go.Proofs.YtpncekdhigappaaGreatDoor.An

/- A logic of states: a constant text's bytes. -/
namespace Go.Proofs.YtpncekdhigappaaGreatDoor.Sim
set_option linter.unusedVariables false
set_option linter.unusedSimpArgs false
open Go.RowKit Mem
section
variable {P : Program} {N : Nat} {Q : Exit → St → Prop} {ops : Array Oper} {rest : List Oper} {o : Oper} {tm : List (Nat × A)} {bx : List (Nat × List A)} {ow : List (Nat × Own)}
/-- behind a constant's row: its conversion comes next -/
structure SMk (P : Program) (N : Nat) (ops : Array Oper) (Q : Exit → St → Prop) (d e : Nat) (rows : List (List T)) (l : List Oper) (st : St) : Prop where
  go : ∀ C a w m g, RelG C N st a w m g → ∀ vs : List Value, vs.length = rows.length * 1 → (∀ r ∈ rows, r.length = 1) → CellsAre m rows.flatten vs → wpList P ops (Good C N Q) l (a.put (some d) (.slice (some ⟨w.heap.size, 0, none⟩) rows.length rows.length)) (w.alloc (.cells vs.toArray e))
theorem sops_cb1 {t e by_ len d : Nat} {xs : List (Nat × Operand)} {rows : List (List T)} (hg : GuardIs ops tm o true) (ho : o.op = .buildSlice t len xs.toArray) (hd : o.dst = some d) (hT : sliceE P t = some (e, 1, by_)) (hx : DParts ow (evA tm) 1 0 xs rows) (hlen : rows.length = len) (h0 : Nat.blt 0 len = true) (hsm : Nat.ble (len * 1) (2 ^ 24) = true)
    (k : SMk P N ops Q d e rows rest ⟨tm, bx, ow⟩) : SOps P N ops Q (o :: rest) ⟨tm, bx, ow⟩ := by
  refine .mk fun C a w ⟨m, g, hr⟩ => ?_
  obtain ⟨vs, h1, h2, h3, h4, h5⟩ := hx.ok hr.env (a := a) (fun x _ y hy => hr.ev hy)
  have hrun := built_run (P := P) hT w vs h3 (by omega) (Nat.lt_of_succ_le (Nat.le_of_ble_eq_true h0)) hsm
  refine wpList_step fun K hK => ?_
  rw [if_pos (hg.wanted (m := m) (g := g) fun j want e _ _ y hy => hr.tmps e y hy)]
  subst hlen
  refine wp_of_run (v := .slice (some ⟨w.heap.size, 0, none⟩) rows.length rows.length) (w' := w.alloc (.cells (vs.flatMap fun v => v.cells.toList).toArray e)) ?_ (hK _ _ ?_)
  · simp only [execOp, ho, List.map_toArray]
    rw [show (xs.map fun x => (x.1, a.eval x.2)) = (vs.zipIdx 0).map (fun x => (x.2, x.1)) from h1, Sem.run_bind, hrun]; rfl
  · rw [hd]
    exact k.go C a w m g hr _ (by rw [flatMap_cells_len h3, h2]) h4 h5
theorem sops_cb2 {t e d d2 : Nat} {rows : List (List T)} (hg : GuardIs ops ((d, .t (.sl 1 rows)) :: tm) o true) (ho : o.op = .convert t t (.tmp d)) (hd : o.dst = some d2) (hN : Nat.blt d N = true) (hN2 : Nat.blt d2 N = true) (hT : byE P t = some e) (hsm : Nat.ble rows.length (2 ^ 24) = true)
    (h : SOps P N ops Q rest ⟨(d2, .t (.sl 1 rows)) :: (d, .t (.sl 1 rows)) :: tm, bx, ow⟩) : SMk P N ops Q d e rows (o :: rest) ⟨tm, bx, ow⟩ := by
  refine .mk fun C a w m g hr vs hl h4 h5 => ?_
  obtain ⟨t1, t2⟩ := byE_spec hT
  have hle := Nat.le_of_ble_eq_true hsm
  have hrl : rows.length ≤ maxLen := by unfold maxLen; omega
  have hd1 : d < N := Nat.lt_of_succ_le (Nat.le_of_ble_eq_true hN)
  have hlo : Lo w (w.alloc (.cells vs.toArray e (vs.toArray.size, vs.toArray.size + 1))) := (Lo.refl w).alloc _
  have hs := upm_sub hr.env.sub hlo
  have he := ext_upm (w' := w.alloc (.cells vs.toArray e (vs.toArray.size, vs.toArray.size + 1))) hr.env.sub
  have hnew : (w.alloc (.cells vs.toArray e (vs.toArray.size, vs.toArray.size + 1))).heap[w.heap.size]? = some (.cells vs.toArray e (vs.toArray.size, vs.toArray.size + 1)) := heap_alloc_new w _
  have hTR : TR (upm m w (w.alloc (.cells vs.toArray e (vs.toArray.size, vs.toArray.size + 1)))) (.sl 1 rows) (.slice (some ⟨w.heap.size, 0, none⟩) rows.length rows.length) := by
    refine tr_owns (w := w.alloc (.cells vs.toArray e (vs.toArray.size, vs.toArray.size + 1))) (base := 0) (e := e) (vs := vs) ⟨hl, .inr ⟨w.heap.size, rows.length, vs.toArray, rfl, Nat.zero_le _, ⟨_, hnew, .inr (Nat.le_refl _)⟩, Nat.le_refl _, hrl, by simpa using hl, ?_⟩⟩ h4 (h5.mono he.1) ?_
    · simp only; rw [← hl]; exact List.take_length
    · intro b hb k u hu
      injection hb with hb; subst hb
      unfold upm
      rw [if_neg (Nat.lt_irrefl _)]
      unfold World.cell?
      rw [hnew]
      simpa using hu
  have R1 := hr.put (x := .t (.sl 1 rows)) (v := .slice (some ⟨w.heap.size, 0, none⟩) rows.length rows.length) (hr.env.step hlo he hs) (fun x v h => h.mono he.1) hd1 hTR
  have R2 := R1.put (d := d2) (x := .t (.sl 1 rows)) (v := .slice (some ⟨w.heap.size, 0, none⟩) rows.length rows.length) R1.env (fun x v h => h) (Nat.lt_of_succ_le (Nat.le_of_ble_eq_true hN2)) hTR
  refine wpList_step fun K hK => ?_
  rw [if_pos (hg.wanted (m := upm m w (w.alloc (.cells vs.toArray e (vs.toArray.size, vs.toArray.size + 1)))) (g := g) fun j want e _ _ y hy => R1.tmps e y hy)]
  refine wp_of_run (v := .slice (some ⟨w.heap.size, 0, none⟩) rows.length rows.length) (w' := w.alloc (.cells vs.toArray e (vs.toArray.size, vs.toArray.size + 1))) ?_ (hK _ _ (h.go C _ _ ⟨_, _, by rw [hd]; exact R2⟩))
  have hev := eval_put_same (a := a) (.slice (some ⟨w.heap.size, 0, none⟩) rows.length rows.length) hr.size hd1
  have hc := Lib.run_convert_bytes_const (P := P) w t e vs.toArray rows.length rows.length t1 t2
  simp only [execOp, ho, hev, Sem.run_bind, hc]
  rfl
end
end Go.Proofs.YtpncekdhigappaaGreatDoor.Sim

/- Answers: the chapter's examples, joined; walks. -/
namespace Go.Proofs.YtpncekdhigappaaGreatDoor.An
set_option linter.unusedVariables false
set_option linter.unusedSimpArgs false
open Go.RowKit Mem Sim Opn Hd Str Rq
set_option maxRecDepth 100000 in
set_option maxHeartbeats 4000000 in
theorem awake_ : PCalls Tryz.prog 16 [] (.v (.bool true)) := by
  have c1 := simple_ 403 noS (by decide)
  rw [simp403] at c1
  have c2 := bytes0_
  have c5 := one_ l5 (by decide) (by rw [k5]; intro r hr; simp at hr; subst hr; exact ⟨by decide, fun h hh => (by cases hh), by decide, by unfold maxLen; decide⟩)
  rw [one5] at c5
  have c6 := one_ l6 (by decide) (by rw [k6]; intro r hr; simp at hr; subst hr; exact ⟨by decide, fun h hh => (by cases hh), by decide, by unfold maxLen; decide⟩)
  rw [one6] at c6
  unfold ansT simpA at c1 c2
  refine pcalls_of Tryz.func16 rfl rfl Tryz.ntmps16 rfl ?_
  repeat' (first | refine then_go ?_ | refine swp_seq ?_ | (refine rg 0 ?_; (first | refine sp (po_bytes_str (l := noB) rfl rfl (.t _) byt23' rfl) ?_ | refine oAs ?_); refine oN ?_) | (refine rg 1 ?_; (first | refine sp (po_bytes_str (l := noB) rfl rfl (.t _) byt23' rfl) ?_ | refine oC (c1) rfl (ac (ac .nil)) ?_ | refine oC (c2) rfl (ac (ac .nil)) ?_ | refine oC (c5) rfl (ac (ac .nil)) ?_ | refine oC (c6) rfl (ac (ac .nil)) ?_); (first | refine sp (po_bytes_str (l := noB) rfl rfl (.t _) byt23' rfl) ?_ | refine oMv ?_); (first | refine sp (po_bytes_str (l := noB) rfl rfl (.t _) byt23' rfl) ?_ | refine oEx ?_); (first | refine sp (po_bytes_str (l := noB) rfl rfl (.t _) byt23' rfl) ?_ | refine oEx ?_); (first | refine sp (po_bytes_str (l := noB) rfl rfl (.t _) byt23' rfl) ?_ | refine sal str28 ?_); (first | refine spn (po_bytes_str (l := noB) rfl rfl (.t _) byt23' rfl) ?_ | refine oS ?_); (first | refine sp (po_bytes_str (l := noB) rfl rfl (.t _) byt23' rfl) ?_ | refine oAs ?_); refine oN ?_) | (refine rg 2 ?_; (first | refine sp (po_bytes_str (l := noB) rfl rfl (.t _) byt23' rfl) ?_ | refine sp (po_load_bx_agg rfl rfl (tyT rfl) rfl (vc (vc (vc .nil))) rfl) ?_ | refine sp (po_load_agg rfl rfl (tyT rfl) rfl rfl) ?_); (first | refine sp (po_bytes_str (l := noB) rfl rfl (.t _) byt23' rfl) ?_ | refine oC (c1) rfl (ac .nil) ?_ | refine oC (c2) rfl (ac .nil) ?_ | refine oC (c5) rfl (ac .nil) ?_ | refine oC (c6) rfl (ac .nil) ?_); (first | refine sp (po_bytes_str (l := noB) rfl rfl (.t _) byt23' rfl) ?_ | refine oMv ?_); (first | refine sp (po_bytes_str (l := noB) rfl rfl (.t _) byt23' rfl) ?_ | refine oEx ?_); (first | refine sp (po_bytes_str (l := noB) rfl rfl (.t _) byt23' rfl) ?_ | refine oEx ?_); (first | refine sp (po_bytes_str (l := noB) rfl rfl (.t _) byt23' rfl) ?_ | refine oAs ?_); (first | refine sp (po_bytes_str (l := noB) rfl rfl (.t _) byt23' rfl) ?_ | refine oAs ?_); refine oN ?_) | (refine rg 3 ?_; refine sops_cb1 (.free rfl rfl) rfl rfl (tyE rfl) (dc (dc (dc (dc (dc (dc (dc (dc (dc (dc (dc (dc (dc (dc (dc (dc (dc (.nil _)))))))))))))))))) rfl rfl rfl ?_; refine sops_cb2 (.free rfl rfl) rfl rfl rfl rfl byt23 rfl ?_; (first | refine sp (po_bytes_str (l := noB) rfl rfl (.t _) byt23' rfl) ?_ | refine oC (c1) rfl (ac .nil) ?_ | refine oC (c2) rfl (ac .nil) ?_ | refine oC (c5) rfl (ac .nil) ?_ | refine oC (c6) rfl (ac .nil) ?_); (first | refine sp (po_bytes_str (l := noB) rfl rfl (.t _) byt23' rfl) ?_ | refine oMv ?_); (first | refine sp (po_bytes_str (l := noB) rfl rfl (.t _) byt23' rfl) ?_ | refine oEx ?_); (first | refine sp (po_bytes_str (l := noB) rfl rfl (.t _) byt23' rfl) ?_ | refine oEx ?_); (first | refine sp (po_bytes_str (l := noB) rfl rfl (.t _) byt23' rfl) ?_ | refine sal str28 ?_); (first | refine spn (po_bytes_str (l := noB) rfl rfl (.t _) byt23' rfl) ?_ | refine oS ?_); (first | refine sp (po_bytes_str (l := noB) rfl rfl (.t _) byt23' rfl) ?_ | refine oAs ?_); refine oN ?_) | (refine rg 4 ?_; refine sops_cb1 (.free rfl rfl) rfl rfl (tyE rfl) (dc (dc (dc (dc (dc (dc (dc (dc (dc (dc (dc (dc (dc (dc (dc (dc (.nil _))))))))))))))))) rfl rfl rfl ?_; refine sops_cb2 (.free rfl rfl) rfl rfl rfl rfl byt23 rfl ?_; (first | refine sp (po_bytes_str (l := noB) rfl rfl (.t _) byt23' rfl) ?_ | refine oC (c1) rfl (ac .nil) ?_ | refine oC (c2) rfl (ac .nil) ?_ | refine oC (c5) rfl (ac .nil) ?_ | refine oC (c6) rfl (ac .nil) ?_); (first | refine sp (po_bytes_str (l := noB) rfl rfl (.t _) byt23' rfl) ?_ | refine oMv ?_); (first | refine sp (po_bytes_str (l := noB) rfl rfl (.t _) byt23' rfl) ?_ | refine oEx ?_); (first | refine sp (po_bytes_str (l := noB) rfl rfl (.t _) byt23' rfl) ?_ | refine oEx ?_); (first | refine sp (po_bytes_str (l := noB) rfl rfl (.t _) byt23' rfl) ?_ | refine sal str28 ?_); (first | refine spn (po_bytes_str (l := noB) rfl rfl (.t _) byt23' rfl) ?_ | refine oS ?_); (first | refine sp (po_bytes_str (l := noB) rfl rfl (.t _) byt23' rfl) ?_ | refine oAs ?_); refine oN ?_) | (refine rg 5 ?_; (first | refine sp (po_bytes_str (l := noB) rfl rfl (.t _) byt23' rfl) ?_ | refine oMv ?_); (first | refine sp (po_bytes_str (l := noB) rfl rfl (.t _) byt23' rfl) ?_ | refine oCm ?_); (first | refine sp (po_bytes_str (l := noB) rfl rfl (.t _) byt23' rfl) ?_ | refine oMv ?_); (first | refine sp (po_bytes_str (l := noB) rfl rfl (.t _) byt23' rfl) ?_ | refine oMv ?_ | refine oK ?_ | ((refine ssp (fun hc => ?_) (fun hc => ?_)) <;> first | refine sp (po_bytes_str (l := noB) rfl rfl (.t _) byt23' rfl) ?_ | refine oMv ?_ | refine oK ?_)) <;> (first | refine sp (po_bytes_str (l := noB) rfl rfl (.t _) byt23' rfl) ?_ | refine oCm ?_ | refine oK ?_) <;> (first | refine sp (po_bytes_str (l := noB) rfl rfl (.t _) byt23' rfl) ?_ | refine oPt ?_ | refine oPf ?_) <;> (first | refine sp (po_bytes_str (l := noB) rfl rfl (.t _) byt23' rfl) ?_ | refine oMv ?_) <;> (first | refine sp (po_bytes_str (l := noB) rfl rfl (.t _) byt23' rfl) ?_ | refine oMv ?_ | refine oK ?_ | ((refine ssp (fun hc => ?_) (fun hc => ?_)) <;> first | refine sp (po_bytes_str (l := noB) rfl rfl (.t _) byt23' rfl) ?_ | refine oMv ?_ | refine oK ?_)) <;> (first | refine sp (po_bytes_str (l := noB) rfl rfl (.t _) byt23' rfl) ?_ | refine sp (po_bytes_str rfl rfl (by first | exact .t _ | exact .own rfl (by first | rfl | assumption | omega | (simp; done) | (simp; omega) | (simp at *; omega)) | exact .nil _ | exact .emp _) byt23 (tyR rfl)) ?_ | refine oK ?_) <;> (first | refine sp (po_bytes_str (l := noB) rfl rfl (.t _) byt23' rfl) ?_ | refine sp (po_str rfl rfl rfl rfl) ?_ | refine oK ?_) <;> (first | refine sp (po_bytes_str (l := noB) rfl rfl (.t _) byt23' rfl) ?_ | refine oPt ?_ | refine oPf ?_) <;> (first | refine sp (po_bytes_str (l := noB) rfl rfl (.t _) byt23' rfl) ?_ | refine oMv ?_) <;> (first | refine sp (po_bytes_str (l := noB) rfl rfl (.t _) byt23' rfl) ?_ | refine oMv ?_ | refine oK ?_ | ((refine ssp (fun hc => ?_) (fun hc => ?_)) <;> first | refine sp (po_bytes_str (l := noB) rfl rfl (.t _) byt23' rfl) ?_ | refine oMv ?_ | refine oK ?_)) <;> (first | refine sp (po_bytes_str (l := noB) rfl rfl (.t _) byt23' rfl) ?_ | refine oCm ?_ | refine oK ?_) <;> (first | refine sp (po_bytes_str (l := noB) rfl rfl (.t _) byt23' rfl) ?_ | refine oPt ?_ | refine oPf ?_) <;> (first | refine sp (po_bytes_str (l := noB) rfl rfl (.t _) byt23' rfl) ?_ | refine oMv ?_) <;> (first | refine sp (po_bytes_str (l := noB) rfl rfl (.t _) byt23' rfl) ?_ | refine oFb ?_ | refine oFd ?_ | refine oK ?_ | ((refine ssp (fun hc => ?_) (fun hc => ?_)) <;> first | refine sp (po_bytes_str (l := noB) rfl rfl (.t _) byt23' rfl) ?_ | refine oFb ?_ | refine oFd ?_ | refine oK ?_)) <;> (first | refine sp (po_bytes_str (l := noB) rfl rfl (.t _) byt23' rfl) ?_ | refine oLb ?_ | refine oLd ?_ | refine oK ?_) <;> (first | refine sp (po_bytes_str (l := noB) rfl rfl (.t _) byt23' rfl) ?_ | refine oCm ?_ | refine oK ?_) <;> (first | refine sp (po_bytes_str (l := noB) rfl rfl (.t _) byt23' rfl) ?_ | refine oPt ?_ | refine oPf ?_) <;> (first | refine sp (po_bytes_str (l := noB) rfl rfl (.t _) byt23' rfl) ?_ | refine oMv ?_) <;> (first | refine sp (po_bytes_str (l := noB) rfl rfl (.t _) byt23' rfl) ?_ | refine oMv ?_ | refine oK ?_ | ((refine ssp (fun hc => ?_) (fun hc => ?_)) <;> first | refine sp (po_bytes_str (l := noB) rfl rfl (.t _) byt23' rfl) ?_ | refine oMv ?_ | refine oK ?_)) <;> (first | refine sp (po_bytes_str (l := noB) rfl rfl (.t _) byt23' rfl) ?_ | refine oCm ?_ | refine oK ?_) <;> (first | refine sp (po_bytes_str (l := noB) rfl rfl (.t _) byt23' rfl) ?_ | refine oPt ?_ | refine oPf ?_) <;> (first | refine sp (po_bytes_str (l := noB) rfl rfl (.t _) byt23' rfl) ?_ | refine oAs ?_) <;> (refine oN ?_)) | refine gc ?_ | refine ct ?_ | refine cf ?_ | refine swp_cond rfl (fun hc => ?_) (fun hc => ?_) | refine rq rfl (rt .nil) ?_)
  rfl
end Go.Proofs.YtpncekdhigappaaGreatDoor.An

/- Answers: their bytes; what is gone through; walks. -/
namespace Go.Proofs.YtpncekdhigappaaGreatDoor.An
set_option linter.unusedVariables false
set_option linter.unusedSimpArgs false
open Go.RowKit Mem Sim Opn Hd Str Rq
theorem start_all : (List.range 600).all (fun n => decide (n < 200) || (plainP (startS n) && decide (1 ≤ (startS n).size) && decide ((startS n).size ≤ 578) && hasP (startS n) befS && isS (startS n) && plainP (reasS (startS n)) && decide (num3 (codeS (startS n)) = (n : Int)))) = true := by kernel_rfl
structure StartOk (n : Nat) : Prop where
  plain : plainP (startS n) = true
  one : 1 ≤ (startS n).size
  most : (startS n).size ≤ 578
  has : hasP (startS n) befS = true
  is : isS (startS n) = true
  reas : plainP (reasS (startS n)) = true
  num : num3 (codeS (startS n)) = (n : Int)
theorem start_ok {n : Nat} (h1 : 200 ≤ n) (h2 : n ≤ 599) : StartOk n := by
  have := (List.all_eq_true.1 start_all) n (List.mem_range.2 (by omega))
  rw [decide_eq_false (show ¬ n < 200 by omega)] at this
  simp only [Bool.false_or, Bool.and_eq_true, decide_eq_true_eq] at this
  obtain ⟨⟨⟨⟨⟨⟨q1, q2⟩, q3⟩, q4⟩, q5⟩, q6⟩, q7⟩ := this
  exact ⟨q1, q2, q3, q4, q5, q6, q7⟩
/-- an answer as a message -/
def rawOf (a : PAns) : PRaw := ⟨startS a.code.toNat, a.heads, a.body⟩
theorem may_code {a : PAns} (h : mayA a = true) : ∃ n : Nat, a.code = (n : Int) ∧ 200 ≤ n ∧ n ≤ 599 ∧ fitsP a.heads a.body = true := by
  unfold mayA at h
  simp only [Bool.and_eq_true, decide_eq_true_eq] at h
  obtain ⟨⟨h1, h2⟩, h3⟩ := h
  exact ⟨a.code.toNat, by omega, by omega, by omega, h3⟩
theorem may_wr {a : PAns} (h : mayA a = true) : wrP (rawOf a) = true := by
  obtain ⟨n, hn, h1, h2, hf⟩ := may_code h
  have hs := start_ok h1 h2
  have e : a.code.toNat = n := by omega
  unfold wrP rawOf
  rw [e]
  simp only [hs.plain, decide_eq_true hs.one, decide_eq_true hs.most, hf, Bool.and_true]
def bytesT (a : PAns) : T := if mayA a then .tup [.sl 1 ((msgP (rawOf a)).map byteT), .v (.int .i64 0)] else .tup [.v (.slice none 0 0), .v (.int .i64 1)]
set_option maxRecDepth 100000 in
set_option maxHeartbeats 2000000 in
theorem bytesA_ (a : PAns) (hn : a.heads.length ≤ 1000) (hh : ∀ h ∈ a.heads, okHead h) (hb : a.body.length ≤ 100000) : PCalls Tryz.prog 27 [.agg (ansT a)] (bytesT a) := by
  have hm := may_ a hn hh hb
  unfold bytesT
  cases h : mayA a with
  | false =>
    rw [h] at hm
    unfold ansT at hm ⊢
    refine pcalls_of Tryz.func27 rfl rfl Tryz.ntmps27 rfl ?_
    repeat' (first | refine then_go ?_ | refine swp_seq ?_ | (refine rg 0 ?_; refine sbx ?_; refine oAs ?_; refine oAs ?_; refine oN ?_) | (refine rg 1 ?_; (first | refine sp (po_load_bx_agg rfl rfl (tyT rfl) rfl (vc (vc (vc .nil))) rfl) ?_ | refine sp (po_load_agg rfl rfl (tyT rfl) rfl rfl) ?_); refine oC (hm) rfl (ac .nil) ?_; refine sp (po_not rfl rfl) ?_; refine oN ?_) | (refine rg 2 ?_; refine oAs ?_; refine oAs ?_; refine oN ?_) | refine gc ?_ | refine ct ?_ | refine cf ?_ | refine swp_cond rfl (fun hc => ?_) (fun hc => ?_) | refine rq rfl (rt (rt .nil)) ?_)
    rfl
  | true =>
    rw [h] at hm
    have hw := may_wr h
    obtain ⟨n, hc, h1, h2, hf⟩ := may_code h
    have hs := start_ok h1 h2
    have e : a.code.toNat = n := by omega
    have c3 := writeOk_ (rawOf a) ⟨hn, hh, hb, by show (startS a.code.toNat).size ≤ maxLen; rw [e]; have := hs.most; unfold maxLen; omega⟩ hw
    have c2 := raw_ n (by omega) a.heads a.body
    unfold rawT rawOf at c3
    rw [e] at c3
    unfold rawOf
    rw [e]
    unfold ansT at hm c2 ⊢
    rw [hc] at hm ⊢
    unfold rawT at c2
    refine pcalls_of Tryz.func27 rfl rfl Tryz.ntmps27 rfl ?_
    repeat' (first | refine then_go ?_ | refine swp_seq ?_ | (refine rg 0 ?_; refine sbx ?_; refine oAs ?_; refine oAs ?_; refine oN ?_) | (refine rg 1 ?_; (first | refine sp (po_load_bx_agg rfl rfl (tyT rfl) rfl (vc (vc (vc .nil))) rfl) ?_ | refine sp (po_load_agg rfl rfl (tyT rfl) rfl rfl) ?_); (first | refine oC (hm) rfl (ac .nil) ?_ | refine oC (c2) rfl (ac .nil) ?_ | refine oC (c3) rfl (ac .nil) ?_); refine sp (po_not rfl rfl) ?_; refine oN ?_) | (refine rg 3 ?_; (first | refine sp (po_load_bx_agg rfl rfl (tyT rfl) rfl (vc (vc (vc .nil))) rfl) ?_ | refine sp (po_load_agg rfl rfl (tyT rfl) rfl rfl) ?_); (first | refine oC (hm) rfl (ac .nil) ?_ | refine oC (c2) rfl (ac .nil) ?_ | refine oC (c3) rfl (ac .nil) ?_); (first | refine oC (hm) rfl (ac .nil) ?_ | refine oC (c2) rfl (ac .nil) ?_ | refine oC (c3) rfl (ac .nil) ?_); refine oEx ?_; refine oEx ?_; refine oAs ?_; refine oAs ?_; refine oN ?_) | refine gc ?_ | refine ct ?_ | refine cf ?_ | refine swp_cond rfl (fun hc => ?_) (fun hc => ?_) | refine rq rfl (rt (rt .nil)) ?_)
    rfl
def longA (a : PAns) : Bool := decide (3000 < a.body.length) || longH a.heads
set_option maxRecDepth 100000 in
theorem longA_ (a : PAns) : PCalls Tryz.prog 15 [.agg (ansT a)] (.v (.bool (longA a))) := by
  have hm2 : (a.body.map byteT).length = a.body.length := List.length_map _
  have c1 := long_ a.heads
  unfold longA
  refine pcalls_of Tryz.func15 rfl rfl Tryz.ntmps15 rfl ?_
  by_cases h : 3000 < a.body.length
  · rw [decide_eq_true h]
    repeat' (first | refine then_go ?_ | refine swp_seq ?_ | (refine rg 0 ?_; refine sbx ?_; refine oAs ?_; refine oN ?_) | (refine rg 1 ?_; (first | refine oFb ?_ | refine oFd ?_); (first | refine oLb ?_ | refine oLd ?_); refine sp (pln rfl (tyS rfl)) ?_; refine oCm ?_; refine oMv ?_; (first | refine oFb ?_ | refine oFd ?_ | refine oK ?_ | ((refine ssp (fun hc => ?_) (fun hc => ?_)) <;> first | refine oFb ?_ | refine oFd ?_ | refine oK ?_)) <;> (first | refine oLb ?_ | refine oLd ?_ | refine oK ?_) <;> (first | refine oC (c1) rfl (ac .nil) ?_ | refine oK ?_) <;> (first | refine oPt ?_ | refine oPf ?_) <;> (refine oAs ?_) <;> (refine oN ?_)) | refine gc ?_ | refine ct ?_ | refine cf ?_ | refine swp_cond rfl (fun hc => ?_) (fun hc => ?_) | refine rq rfl (rt .nil) ?_)
    rfl
  · rw [decide_eq_false h]
    repeat' (first | refine then_go ?_ | refine swp_seq ?_ | (refine rg 0 ?_; refine sbx ?_; refine oAs ?_; refine oN ?_) | (refine rg 1 ?_; (first | refine oFb ?_ | refine oFd ?_); (first | refine oLb ?_ | refine oLd ?_); refine sp (pln rfl (tyS rfl)) ?_; refine oCm ?_; refine oMv ?_; (first | refine oFb ?_ | refine oFd ?_ | refine oK ?_ | ((refine ssp (fun hc => ?_) (fun hc => ?_)) <;> first | refine oFb ?_ | refine oFd ?_ | refine oK ?_)) <;> (first | refine oLb ?_ | refine oLd ?_ | refine oK ?_) <;> (first | refine oC (c1) rfl (ac .nil) ?_ | refine oK ?_) <;> (first | refine oPt ?_ | refine oPf ?_) <;> (refine oAs ?_) <;> (refine oN ?_)) | refine gc ?_ | refine ct ?_ | refine cf ?_ | refine swp_cond rfl (fun hc => ?_) (fun hc => ?_) | refine rq rfl (rt .nil) ?_)
    rfl
theorem longA_no {a : PAns} (h : longA a = false) : a.body.length ≤ 3000 ∧ a.heads.length ≤ 100 ∧ longH a.heads = false := by
  unfold longA at h
  simp only [Bool.or_eq_false_iff, decide_eq_false_iff_not] at h
  refine ⟨by omega, ?_, h.2⟩
  have h2 := h.2
  unfold longH at h2
  simp only [Bool.or_eq_false_iff, decide_eq_false_iff_not] at h2
  omega
end Go.Proofs.YtpncekdhigappaaGreatDoor.An
