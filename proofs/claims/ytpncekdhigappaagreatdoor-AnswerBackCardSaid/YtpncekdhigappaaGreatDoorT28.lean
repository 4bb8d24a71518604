/- Merged by bundles.py: SimMk, SimPath1. -/
import Derived.Test.YtpncekdhigappaaGreatDoorT10
import Derived.Deep.OwnRows
import Derived.Test.YtpncekdhigappaaGreatDoorT14
import Derived.Test.YtpncekdhigappaaGreatDoorT27
/- A logic of states: make of a row of cells. -/
namespace Go.Proofs.YtpncekdhigappaaGreatDoor.Sim
set_option linter.unusedVariables false
set_option linter.unusedSimpArgs false
open Go.RowKit Mem
section
variable {P : Program} {N : Nat} {Q : Exit → St → Prop} {ops : Array Oper} {rest : List Oper} {o : Oper} {tm : List (Nat × A)} {bx : List (Nat × List A)} {ow : List (Nat × Own)}
theorem made1 (z : Value) (n : Nat) : (madeCells #[z] n).toList = List.replicate n z := by
  refine List.ext_getElem (by simp [madeCells]) fun k h1 h2 => ?_
  simp [madeCells, Nat.mod_one]
theorem flat1 (t : T) (n : Nat) : (List.replicate n [t]).flatten = List.replicate n t := by
  induction n with
  | zero => rfl
  | succ n ih => rw [List.replicate_succ, List.flatten_cons, ih]; rfl
/-- make of n elements of one cell: a row of the call's own, under a number -/
theorem sops_make (i : Nat) {t e by_ d n : Nat} {x y : Operand} {z : Value} {ik ik2 : IntKind} (hg : GuardIs ops tm o true) (ho : o.op = .makeSlice t x y) (hd : o.dst = some d) (hN : Nat.blt d N = true) (hT : sliceE P t = some (e, 1, by_)) (hz : (P.info? e).bind (·.zero) = some z) (hz1 : z.cells = #[z]) (hz2 : z.oneCell' = true)
    (hx : evA tm x = some (.t (.v (.int ik (n : Int))))) (hy : evA tm y = some (.t (.v (.int ik2 (n : Int))))) (hb : by_ * n ≤ 281474976710656) (hm : n ≤ maxLen) (hi : get ow i = none)
    (h : SOps P N ops Q rest ⟨(d, .own i n) :: tm, bx, (i, ⟨e, 1, List.replicate n [.v z]⟩) :: ow⟩) (hp : Nat.ble 2000 i = false := by rfl) : SOps P N ops Q (o :: rest) ⟨tm, bx, ow⟩ := by
  refine sops_run hg (fun C a w m g hr => ?_) h
  have he := hr.env
  have h1 := tr_v (hr.ev hx)
  have h2 := tr_v (hr.ev hy)
  obtain ⟨i', zv, hu, hi', hz', hs', hb', _, _⟩ := sliceE_spec hT
  have hzz : zv = z := by rw [hi'] at hz; simp [hz'] at hz; exact hz
  subst hzz
  have hlw : g.lw i = false := by rw [he.lw, hi]; rfl
  have hrun := run_make_row (P := P) t e i' zv hu hi' hz' hs' hz1 ik ik2 n (by rw [hb']; exact hb) (by unfold maxLen at hm; exact hm) w
  have hown : (w.alloc (.cells (madeCells #[zv] n) e)).ownsRow 0 e 1 (.slice (some ⟨w.heap.size, 0, none⟩) n n) n (List.replicate n zv) :=
    ⟨by simp, .inr ⟨w.heap.size, n, _, rfl, Nat.zero_le _, heap_alloc_new w _, Nat.le_refl _, hm, by simp [madeCells], by rw [made1]; simp⟩⟩
  refine ⟨.slice (some ⟨w.heap.size, 0, none⟩) n n, w.alloc (.cells (madeCells #[zv] n) e), ?_, ?_⟩
  · simp [execOp, ho, h1, h2, hrun]
  · have hfl := flat1 (T.v zv) n
    obtain ⟨h8, h9⟩ := he.setO (hp := hp) (w' := w.alloc (.cells (madeCells #[zv] n) e)) (i := i) (v := .slice (some ⟨w.heap.size, 0, none⟩) n n) (e := e) (sz := 1) (rows := List.replicate n [.v zv]) (vs := List.replicate n zv) (by rw [List.length_replicate]; exact .of hown) (fun r h => by rw [List.eq_of_mem_replicate h]; rfl)
      ⟨by rw [hfl]; simp, fun j t v ha hb => by
        rw [hfl] at ha
        rw [List.getElem?_replicate] at ha hb
        split at ha
        · rename_i hj
          rw [if_pos hj] at hb
          injection ha with ha; injection hb with hb; subst ha hb
          exact ⟨.v _, hz2⟩
        · cases ha⟩ (.inr hi) (.inr ⟨fun b hb => by injection hb with hb; subst hb; exact Nat.le_refl _, (Lo.refl w).alloc _⟩)
    rw [hd]
    exact ⟨_, _, hr.put h8 (fun x u h => h.setO h9 (.inl hlw)) (Nat.lt_of_succ_le (Nat.le_of_ble_eq_true hN)) ⟨by simp [Gh.setO], by simp [Gh.setO], ⟨_, _, rfl⟩, fun _ => by simp [Gh.setO]⟩⟩
end
end Go.Proofs.YtpncekdhigappaaGreatDoor.Sim

/- Targets: digits, bytes, what may be, what is said by %: walks. -/
namespace Go.Proofs.YtpncekdhigappaaGreatDoor.Pth
set_option linter.unusedVariables false
set_option linter.unusedSimpArgs false
open Go.RowKit Mem Sim Opn Str
theorem idx_any (l : List UInt8) (c : UInt8) : decide (0 ≤ Lib.indexByte l c) = l.any (· == c) := by
  rw [idx_list]
  by_cases h : l.findIdx (· == c) < l.length
  · rw [if_pos h, decide_eq_true (by omega)]
    exact (List.any_eq_true.2 (by
      have := List.findIdx_getElem (w := h)
      exact ⟨_, List.getElem_mem h, this⟩)).symm
  · rw [if_neg h, decide_eq_false (by decide)]
    refine (List.any_eq_false.2 fun x hx hc => h ?_).symm
    exact List.findIdx_lt_length_of_exists ⟨x, hx, hc⟩
theorem dig_ways (n : Nat) : n < 48 ∨ (48 ≤ n ∧ n ≤ 57) ∨ (57 < n ∧ n < 65) ∨ (65 ≤ n ∧ n ≤ 70) ∨ (70 < n ∧ n < 97) ∨ (97 ≤ n ∧ n ≤ 102) ∨ 102 < n := by omega
theorem let_ways (n : Nat) : n < 48 ∨ (48 ≤ n ∧ n ≤ 57) ∨ (57 < n ∧ n < 65) ∨ (65 ≤ n ∧ n ≤ 90) ∨ (90 < n ∧ n < 97) ∨ (97 ≤ n ∧ n ≤ 122) ∨ 122 < n := by omega
theorem ext_bs (l : List UInt8) (a b : Nat) : (bs l).extract a b = bs ((l.take b).drop a) := bs_inj (by
  rw [bs_toList, ByteArray.toList_eq, ByteArray.data_extract]
  simp [bs, List.extract_eq_take_drop, List.drop_take])
set_option maxRecDepth 100000 in
theorem digit_ (c : UInt8) : PCalls Tryz.prog 143 [.v (.int .u8 (c.toNat : Int))] (.v (.int .i64 (dig c))) := by
  have hlt := c.toNat_lt
  unfold dig
  generalize c.toNat = n at *
  refine pcalls_of Tryz.func143 rfl rfl Tryz.ntmps143 rfl ?_
  rcases dig_ways n with h | h | h | h | h | h | h
  all_goals
    repeat' (first | (refine rg 0 ?_; refine oAs ?_; refine oN ?_) | (refine rg 1 ?_; refine oMv ?_; refine oCm ?_; refine oMv ?_; (first | refine oMv ?_ | refine oK ?_) <;> (first | refine oCm ?_ | refine oK ?_) <;> (first | refine oPt ?_ | refine oPf ?_) <;> refine oAs ?_ <;> refine oN ?_) | (refine rg 2 ?_; refine oMv ?_; (first | refine sp (po_dec rfl rfl rfl (by omega)) ?_ | refine sp (po_arith rfl rfl rfl (ar_sub (by first | rfl | (refine wrap_i64 ?_; omega) | (refine wrap_u8 ?_; omega)) rfl)) ?_); refine sp (po_conv_int rfl rfl (tyK rfl) (tyK rfl) (by (refine wrap_i64 ?_; omega))) ?_; refine oAs ?_; refine oN ?_) | (refine rg 3 ?_; refine oMv ?_; refine oCm ?_; refine oMv ?_; (first | refine oMv ?_ | refine oK ?_) <;> (first | refine oCm ?_ | refine oK ?_) <;> (first | refine oPt ?_ | refine oPf ?_) <;> refine oAs ?_ <;> refine oN ?_) | (refine rg 4 ?_; refine oMv ?_; (first | refine sp (po_dec rfl rfl rfl (by omega)) ?_ | refine sp (po_arith rfl rfl rfl (ar_sub (by first | rfl | (refine wrap_i64 ?_; omega) | (refine wrap_u8 ?_; omega)) rfl)) ?_); refine sp (po_conv_int rfl rfl (tyK rfl) (tyK rfl) (by (refine wrap_i64 ?_; omega))) ?_; (first | refine sp (xinc rfl) ?_ | refine sp (po_arith rfl rfl rfl (ar_add (by first | rfl | (refine wrap_i64 ?_; omega)) rfl)) ?_); refine oAs ?_; refine oN ?_) | (refine rg 5 ?_; refine oMv ?_; refine oCm ?_; refine oMv ?_; (first | refine oMv ?_ | refine oK ?_) <;> (first | refine oCm ?_ | refine oK ?_) <;> (first | refine oPt ?_ | refine oPf ?_) <;> refine oAs ?_ <;> refine oN ?_) | (refine rg 6 ?_; refine oMv ?_; (first | refine sp (po_dec rfl rfl rfl (by omega)) ?_ | refine sp (po_arith rfl rfl rfl (ar_sub (by first | rfl | (refine wrap_i64 ?_; omega) | (refine wrap_u8 ?_; omega)) rfl)) ?_); refine sp (po_conv_int rfl rfl (tyK rfl) (tyK rfl) (by (refine wrap_i64 ?_; omega))) ?_; (first | refine sp (xinc rfl) ?_ | refine sp (po_arith rfl rfl rfl (ar_add (by first | rfl | (refine wrap_i64 ?_; omega)) rfl)) ?_); refine oAs ?_; refine oN ?_) | (refine rg 7 ?_; refine oAs ?_; refine oN ?_) | refine gc ?_ | refine ct ?_ | refine cf ?_ | refine swp_cond rfl (fun hc => ?_) (fun hc => ?_) | refine rq rfl (rt .nil) ?_)
    first
      | (rw [if_pos (by omega)]; rfl)
      | (rw [if_neg (by omega), if_pos (by omega)]; rfl)
      | (rw [if_neg (by omega), if_neg (by omega), if_pos (by omega)]; rfl)
      | (rw [if_neg (by omega), if_neg (by omega), if_neg (by omega)]; rfl)
set_option maxRecDepth 100000 in
theorem plain_ (c : UInt8) : PCalls Tryz.prog 144 [.v (.int .u8 (c.toNat : Int))] (.v (.bool (plainB c))) := by
  have hc := indexByte_ (bs [45, 46, 95, 126]) c
  have hi : decide (0 ≤ Lib.indexByte (bs [45, 46, 95, 126]).data.toList c) = ([45, 46, 95, 126] : List UInt8).any (· == c) := idx_any _ c
  unfold plainB
  generalize ([45, 46, 95, 126] : List UInt8).any (· == c) = b at *
  generalize Lib.indexByte (bs [45, 46, 95, 126]).data.toList c = z at *
  generalize c.toNat = n at *
  refine pcalls_of Tryz.func144 rfl rfl Tryz.ntmps144 rfl ?_
  rcases let_ways n with h | h | h | h | h | h | h
  all_goals
    repeat' (first | (refine rg 0 ?_; refine oAs ?_; refine oN ?_) | (refine rg 1 ?_; refine oMv ?_; refine oCm ?_; refine oMv ?_; (first | refine oMv ?_ | refine oK ?_) <;> (first | refine oCm ?_ | refine oK ?_) <;> (first | refine oPt ?_ | refine oPf ?_) <;> refine oMv ?_ <;> (first | refine oMv ?_ | refine oK ?_) <;> (first | refine oCm ?_ | refine oK ?_) <;> (first | refine oMv ?_ | refine oK ?_) <;> (first | refine oMv ?_ | refine oK ?_) <;> (first | refine oCm ?_ | refine oK ?_) <;> (first | refine oPt ?_ | refine oPf ?_ | refine oK ?_) <;> (first | refine oPt ?_ | refine oPf ?_) <;> refine oMv ?_ <;> (first | refine oMv ?_ | refine oK ?_) <;> (first | refine oCm ?_ | refine oK ?_) <;> (first | refine oMv ?_ | refine oK ?_) <;> (first | refine oMv ?_ | refine oK ?_) <;> (first | refine oCm ?_ | refine oK ?_) <;> (first | refine oPt ?_ | refine oPf ?_ | refine oK ?_) <;> (first | refine oPt ?_ | refine oPf ?_) <;> refine oMv ?_ <;> (first | refine oMv ?_ | refine oK ?_) <;> (first | refine oC (hc) rfl (ac (ac .nil)) ?_ | refine oK ?_) <;> (first | refine oCm ?_ | refine oK ?_) <;> (first | refine oPt ?_ | refine oPf ?_) <;> refine oAs ?_ <;> refine oN ?_) | refine gc ?_ | refine ct ?_ | refine cf ?_ | refine swp_cond rfl (fun hc => ?_) (fun hc => ?_) | refine rq rfl (rt .nil) ?_)
    refine eq_b ?_
    subst hi
    rw [Bool.eq_iff_iff]
    simp at *; try omega
set_option maxRecDepth 100000 in
theorem hidden_ (c : UInt8) : PCalls Tryz.prog 107 [.v (.int .u8 (c.toNat : Int))] (.v (.bool (hiddenB c))) := by
  unfold hiddenB
  generalize c.toNat = n at *
  refine pcalls_of Tryz.func107 rfl rfl Tryz.ntmps107 rfl ?_
  repeat' (first | (refine rg 0 ?_; refine oAs ?_; refine oN ?_) | (refine rg 1 ?_; refine oMv ?_; refine oCm ?_; refine oMv ?_; (first | refine oMv ?_ | refine oK ?_ | ((refine ssp (fun hc => ?_) (fun hc => ?_)) <;> first | refine oMv ?_ | refine oK ?_)) <;> (first | refine oCm ?_ | refine oK ?_) <;> (first | refine oPt ?_ | refine oPf ?_) <;> refine oMv ?_ <;> (first | refine oMv ?_ | refine oK ?_ | ((refine ssp (fun hc => ?_) (fun hc => ?_)) <;> first | refine oMv ?_ | refine oK ?_)) <;> (first | refine oCm ?_ | refine oK ?_) <;> (first | refine oPt ?_ | refine oPf ?_) <;> refine oMv ?_ <;> (first | refine oMv ?_ | refine oK ?_ | ((refine ssp (fun hc => ?_) (fun hc => ?_)) <;> first | refine oMv ?_ | refine oK ?_)) <;> (first | refine oCm ?_ | refine oK ?_) <;> (first | refine oPt ?_ | refine oPf ?_) <;> refine oAs ?_ <;> refine oN ?_) | refine gc ?_ | refine ct ?_ | refine cf ?_ | refine swp_cond rfl (fun hc => ?_) (fun hc => ?_) | refine rq rfl (rt .nil) ?_)
  all_goals
    refine eq_b ?_
    rw [Bool.eq_iff_iff]
    simp at *; try omega
set_option maxRecDepth 100000 in
theorem none_ (c : UInt8) : PCalls Tryz.prog 108 [.v (.int .u8 (c.toNat : Int))] (.v (.bool false)) := by
  refine pcalls_of Tryz.func108 rfl rfl Tryz.ntmps108 rfl ?_
  repeat' (first | (refine rg 0 ?_; refine oAs ?_; refine oN ?_) | (refine rg 1 ?_; refine oAs ?_; refine oN ?_) | refine gc ?_ | refine ct ?_ | refine cf ?_ | refine swp_cond rfl (fun hc => ?_) (fun hc => ?_) | refine rq rfl (rt .nil) ?_)
  rfl
end Go.Proofs.YtpncekdhigappaaGreatDoor.Pth
