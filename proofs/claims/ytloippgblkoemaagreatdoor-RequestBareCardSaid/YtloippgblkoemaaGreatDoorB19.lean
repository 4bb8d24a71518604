/- Merged by bundles.py: SimRq5, PlReq2, PlMap, SimBld. -/
import Derived.Test.YtloippgblkoemaaGreatDoorB18
import Derived.Test.YtloippgblkoemaaGreatDoorB13
import Derived.Lib.MapLaws
import Derived.Lib.TrimAscii
import Derived.Lib.TrimUEq
import Derived.Lib.RuneBytes
import Derived.Test.YtloippgblkoemaaGreatDoorB17
import Derived.Scope
/- The reader of messages: memory of its own; what is empty; walked. -/
namespace Go.Proofs.YtloippgblkoemaaGreatDoor.Rq
set_option linter.unusedVariables false
set_option linter.unusedSimpArgs false
open Go.RowKit Mem Sim Opn Hd Str
def parsC (r : PRd) : List T := [.v (.int .i64 r.phase), .sl 1 (r.line.map byteT), .v (.string r.raw.start), headsT r.raw.heads, .sl 1 (r.raw.body.map byteT), .v (.int .i64 r.left), .v (.int .i64 r.err)]
set_option maxRecDepth 100000 in
set_option maxHeartbeats 1000000 in
theorem cloneBytes (i : Nat) (hi : i = 1001 ∨ i = 1002) (rows : List (List T)) (hbd : rows.length * 1 ≤ 140737488355328) (hmx : rows.length ≤ maxLen) : LCalls Tryz.prog 28 [.t (.sl 1 rows)] [] [] (.own i rows.length) [] [(i, ⟨5, 1, rows⟩)] := by
  have hbd' : 0 + rows.length * 1 ≤ 140737488355328 := by omega
  rcases hi with rfl | rfl
  · refine lcalls_of Tryz.func28 rfl rfl Tryz.ntmps28 rfl ?_
    repeat' (first | refine rg 0 (aq0 ?_) | (refine rg 1 ?_; refine oMv ?_; refine sops_isnil (.free rfl rfl) rfl rfl rfl rfl (.t _) (tyS rfl) (fun b hnil => ?_); refine oN ?_) | refine gc ?_ | refine ct ?_ | refine cf ?_ | refine sc ?_ ?_ <;> intro hc | refine rq rfl (rt .nil) ?_)
    · obtain rfl := hnil hc
      repeat' (first | refine then_go ?_ | refine swp_seq ?_ | refine swp_ret_weak (weak_own0 (i := 1001) 5 1 (s := 2) rfl rfl) ?_ | refine rg 2 (aq0 ?_) | refine swp_ret ?_ | refine swp_skip ?_ | refine swp_block ?_ | refine swp_exit ?_ | refine block_go ?_ | refine block_exit ?_ | refine block_far rfl ?_ | refine block_ret ?_ | refine then_ret ?_ | refine then_exit ?_ | refine for_ret ?_ | refine for_exit ?_ | refine ct ?_ | refine cf ?_ | refine sc ?_ ?_ <;> intro hc | exact retl1 (by exact .inr rfl) rfl (.tmp rfl rfl .nil) rfl .nil (.cons rfl (by rfl) .nil))
    · repeat' (first | (refine rg 3 ?_; refine sops_build0i 1001 (.free rfl rfl) rfl rfl rfl (tyE rfl) rfl ?_; refine oMv ?_; refine sap rfl (tyE rfl) ?_; refine oAs ?_; refine oN ?_) | refine gc ?_ | refine ct ?_ | refine cf ?_ | refine sc ?_ ?_ <;> intro hc | refine retl (by exact .inr rfl) rfl (.tmp rfl rfl .nil) ?_ rfl .nil (.cons rfl (by rfl) .nil))
      rfl
  · refine lcalls_of Tryz.func28 rfl rfl Tryz.ntmps28 rfl ?_
    repeat' (first | refine rg 0 (aq0 ?_) | (refine rg 1 ?_; refine oMv ?_; refine sops_isnil (.free rfl rfl) rfl rfl rfl rfl (.t _) (tyS rfl) (fun b hnil => ?_); refine oN ?_) | refine gc ?_ | refine ct ?_ | refine cf ?_ | refine sc ?_ ?_ <;> intro hc | refine rq rfl (rt .nil) ?_)
    · obtain rfl := hnil hc
      repeat' (first | refine then_go ?_ | refine swp_seq ?_ | refine swp_ret_weak (weak_own0 (i := 1002) 5 1 (s := 2) rfl rfl) ?_ | refine rg 2 (aq0 ?_) | refine swp_ret ?_ | refine swp_skip ?_ | refine swp_block ?_ | refine swp_exit ?_ | refine block_go ?_ | refine block_exit ?_ | refine block_far rfl ?_ | refine block_ret ?_ | refine then_ret ?_ | refine then_exit ?_ | refine for_ret ?_ | refine for_exit ?_ | refine ct ?_ | refine cf ?_ | refine sc ?_ ?_ <;> intro hc | exact retl1 (by exact .inr rfl) rfl (.tmp rfl rfl .nil) rfl .nil (.cons rfl (by rfl) .nil))
    · repeat' (first | (refine rg 3 ?_; refine sops_build0i 1002 (.free rfl rfl) rfl rfl rfl (tyE rfl) rfl ?_; refine oMv ?_; refine sap rfl (tyE rfl) ?_; refine oAs ?_; refine oN ?_) | refine gc ?_ | refine ct ?_ | refine cf ?_ | refine sc ?_ ?_ <;> intro hc | refine retl (by exact .inr rfl) rfl (.tmp rfl rfl .nil) ?_ rfl .nil (.cons rfl (by rfl) .nil))
      rfl
set_option maxRecDepth 100000 in
set_option maxHeartbeats 1000000 in
theorem ownRaw_ (r : PRaw) (hn : r.heads.length ≤ 1000) (hbd : r.body.length ≤ 1000000) : LCalls Tryz.prog 66 [.t (.agg (rawT r))] [] [] (.ag [.t (.v (.string r.start)), .t (headsT r.heads), .own 1002 (r.body.map byteT).length]) [] [(1002, ⟨5, 1, r.body.map byteT⟩)] := by
  have hm1 : (r.heads.map headT).length = r.heads.length := List.length_map _
  have hm2 : (r.body.map byteT).length = r.body.length := List.length_map _
  have c1 := cloneHeads 100 (.inl rfl) (r.heads.map headT) (by rw [hm1]; omega) (by rw [hm1]; unfold maxLen; omega)
  have c2 := cloneBytes 1002 (.inr rfl) (r.body.map byteT) (by rw [hm2]; omega) (by rw [hm2]; unfold maxLen; omega)
  refine lcalls_of Tryz.func66 rfl rfl Tryz.ntmps66 rfl ?_
  refine swp_up ?_
  repeat' (first | refine gc ?_ | refine up_to (weak_vw_bx 2 1 rfl rfl (.own rfl rfl)) ?_ | (refine rg 0 ?_; refine sbx ?_; refine sal str25 ?_; refine oN ?_) | ((refine swp_any (id := 1) [[], [], [100], [], [], [1002], [], [1], [], [1]] [[], [], [], [100], [100], [], [1002], [], [], []] mixed (by kernel_rfl) ?_) <;> refine yp (fun _ _ => po_field_bx rfl rfl (tyF rfl)) ?_ <;> refine yp (fun _ _ => po_load_bx rfl rfl (tyT rfl) rfl rfl) ?_ <;> (refine sany_eff [] [(100, _)] (.free rfl rfl) rfl rfl (fun _ _ hb ho => e_lcall (c1) (fun i => i) (fun i => i) rfl (by ((repeat' (first | exact .nil | refine .cons rfl rfl rfl ?_)) <;> fail)) .nil .nil rfl rfl (by ((repeat' (exact .nil)) <;> fail)) (by ((repeat' (first | exact .nil | refine .old rfl ?_ | refine .new (ho _ rfl rfl) ?_)) <;> fail)) .nil) ?_) <;> refine yp (fun _ _ => po_field_bx rfl rfl (tyF rfl)) ?_ <;> refine yp (fun _ _ => po_load_bx rfl rfl (tyT rfl) rfl rfl) ?_ <;> (first | refine sany_eff [] [(1002, _)] (.free rfl rfl) rfl rfl (fun _ _ hb ho => e_lcall (c1) (fun i => i) (fun i => i) rfl (by first | ((repeat' (first | exact .nil | refine .cons rfl rfl rfl ?_ | refine .vw rfl (by first | exact .t _ | exact .own rfl (by rfl) | exact .nil _ | exact .emp _ | exact .fn _) ?_)) <;> fail) | fail) .nil .nil rfl rfl (by first | ((repeat' (first | exact .nil | refine .old rfl ?_ | refine .new (hb _ rfl rfl) ?_)) <;> fail) | fail) (by first | ((repeat' (first | exact .nil | refine .old rfl ?_ | refine .new (ho _ rfl rfl) ?_)) <;> fail) | fail) .nil) ?_ | refine sany_eff [] [(1002, _)] (.free rfl rfl) rfl rfl (fun _ _ hb ho => e_lcall (c2) (fun i => i) (fun i => i) rfl (by ((repeat' (first | exact .nil | refine .cons rfl rfl rfl ?_)) <;> fail)) .nil .nil rfl rfl (by ((repeat' (exact .nil)) <;> fail)) (by ((repeat' (first | exact .nil | refine .old rfl ?_ | refine .new (ho _ rfl rfl) ?_)) <;> fail)) .nil) ?_) <;> refine yp (fun _ _ => po_field_bx rfl rfl (tyF rfl)) ?_ <;> refine sany_eff [(1, _)] [] (.free rfl rfl) rfl rfl (fun _ _ _ _ => e_store rfl rfl rfl rfl rfl rfl (tyT rfl) rfl rfl) ?_ <;> refine yp (fun _ _ => po_field_bx rfl rfl (tyF rfl)) ?_ <;> refine sany_eff [(1, _)] [] (.free rfl rfl) rfl rfl (fun _ _ _ _ => e_store rfl rfl rfl rfl rfl rfl (tyT rfl) rfl rfl) ?_ <;> refine sany_nil ?_) | (refine rg 2 ?_; (first | refine sp (po_load_bx_agg rfl rfl (tyT rfl) rfl (vc (vc (vc .nil))) rfl) ?_ | refine sp (po_load_agg rfl rfl (tyT rfl) rfl rfl) ?_ | refine sp (lda rfl) ?_ | refine sp (po_load_bx_ag rfl rfl (tyT rfl) rfl rfl rfl rfl) ?_); refine oS ?_; refine oN ?_) | refine ct ?_ | refine cf ?_ | refine sc ?_ ?_ <;> intro hc | refine retl (by exact .inr rfl) rfl (.cell rfl rfl (tyT rfl) rfl rfl .nil) ?_ rfl .nil (.cons rfl (by rfl) .nil))
  rfl
set_option maxRecDepth 100000 in
set_option maxHeartbeats 1000000 in
theorem own_ (r : PRd) (hr : RdOk r) : LCalls Tryz.prog 41 [.t (.agg (parsC r))] [] [] (.ag [.t (.v (.int .i64 r.phase)), .own 1001 (r.line.map byteT).length, .t (.v (.string r.raw.start)), .t (headsT r.raw.heads), .own 1002 (r.raw.body.map byteT).length, .t (.v (.int .i64 r.left)), .t (.v (.int .i64 r.err))]) [] [(1001, ⟨5, 1, r.line.map byteT⟩), (1002, ⟨5, 1, r.raw.body.map byteT⟩)] := by
  obtain ⟨hn, hh, ho, hl, hbd⟩ := hr
  have hm2 : (r.line.map byteT).length = r.line.length := List.length_map _
  have c1 := cloneBytes 1001 (.inl rfl) (r.line.map byteT) (by rw [hm2]; omega) (by rw [hm2]; unfold maxLen; omega)
  have c2 := ownRaw_ r.raw hn hbd
  unfold rawT at c2
  refine lcalls_of Tryz.func41 rfl rfl Tryz.ntmps41 rfl ?_
  repeat' (first | (refine rg 0 ?_; refine sbx ?_; refine sal str49 ?_; refine oN ?_) | ((refine swp_any (id := 1) [[], [], [1001], [], [], [1002], [], [1], [], [1]] [[], [], [], [1001], [1001], [], [1002], [], [], []] mixed (by kernel_rfl) ?_) <;> refine yp (fun _ _ => po_field_bx rfl rfl (tyF rfl)) ?_ <;> refine yp (fun _ _ => po_load_bx rfl rfl (tyT rfl) rfl rfl) ?_ <;> (refine sany_eff [] [(1001, _)] (.free rfl rfl) rfl rfl (fun _ _ hb ho => e_lcall (c1) (fun i => i) (fun i => i) rfl (by ((repeat' (first | exact .nil | refine .cons rfl rfl rfl ?_)) <;> fail)) .nil .nil rfl rfl (by ((repeat' (exact .nil)) <;> fail)) (by ((repeat' (first | exact .nil | refine .old rfl ?_ | refine .new (ho _ rfl rfl) ?_)) <;> fail)) .nil) ?_) <;> refine yp (fun _ _ => po_field_bx rfl rfl (tyF rfl)) ?_ <;> (refine yp (fun _ _ => po_load_bx_agg rfl rfl (tyT rfl) rfl (vc (vc (vc .nil))) rfl) ?_) <;> (first | refine sany_eff [] [(1002, _)] (.free rfl rfl) rfl rfl (fun _ _ hb ho => e_lcall (c1) (fun i => i) (fun i => i) rfl (by first | ((repeat' (first | exact .nil | refine .cons rfl rfl rfl ?_ | refine .vw rfl (by first | exact .t _ | exact .own rfl (by rfl) | exact .nil _ | exact .emp _ | exact .fn _) ?_)) <;> fail) | fail) .nil .nil rfl rfl (by first | ((repeat' (first | exact .nil | refine .old rfl ?_ | refine .new (hb _ rfl rfl) ?_)) <;> fail) | fail) (by first | ((repeat' (first | exact .nil | refine .old rfl ?_ | refine .new (ho _ rfl rfl) ?_)) <;> fail) | fail) .nil) ?_ | refine sany_eff [] [(1002, _)] (.free rfl rfl) rfl rfl (fun _ _ hb ho => e_lcall (c2) (fun i => i) (fun i => i) rfl (by ((repeat' (first | exact .nil | refine .cons rfl rfl rfl ?_)) <;> fail)) .nil .nil rfl rfl (by ((repeat' (exact .nil)) <;> fail)) (by ((repeat' (first | exact .nil | refine .old rfl ?_ | refine .new (ho _ rfl rfl) ?_)) <;> fail)) .nil) ?_) <;> refine yp (fun _ _ => po_field_bx rfl rfl (tyF rfl)) ?_ <;> refine sany_eff [(1, _)] [] (.free rfl rfl) rfl rfl (fun _ _ _ _ => e_store rfl rfl rfl rfl rfl rfl (tyT rfl) rfl rfl) ?_ <;> refine yp (fun _ _ => po_field_bx rfl rfl (tyF rfl)) ?_ <;> refine sany_eff [(1, _)] [] (.free rfl rfl) rfl rfl (fun _ _ _ _ => e_store rfl rfl rfl rfl rfl rfl (tyT rfl) rfl rfl) ?_ <;> refine sany_nil ?_) | (refine rg 2 ?_; (first | refine sp (po_load_bx_agg rfl rfl (tyT rfl) rfl (vc (vc (vc (vc (vc (vc (vc .nil))))))) rfl) ?_ | refine sp (po_load_agg rfl rfl (tyT rfl) rfl rfl) ?_ | refine sp (lda rfl) ?_ | refine sp (po_load_bx_ag rfl rfl (tyT rfl) rfl rfl rfl rfl) ?_); refine oS ?_; refine oN ?_) | refine gc ?_ | refine ct ?_ | refine cf ?_ | refine sc ?_ ?_ <;> intro hc | refine retl (by exact .inr rfl) rfl (.cell rfl rfl (tyT rfl) rfl rfl .nil) ?_ rfl .nil (.cons rfl (by rfl) (.cons rfl (by rfl) .nil)))
  rfl
set_option maxRecDepth 100000 in
theorem new_ : PCalls Tryz.prog 20 [] (.agg (parsC rd0)) := by
  refine pcalls_of Tryz.func20 rfl rfl Tryz.ntmps20 rfl ?_
  repeat' (first | (refine rg 0 ?_; refine sal str49 ?_; refine oN ?_) | (refine rg 1 ?_; refine sp (po_buildS str49 rfl .nil rfl) ?_; refine aq8 ?_) | refine gc ?_ | refine ct ?_ | refine cf ?_ | refine sc ?_ ?_ <;> intro hc | exact rq1 rfl (.cell rfl rfl (tyT rfl) (vc (vc (vc (vc (vc (vc (vc .nil))))))) rfl .nil))
set_option maxRecDepth 100000 in
theorem idle_ (r : PRd) (hl : r.line.length ≤ 1000000) : PCalls Tryz.prog 53 [.agg (parsC r)] (.v (.bool (idleP r))) := by
  have hm2 : (r.line.map byteT).length = r.line.length := List.length_map _
  have e3 : decide (((r.line.map byteT).length : Int) = 0) = decide (r.line.length = 0) := by
    by_cases h : r.line.length = 0
    · rw [decide_eq_true h, decide_eq_true (by omega)]
    · rw [decide_eq_false h, decide_eq_false (by omega)]
  unfold idleP
  refine pcalls_of Tryz.func53 rfl rfl Tryz.ntmps53 rfl ?_
  by_cases h1 : r.err = 0
  · rw [decide_eq_true h1]
    by_cases h2 : r.phase = 0
    · rw [decide_eq_true h2]
      repeat' (first | refine rg 0 (aq37 ?_) | (refine rg 1 ?_; refine oFb ?_; refine oLb ?_; refine oCm ?_; refine oMv ?_; refine oFb ?_ <;> refine oLb ?_ <;> refine oCm ?_ <;> refine oPt ?_ <;> refine oMv ?_ <;> refine oFb ?_ <;> refine oLb ?_ <;> refine sp (pln rfl (tyS rfl)) ?_ <;> refine oCm ?_ <;> refine oPt ?_ <;> refine oAs ?_ <;> refine oN ?_) | refine gc ?_ | refine ct ?_ | refine cf ?_ | refine sc ?_ ?_ <;> intro hc | refine rq rfl (rt .nil) ?_)
      rw [← e3]; rfl
    · rw [decide_eq_false h2]
      repeat' (first | refine rg 0 (aq37 ?_) | (refine rg 1 ?_; refine oFb ?_; refine oLb ?_; refine oCm ?_; refine oMv ?_; refine oFb ?_ <;> refine oLb ?_ <;> refine oCm ?_ <;> refine oPt ?_ <;> refine oMv ?_ <;> (first | refine oFb ?_ | refine oFd ?_ | refine oK ?_) <;> (first | refine oLb ?_ | refine oLd ?_ | refine oK ?_) <;> (first | refine sp (pln rfl (tyS rfl)) ?_ | refine oK ?_) <;> (first | refine oCm ?_ | refine oK ?_) <;> (first | refine oPt ?_ | refine oPf ?_) <;> refine oAs ?_ <;> refine oN ?_) | refine gc ?_ | refine ct ?_ | refine cf ?_ | refine sc ?_ ?_ <;> intro hc | refine rq rfl (rt .nil) ?_)
      rfl
  · rw [decide_eq_false h1]
    repeat' (first | refine rg 0 (aq37 ?_) | (refine rg 1 ?_; refine oFb ?_; refine oLb ?_; refine oCm ?_; refine oMv ?_; (first | refine oFb ?_ | refine oFd ?_ | refine oK ?_) <;> (first | refine oLb ?_ | refine oLd ?_ | refine oK ?_) <;> (first | refine oCm ?_ | refine oK ?_) <;> (first | refine oPt ?_ | refine oPf ?_) <;> refine oMv ?_ <;> (first | refine oFb ?_ | refine oFd ?_ | refine oK ?_) <;> (first | refine oLb ?_ | refine oLd ?_ | refine oK ?_) <;> (first | refine sp (pln rfl (tyS rfl)) ?_ | refine oK ?_) <;> (first | refine oCm ?_ | refine oK ?_) <;> (first | refine oPt ?_ | refine oPf ?_) <;> refine oAs ?_ <;> refine oN ?_) | refine gc ?_ | refine ct ?_ | refine cf ?_ | refine sc ?_ ?_ <;> intro hc | refine rq rfl (rt .nil) ?_)
    rfl
end Go.Proofs.YtloippgblkoemaaGreatDoor.Rq

/- What the reader of messages keeps within bounds. -/
namespace Go.Proofs.YtloippgblkoemaaGreatDoor.Rq
set_option linter.unusedVariables false
set_option linter.unusedSimpArgs false
open Go.RowKit Mem Sim Opn Hd Str
structure Inv (n : Nat) (r : PRd) : Prop where
  hn : r.raw.heads.length ≤ 900
  hh : ∀ h ∈ r.raw.heads, okHead h
  ho : r.out.length ≤ n
  hl : r.line.length ≤ 40000 + n
  hb : r.raw.body.length ≤ 40000 + n
  hf : -70000 - (n : Int) ≤ r.left ∧ r.left ≤ 70000
  hp : 0 ≤ r.phase ∧ r.phase ≤ 6
theorem Inv.ok {n : Nat} {r : PRd} (h : Inv n r) (hn : n ≤ 500000) : RdOk r := ⟨Nat.le_trans h.hn (by omega), h.hh, Nat.le_trans h.ho (by omega), Nat.le_trans h.hl (by omega), Nat.le_trans h.hb (by omega)⟩
theorem Inv.up {n : Nat} {r : PRd} (h : Inv n r) : Inv (n + 1) r := ⟨h.hn, h.hh, by have := h.ho; omega, by have := h.hl; omega, by have := h.hb; omega, by have := h.hf; omega, h.hp⟩
theorem Inv.fault {n : Nat} {r : PRd} (h : Inv n r) (e : Int) : Inv n (faultP r e) := ⟨h.hn, h.hh, h.ho, h.hl, h.hb, h.hf, h.hp⟩
theorem Inv.whole {n : Nat} {r : PRd} (h : Inv n r) : Inv (n + 1) (wholeP r) := ⟨Nat.zero_le _, fun x hx => (by cases hx), by have := h.ho; unfold wholeP; simp; omega, Nat.zero_le _, Nat.zero_le _, by show -70000 - ((n + 1 : Nat) : Int) ≤ 0 ∧ (0 : Int) ≤ 70000; omega, by show (0 : Int) ≤ 0 ∧ (0 : Int) ≤ 6; omega⟩
theorem Inv.phase {n : Nat} {r : PRd} (h : Inv n r) (p : Int) (hp : 0 ≤ p ∧ p ≤ 6) : Inv n { r with phase := p } := ⟨h.hn, h.hh, h.ho, h.hl, h.hb, h.hf, hp⟩
theorem Inv.phleft {n : Nat} {r : PRd} (h : Inv n r) (p q : Int) (hp : 0 ≤ p ∧ p ≤ 6) (hq : -1 ≤ q ∧ q ≤ 65535) : Inv n { r with phase := p, left := q } := ⟨h.hn, h.hh, h.ho, h.hl, h.hb, by show -70000 - (n : Int) ≤ q ∧ q ≤ 70000; omega, hp⟩
theorem lenP_rng (s : ByteArray) : 0 ≤ (lenP s).1 ∧ (lenP s).1 ≤ 1024 := by
  unfold lenP
  split
  · split
    · rename_i h; simp only []; omega
    · simp
  · simp
theorem fram_len (l : List Pl.Head) : 0 ≤ (fram l).1.length ∧ (fram l).1.length ≤ 1024 := by
  unfold fram framV
  split
  · simp
  · split <;> simp
  · rename_i s
    split
    · exact lenP_rng _
    · simp
  · simp
theorem Inv.body {n : Nat} {r : PRd} (h : Inv n r) : Inv (n + 1) (bodyP r) := by
  have hl := fram_len r.raw.heads
  unfold bodyP
  split
  · exact (h.fault _).up
  · split
    · exact (h.phase 3 (by omega)).up
    · split
      · exact h.whole
      · exact (h.phleft 2 _ (by omega) (by omega)).up
theorem Inv.header {n : Nat} {r : PRd} (h : Inv n r) (s : ByteArray) (hs : s.size ≤ maxLen) : Inv (n + 1) (headerP r s) := by
  unfold headerP
  split
  · exact h.body
  · split
    · exact (h.fault _).up
    · split
      · split
        · rename_i h24
          refine Inv.up ⟨?_, ?_, h.ho, h.hl, h.hb, h.hf, h.hp⟩
          · simp only [List.length_append, List.length_cons, List.length_nil]; omega
          · intro x hx
            rcases List.mem_append.1 hx with hx | hx
            · exact h.hh x hx
            · simp at hx; subst hx; exact readH_ok s hs
        · exact (h.fault _).up
      · exact (h.fault _).up
theorem Inv.chunk {n : Nat} {r : PRd} (h : Inv n r) (s : ByteArray) : Inv (n + 1) (chunkP r s) := by
  have hz := sizeP_rng s
  unfold chunkP
  split
  · exact (h.fault _).up
  · split
    · exact (h.phase 6 (by omega)).up
    · split
      · exact (h.fault _).up
      · exact (h.phleft 4 _ (by omega) (by omega)).up
theorem Inv.ended {n : Nat} {r : PRd} (h : Inv n r) (s : ByteArray) : Inv (n + 1) (endedP r s) := by
  unfold endedP
  split
  · exact (h.fault _).up
  · split
    · exact h.whole
    · exact (h.phase 3 (by omega)).up
theorem Inv.line {n : Nat} {r : PRd} (h : Inv n r) (s : ByteArray) (hs : s.size ≤ maxLen) : Inv (n + 1) (lineP r s) := by
  unfold lineP
  split
  · exact Inv.up ⟨h.hn, h.hh, h.ho, h.hl, h.hb, h.hf, by show (0 : Int) ≤ 1 ∧ (1 : Int) ≤ 6; omega⟩
  · split
    · exact h.header s hs
    · split
      · exact h.chunk s
      · exact h.ended s
theorem Inv.take {n : Nat} (hn : n ≤ 500000) {r : PRd} (h : Inv n r) (c : UInt8) : Inv (n + 1) (takeP r c) := by
  have h0 : Inv n { r with line := [] } := ⟨h.hn, h.hh, h.ho, Nat.zero_le _, h.hb, h.hf, h.hp⟩
  have hl := h.hl
  unfold takeP
  split
  · exact h0.line _ (by unfold maxLen; rw [bs_size, List.length_dropLast]; omega)
  · split
    · exact (h.fault _).up
    · split
      · exact (h.fault _).up
      · exact ⟨h.hn, h.hh, Nat.le_trans h.ho (by omega), by simp only [List.length_append, List.length_cons, List.length_nil]; omega, Nat.le_trans h.hb (by omega), by have := h.hf; show -70000 - ((n + 1 : Nat) : Int) ≤ r.left ∧ r.left ≤ 70000; omega, h.hp⟩
def bodyR (r : PRd) (c : UInt8) : PRd := { r with raw := { r.raw with body := r.raw.body ++ [c] }, left := r.left - 1 }
theorem Inv.bodyR {n : Nat} {r : PRd} (h : Inv n r) (c : UInt8) : (bodyR r c).out.length ≤ n ∧ Inv (n + 1) (bodyR r c) := by
  have h1 := h.ho
  have h2 := h.hl
  have h3 := h.hb
  have h4 := h.hf
  have h5 : r.out.length ≤ n + 1 := by omega
  have h6 : r.line.length ≤ 40000 + (n + 1) := by omega
  have h7 : (r.raw.body ++ [c]).length ≤ 40000 + (n + 1) := by rw [List.length_append]; simp; omega
  have h8 : -70000 - ((n + 1 : Nat) : Int) ≤ r.left - 1 ∧ r.left - 1 ≤ 70000 := by omega
  exact ⟨h1, h.hn, h.hh, h5, h6, h7, h8, h.hp⟩
theorem bodyByte_eq (r : PRd) (c : UInt8) : bodyByte r c = if 0 < (bodyR r c).left then bodyR r c else if (bodyR r c).phase = 2 then wholeP (bodyR r c) else { bodyR r c with phase := 5, left := 0 } := rfl
theorem Inv.bodyB {n : Nat} {r : PRd} (h : Inv n r) (c : UInt8) : Inv (n + 1) (bodyByte r c) := by
  obtain ⟨h0, h1⟩ := h.bodyR c
  rw [bodyByte_eq]
  split
  · exact h1
  · split
    · exact ⟨Nat.zero_le _, fun x hx => (by cases hx), by unfold wholeP; simp; exact h0, Nat.zero_le _, Nat.zero_le _, by show -70000 - ((n + 1 : Nat) : Int) ≤ 0 ∧ (0 : Int) ≤ 70000; omega, by show (0 : Int) ≤ 0 ∧ (0 : Int) ≤ 6; omega⟩
    · exact h1.phleft 5 0 (by omega) (by omega)
theorem Inv.byte {n : Nat} (hn : n ≤ 500000) {r : PRd} (h : Inv n r) (c : UInt8) : Inv (n + 1) (byteP r c) := by
  unfold byteP
  split
  · exact h.up
  · split
    · exact h.take hn c
    · exact h.bodyB c
theorem Inv.feed {m : Nat} {r : PRd} (h : Inv m r) (l : List UInt8) (hl : m + l.length ≤ 500000) : ∀ k, k ≤ l.length → Inv (m + k) (feedP r (l.take k))
  | 0, _ => h
  | k + 1, hk => by
    have ih := Inv.feed h l hl k (by omega)
    unfold feedP at ih ⊢
    rw [List.take_succ_eq_append_getElem (by omega), List.foldl_append]
    exact ih.byte (by omega) _
theorem feed_snoc (r : PRd) (l : List UInt8) {k : Nat} (hk : k < l.length) : feedP r (l.take (k + 1)) = byteP (feedP r (l.take k)) l[k] := by
  unfold feedP
  rw [List.take_succ_eq_append_getElem hk, List.foldl_append]; rfl
theorem feed_err {r : PRd} (he : r.err ≠ 0) : ∀ l : List UInt8, feedP r l = r
  | [] => rfl
  | c :: l => by
    show feedP (byteP r c) l = r
    have : byteP r c = r := by unfold byteP; rw [if_pos he]
    rw [this]; exact feed_err he l
theorem feed_stop (r : PRd) (l : List UInt8) (k : Nat) (he : (feedP r (l.take k)).err ≠ 0) : feedP r l = feedP r (l.take k) := by
  conv => lhs; rw [← List.take_append_drop k l]
  unfold feedP at he ⊢
  rw [List.foldl_append]
  exact feed_err he _
theorem inv0 : Inv 0 rd0 := ⟨Nat.zero_le _, fun x hx => (by cases hx), Nat.zero_le _, Nat.zero_le _, Nat.zero_le _, by show -70000 - ((0 : Nat) : Int) ≤ 0 ∧ (0 : Int) ≤ 70000; omega, by show (0 : Int) ≤ 0 ∧ (0 : Int) ≤ 6; omega⟩
end Go.Proofs.YtloippgblkoemaaGreatDoor.Rq

/- strings.Map by a small letter's function, in plain Lean. -/
namespace Go.Proofs.YtloippgblkoemaaGreatDoor.Mp
set_option linter.unusedVariables false
set_option linter.unusedSimpArgs false
open Go.Lib
def lowR (r : Int) : Int := if 65 ≤ r ∧ r ≤ 90 then r + 32 else r
def lowB (c : UInt8) : UInt8 := if 65 ≤ c.toNat ∧ c.toNat ≤ 90 then (c.toNat + 32).toUInt8 else c
theorem enc_one {c : UInt8} (h : c.toNat < 128) : (if 0 ≤ lowR (c.toNat : Int) then encodeRune (lowR (c.toNat : Int)) else []) = [lowB c] := by
  unfold lowR lowB
  by_cases hc : 65 ≤ c.toNat ∧ c.toNat ≤ 90
  · rw [if_pos (by omega : 65 ≤ (c.toNat : Int) ∧ (c.toNat : Int) ≤ 90), if_pos hc, if_pos (by omega)]
    unfold encodeRune
    rw [encodeRuneZ_one (by omega) (by omega)]
    rfl
  · rw [if_neg (by omega : ¬ (65 ≤ (c.toNat : Int) ∧ (c.toNat : Int) ≤ 90)), if_neg hc, if_pos (by omega)]
    unfold encodeRune
    rw [encodeRuneZ_one (by omega) (by omega)]
    simp
theorem map_ascii : ∀ (l : List UInt8), (∀ c ∈ l, c.toNat < 128) → mapD lowR l = l.map lowB
  | [], _ => rfl
  | c :: l, h => by
    have hc := h c (by simp)
    rw [mapD_step lowR (c :: l) (by simp), decodeL_ascii c l hc]
    dsimp only
    rw [enc_one hc, List.drop_one, List.tail_cons, map_ascii l fun d hd => h d (by simp [hd])]
    simp
theorem map_len : ∀ (n : Nat) (l : List UInt8), l.length ≤ n → (mapD lowR l).length ≤ 4 * l.length
  | 0, l, hn => by
    have : l = [] := List.eq_nil_of_length_eq_zero (by omega)
    subst this; exact Nat.zero_le _
  | n + 1, l, hn => by
    by_cases hl : l = []
    · subst hl; exact Nat.zero_le _
    · rw [mapD_step lowR l hl, List.length_append]
      have h1 := decodeL_width l
      have h2 := decodeL_le l hl
      have h3 := map_len n (l.drop (decodeL l).2) (by rw [List.length_drop]; omega)
      rw [List.length_drop] at h3
      have h4 : ∀ r, (encodeRune r).length ≤ 4 := fun r => by
        unfold encodeRune; rw [List.length_map]; exact (encodeRuneZ_length r).2
      split
      · have := h4 (lowR (decodeL l).1); omega
      · simp only [List.length_nil]; omega
theorem enc_big {r : Int} (h : 128 ≤ r) : ∃ c ∈ encodeRune r, 128 ≤ c.toNat := by
  unfold encodeRune
  have h1 := encodeRuneZ_byte r
  have key : ∀ x xs, encodeRuneZ r = x :: xs → 128 ≤ x → ∃ c ∈ (encodeRuneZ r).map (fun x => x.toNat.toUInt8), 128 ≤ c.toNat := fun x xs e hx => by
    have hb := h1 x (by rw [e]; simp)
    refine ⟨x.toNat.toUInt8, by rw [e]; simp, ?_⟩
    have : x.toNat < 256 := by omega
    simp [Nat.mod_eq_of_lt this]; omega
  rcases (by omega : r ≤ 2047 ∨ (2048 ≤ r ∧ r < 55296) ∨ (55296 ≤ r ∧ r ≤ 57343) ∨ (57343 < r ∧ r ≤ 65535) ∨ (65536 ≤ r ∧ r ≤ 1114111) ∨ 1114111 < r) with h2 | h2 | h2 | h2 | h2 | h2
  · exact key _ _ (encodeRuneZ_two h h2) (by omega)
  · exact key _ _ (encodeRuneZ_three (.inl h2)) (by omega)
  · exact key _ _ (encodeRuneZ_bad (.inr (.inl h2))) (by omega)
  · exact key _ _ (encodeRuneZ_three (.inr h2)) (by omega)
  · exact key _ _ (encodeRuneZ_four (by omega) h2.2) (by omega)
  · exact key _ _ (encodeRuneZ_bad (.inr (.inr h2))) (by omega)
theorem dec_big {c : UInt8} {l : List UInt8} (h : 128 ≤ c.toNat) : 128 ≤ (decodeL (c :: l)).1 := by
  rw [decodeL_N]
  have hb : ((c :: l).getD 0 0).toNat = c.toNat := rfl
  rw [hb]
  generalize (c :: l).length = n
  generalize ((c :: l).getD 1 0).toNat = b1
  generalize ((c :: l).getD 2 0).toNat = b2
  generalize ((c :: l).getD 3 0).toNat = b3
  unfold decodeN
  rw [if_neg (by omega)]
  repeat' split
  all_goals (dsimp only; omega)
theorem map_big : ∀ (n : Nat) (l : List UInt8), l.length ≤ n → (∃ c ∈ l, 128 ≤ c.toNat) → ∃ c ∈ mapD lowR l, 128 ≤ c.toNat
  | 0, l, hn, ⟨c, hc, _⟩ => by
    have : l = [] := List.eq_nil_of_length_eq_zero (by omega)
    rw [this] at hc; cases hc
  | n + 1, l, hn, ⟨c, hc, h⟩ => by
    match l, hn, hc with
    | d :: l, hn, hc =>
      rw [mapD_step lowR (d :: l) (by simp)]
      by_cases hd : d.toNat < 128
      · have hcl : c ∈ l := by
          rcases List.mem_cons.1 hc with e | e
          · rw [e] at h; omega
          · exact e
        obtain ⟨x, hx, hx2⟩ := map_big n l (by simpa using hn) ⟨c, hcl, h⟩
        rw [decodeL_ascii d l hd]
        exact ⟨x, by rw [List.drop_one, List.tail_cons, List.mem_append]; exact .inr hx, hx2⟩
      · have hb := dec_big (c := d) (l := l) (by omega)
        generalize decodeL (d :: l) = q at *
        have hl : lowR (q.1 : Int) = (q.1 : Int) := by unfold lowR; rw [if_neg (by omega)]
        rw [hl, if_pos (by omega)]
        obtain ⟨x, hx, hx2⟩ := enc_big (r := (q.1 : Int)) (by omega)
        exact ⟨x, by rw [List.mem_append]; exact .inl hx, hx2⟩
end Go.Proofs.YtloippgblkoemaaGreatDoor.Mp

/- A logic of states: a literal that holds what the call owns. -/
namespace Go.Proofs.YtloippgblkoemaaGreatDoor.Sim
set_option linter.unusedVariables false
set_option linter.unusedSimpArgs false
open Go.RowKit Mem
def fillA (pl : Nat → Option (Nat × Nat)) : List A → List (Nat × A) → Option (List A)
  | zs, [] => some zs
  | zs, (i, t) :: r => match pl i with
    | some (off, sz) => bif t.okB && Nat.beq t.cells.length sz && Nat.ble (off + sz) zs.length then fillA pl (zs.take off ++ (t.cells ++ zs.drop (off + sz))) r else none
    | none => none
theorem fillA_ok {m : Mm} {g : Gh} {pl : Nat → Option (Nat × Nat)} : ∀ {parts : List (Nat × A)} {zs rs : List A} {cells : Array Value} {vals : List (Nat × Value)}, fillA pl zs parts = some rs → ACells m g zs cells.toList → parts.length = vals.length →
    (∀ (i : Nat) p q, parts[i]? = some p → vals[i]? = some q → q.1 = p.1 ∧ AR m g p.2 q.2) → ∃ cells', Instr.fill pl cells vals = some cells' ∧ ACells m g rs cells'.toList
  | [], zs, rs, cells, vals, h, hc, hl, _ => by
    have : vals = [] := List.eq_nil_of_length_eq_zero hl.symm
    subst this
    injection h with h; subst h
    exact ⟨cells, rfl, hc⟩
  | (i, t) :: r, zs, rs, cells, vals, h, hc, hl, hp => by
    obtain ⟨⟨i', v⟩, vals, rfl⟩ : ∃ q vs, vals = q :: vs := by cases vals with | nil => simp at hl | cons q vs => exact ⟨q, vs, rfl⟩
    obtain ⟨hi, hv⟩ := hp 0 _ _ rfl rfl
    dsimp only at hi hv
    subst hi
    unfold fillA at h
    cases hpl : pl i' with
    | none => rw [hpl] at h; cases h
    | some x =>
      obtain ⟨off, sz⟩ := x
      rw [hpl] at h
      dsimp only at h
      cases hb : (t.okB && Nat.beq t.cells.length sz && Nat.ble (off + sz) zs.length) with
      | false => rw [hb] at h; cases h
      | true =>
        rw [hb] at h
        simp only [Bool.and_eq_true] at hb
        obtain ⟨⟨hb1, hb2⟩, hb3⟩ := hb
        have hcv := acells_ok hv hb1
        have e1 : t.cells.length = sz := Nat.eq_of_beq_eq_true hb2
        have e2 : off + sz ≤ zs.length := Nat.le_of_ble_eq_true hb3
        have e3 : v.cells.size = sz := by have := hcv.1; simp at this; omega
        have e4 : off + sz ≤ cells.size := by have := hc.1; simp at this; omega
        have hset := fill_set off sz cells v.cells.toList (by simpa using e3) e4
        have hz : v.cells.zipIdx.foldl (fun cs (x : Value × Nat) => cs.setIfInBounds (off + x.2) x.1) cells = (v.cells.toList.zipIdx).foldl (fun cs (x : Value × Nat) => cs.setIfInBounds (off + x.2) x.1) cells := by
          rw [← Array.foldl_toList, Array.toList_zipIdx]
        have hnew : ACells m g (zs.take off ++ (t.cells ++ zs.drop (off + sz))) (v.cells.zipIdx.foldl (fun cs (x : Value × Nat) => cs.setIfInBounds (off + x.2) x.1) cells).toList := by
          rw [hz, hset]
          exact (hc.take off).app (hcv.app (hc.drop (off + sz)))
        obtain ⟨cells', h5, h6⟩ := fillA_ok (parts := r) h hnew (by simpa using hl) (fun j p q h1 h2 => hp (j + 1) p q (by simpa using h1) (by simpa using h2))
        refine ⟨cells', ?_, h6⟩
        unfold Instr.fill
        rw [hpl]
        dsimp only
        rw [if_neg (by simp; omega)]
        exact h5
theorem zero_acells (m : Mm) (g : Gh) {z : Value} (h : ∀ v ∈ z.cells.toList, v.oneCell' = true) : ACells m g (z.cells.toList.map fun v => A.t (.v v)) z.cells.toList := by
  refine ⟨by simp, fun j t v h1 h2 => ?_⟩
  rw [List.getElem?_map, h2] at h1
  simp at h1; subst h1
  exact ⟨TR.v _, h v (List.mem_of_getElem? h2)⟩
theorem ar_leaf {m : Mm} {g : Gh} {y : A} {u : Value} (h : AR m g y u) (hl : y.isLf = true) : AR0 m g y u := by
  cases y <;> first | exact h | cases hl
section
variable {P : Program} {bx : List (Nat × List A)} {ow : List (Nat × Own)} {o : Oper} {ρ : Operand → Option A} {r : A}
theorem po_build_ag {t : TypeId} {i : Nat} {x : Operand} {y : A} {rs : List A} {pl : List (Nat × Nat)} {zs : List Value} (hS : strI P t = some (pl, zs)) (ho : o.op = .build t #[(i, x)]) (hx : ρ x = some y) (hb : fillA (fun i => pl[i]?) (zs.map fun v => .t (.v v)) [(i, y)] = some rs) (hlf : rs.all A.isLf = true) : PureOp P bx ow o ρ (.ag rs) := pure_run fun C m g w a he h => by
  have h1 := h x (by simp [ho, Op.operands]) _ hx
  unfold strI at hS
  split at hS
  · rename_i it fields hi hu
    split at hS
    · rename_i z places hz hpl
      cases hb2 : (z.cells.toList.all (·.oneCell')) with
      | false => rw [hb2] at hS; cases hS
      | true =>
        rw [hb2] at hS
        injection hS with hS
        injection hS with e1 e2
        subst e1 e2
        obtain ⟨cells, h3, h4⟩ := fillA_ok (m := m) (g := g) (vals := [(i, a.eval x)]) hb (zero_acells m g (List.all_eq_true.1 hb2)) rfl (fun j p q hj hq => by
          cases j with
          | zero => simp at hj hq; subst hj hq; exact ⟨rfl, h1⟩
          | succ j => simp at hj)
        have hbuilt : P.built t [(i, a.eval x)] = some cells := by
          unfold Program.built
          rw [hi, hu]
          dsimp only
          rw [hz, hpl]
          dsimp only
          have : (fun i : Nat => places[i]?) = (fun i : Nat => places.toArray[i]?) := by funext i; simp
          rw [← this]; exact h3
        have hrun := run_build (P := P) w t #[(i, a.eval x)] cells (by simpa using hbuilt)
        refine ⟨.agg cells, by simp [execOp, ho, hrun], cells, rfl, by have := h4.1; simpa using this, fun j y u hj hu => ?_⟩
        obtain ⟨h5, h6⟩ := h4.2 j y u hj (by simpa using hu)
        exact ⟨ar_leaf h5 ((List.all_eq_true.1 hlf) y (List.mem_of_getElem? hj)), h6⟩
    · cases hS
  · cases hS
end
def nogF (Q : Exit → St → Prop) : Exit → St → Prop
  | .goto _, _ => False
  | e, st => Q e st
structure NoG (Q : Exit → St → Prop) (e : Exit) (st : St) : Prop where
  go : nogF Q e st
theorem swp_scope {P : Program} {N : Nat} {Q : Exit → St → Prop} {c : Code} {st : St} (h : SWp P N c (NoG Q) st) : SWp P N (.scope c) Q st := .mk fun C a w hr =>
  wp_scope_straight (Code.wp_mono (fun e a' w' ⟨st', hr', hq⟩ => by
    cases e with
    | goto l => exact absurd hq.go id
    | _ => exact ⟨st', hr', hq.go⟩) (h.go C a w hr))
theorem nog_r {Q : Exit → St → Prop} {st : St} (h : Q .ret st) : NoG Q .ret st := ⟨h⟩
end Go.Proofs.YtloippgblkoemaaGreatDoor.Sim
