/- Merged by bundles.py: SimRq3, SimRq4, SimRq5. -/
import Derived.Test.YtpncekdhigappaaGreatDoorU18
import Derived.Test.YtpncekdhigappaaGreatDoorU13
/- The reader of messages: a header's line; a byte of a line: walked. -/
namespace Go.Proofs.YtpncekdhigappaaGreatDoor.Rq
set_option linter.unusedVariables false
set_option linter.unusedSimpArgs false
open Go.RowKit Mem Sim Opn Hd Str
theorem readH_ok (s : ByteArray) (hs : s.size ≤ maxLen) : okHead (readH s).1 := by
  unfold readH
  repeat' split
  all_goals first | exact readC_ok s hs | exact ⟨Nat.zero_le _, Nat.zero_le _⟩
set_option maxRecDepth 100000 in
set_option maxHeartbeats 2000000 in
theorem header_ (r : PRd) (hn : r.raw.heads.length ≤ 1000) (hh : ∀ h ∈ r.raw.heads, okHead h) (ho : r.out.length ≤ 1000000) (s : ByteArray) (hs : s.size ≤ maxLen) : LCalls Tryz.prog 129 [.bp 2000 0, .t (.v (.string s))] [(2000, rdA r)] (rdO r) (.tu []) [(2000, rdA (headerP r s))] (rdO (headerP r s)) := by
  have c0 := body_ r hn hh ho
  have c1 := read_ s hs
  have c2 := add_ r.raw.heads hn (readH s).1 (readH_ok s hs)
  have c3 := fault_ r (readH s).2
  have c4 := fault_ r 3
  have c5 := fault_ r 1
  unfold readT at c1
  unfold addT at c2
  unfold headerP
  refine lcalls_of Tryz.func129 rfl rfl Tryz.ntmps129 rfl ?_
  by_cases h1 : s = ⟨#[]⟩
  · rw [if_pos h1]
    have e1 : decide (s = ⟨#[]⟩) = true := decide_eq_true h1
    repeat' (first | refine rg 0 (aq84 ?_) | (refine rg 1 ?_; refine oMv ?_; refine sops_lcall (c0) (fun i => i) (fun i => i) (fun _ => false) (.free rfl rfl) rfl rfl rfl (by ((repeat' (first | exact .nil | refine .cons rfl rfl rfl ?_)) <;> fail)) (.cons rfl rfl .nil) (.cons rfl rfl (.cons rfl rfl (.cons rfl rfl .nil))) rfl rfl (fun _ h => Bool.noConfusion h) ?_; refine oN ?_) | refine gc ?_ | refine ct ?_ | refine cf ?_ | refine sc ?_ ?_ <;> intro hc | refine retl (by exact .inr rfl) rfl .nil ?_ rfl (.cons rfl (by rfl) rfl .nil) (.cons rfl (by rfl) (.cons rfl (by rfl) (.cons rfl (by rfl) .nil))))
    rfl
  · rw [if_neg h1]
    have e1 : decide (s = ⟨#[]⟩) = false := decide_eq_false h1
    generalize (readH s).2 = e at *
    generalize (readH s).1 = h at *
    by_cases h2 : e ≠ 0
    · rw [if_pos h2]
      repeat' (first | refine rg 0 (aq84 ?_) | (refine rg 2 ?_; refine oMv ?_; (first | refine sops_lcall (c3) (fun i => i) (fun i => i) (fun _ => false) (.free rfl rfl) rfl rfl rfl (by first | ((repeat' (first | exact .nil | refine .cons rfl rfl rfl ?_ | refine .vw rfl (by first | exact .t _ | exact .own rfl (by rfl) | exact .nil _ | exact .emp _ | exact .fn _) ?_)) <;> fail) | fail) (.cons rfl rfl .nil) (.cons rfl rfl (.cons rfl rfl (.cons rfl rfl .nil))) rfl rfl (fun _ h => Bool.noConfusion h) ?_ | refine oC (c1) rfl (ac .nil) ?_); refine aq29 ?_; refine sal str92 ?_; refine aq54 ?_) | refine rg 3 (aq22 ?_) | (refine rg 4 (aq16 ?_); (refine sops_lcall (c3) (fun i => i) (fun i => i) (fun _ => false) (.free rfl rfl) rfl rfl rfl (by ((repeat' (first | exact .nil | refine .cons rfl rfl rfl ?_)) <;> fail)) (.cons rfl rfl .nil) (.cons rfl rfl (.cons rfl rfl (.cons rfl rfl .nil))) rfl rfl (fun _ h => Bool.noConfusion h) ?_); refine oN ?_) | refine gc ?_ | refine ct ?_ | refine cf ?_ | refine sc ?_ ?_ <;> intro hc | refine retl (by exact .inr rfl) rfl .nil ?_ rfl (.cons rfl (by rfl) rfl .nil) (.cons rfl (by rfl) (.cons rfl (by rfl) (.cons rfl (by rfl) .nil))))
      rfl
    · rw [if_neg h2]
      by_cases h3 : good h = true
      · rw [if_pos h3] at c2 ⊢
        by_cases h4 : r.raw.heads.length < 24
        · rw [if_pos h4] at c2 ⊢
          repeat' (first | refine rg 0 (aq84 ?_) | (refine rg 2 ?_; refine oMv ?_; refine oC (c1) rfl (ac .nil) ?_; refine aq29 ?_; refine sal str92 ?_; refine aq54 ?_) | refine rg 3 (aq22 ?_) | (refine aq85 ?_; (first | refine dC (c1) rfl (ac (ac .nil)) ?_ | refine dC (c2) rfl (ac (ac .nil)) ?_); refine aq86 ?_) | refine rg 6 (aq22 ?_) | (refine rg 8 ?_; refine oMv ?_; refine oMv ?_; refine sp (po_nilcheck rfl rfl) ?_; refine oFb ?_; refine oFb ?_; refine oFb ?_; refine oS ?_; refine oN ?_) | refine gc ?_ | refine ct ?_ | refine cf ?_ | refine sc ?_ ?_ <;> intro hc | refine retl (by first | exact .inr rfl | exact .inl rfl) rfl .nil ?_ rfl (.cons rfl (by rfl) rfl .nil) (.cons rfl (by rfl) (.cons rfl (by rfl) (.cons rfl (by rfl) .nil))))
          rfl
        · rw [if_neg h4] at c2 ⊢
          repeat' (first | refine rg 0 (aq84 ?_) | (refine rg 2 ?_; refine oMv ?_; (first | refine sops_lcall (c4) (fun i => i) (fun i => i) (fun _ => false) (.free rfl rfl) rfl rfl rfl (by first | ((repeat' (first | exact .nil | refine .cons rfl rfl rfl ?_ | refine .vw rfl (by first | exact .t _ | exact .own rfl (by rfl) | exact .nil _ | exact .emp _ | exact .fn _) ?_)) <;> fail) | fail) (.cons rfl rfl .nil) (.cons rfl rfl (.cons rfl rfl (.cons rfl rfl .nil))) rfl rfl (fun _ h => Bool.noConfusion h) ?_ | refine oC (c1) rfl (ac .nil) ?_); refine aq29 ?_; refine sal str92 ?_; refine aq54 ?_) | refine rg 3 (aq22 ?_) | (refine aq85 ?_; (first | refine dC (c1) rfl (ac (ac .nil)) ?_ | refine dC (c2) rfl (ac (ac .nil)) ?_); refine aq86 ?_) | refine rg 6 (aq22 ?_) | (refine rg 7 (aq16 ?_); (refine sops_lcall (c4) (fun i => i) (fun i => i) (fun _ => false) (.free rfl rfl) rfl rfl rfl (by ((repeat' (first | exact .nil | refine .cons rfl rfl rfl ?_)) <;> fail)) (.cons rfl rfl .nil) (.cons rfl rfl (.cons rfl rfl (.cons rfl rfl .nil))) rfl rfl (fun _ h => Bool.noConfusion h) ?_); refine oN ?_) | refine gc ?_ | refine ct ?_ | refine cf ?_ | refine sc ?_ ?_ <;> intro hc | refine retl (by exact .inr rfl) rfl .nil ?_ rfl (.cons rfl (by rfl) rfl .nil) (.cons rfl (by rfl) (.cons rfl (by rfl) (.cons rfl (by rfl) .nil))))
          rfl
      · rw [if_neg h3] at c2 ⊢
        repeat' (first | refine rg 0 (aq84 ?_) | (refine rg 2 ?_; refine oMv ?_; (first | refine sops_lcall (c5) (fun i => i) (fun i => i) (fun _ => false) (.free rfl rfl) rfl rfl rfl (by first | ((repeat' (first | exact .nil | refine .cons rfl rfl rfl ?_ | refine .vw rfl (by first | exact .t _ | exact .own rfl (by rfl) | exact .nil _ | exact .emp _ | exact .fn _) ?_)) <;> fail) | fail) (.cons rfl rfl .nil) (.cons rfl rfl (.cons rfl rfl (.cons rfl rfl .nil))) rfl rfl (fun _ h => Bool.noConfusion h) ?_ | refine oC (c1) rfl (ac .nil) ?_); refine aq29 ?_; refine sal str92 ?_; refine aq54 ?_) | refine rg 3 (aq22 ?_) | (refine aq85 ?_; (first | refine dC (c1) rfl (ac (ac .nil)) ?_ | refine dC (c2) rfl (ac (ac .nil)) ?_); refine aq86 ?_) | refine rg 6 (aq22 ?_) | (refine rg 7 (aq16 ?_); (refine sops_lcall (c5) (fun i => i) (fun i => i) (fun _ => false) (.free rfl rfl) rfl rfl rfl (by ((repeat' (first | exact .nil | refine .cons rfl rfl rfl ?_)) <;> fail)) (.cons rfl rfl .nil) (.cons rfl rfl (.cons rfl rfl (.cons rfl rfl .nil))) rfl rfl (fun _ h => Bool.noConfusion h) ?_); refine oN ?_) | refine gc ?_ | refine ct ?_ | refine cf ?_ | refine sc ?_ ?_ <;> intro hc | refine retl (by exact .inr rfl) rfl .nil ?_ rfl (.cons rfl (by rfl) rfl .nil) (.cons rfl (by rfl) (.cons rfl (by rfl) (.cons rfl (by rfl) .nil))))
        rfl
def linesT : List T := [.clo 128 [], .clo 129 [], .v .nilFunc, .clo 130 [], .v .nilFunc, .clo 131 [], .clo 131 []]
theorem bldLines : bldT Tryz.prog 138 [(0, .clo 128 []), (1, .clo 129 []), (3, .clo 130 []), (5, .clo 131 []), (6, .clo 131 [])] = some linesT := by kernel_rfl
theorem zeroLines : zeroOk Tryz.prog 138 = true := by kernel_rfl
theorem zeroLines' : (Tryz.prog.info? 138).bind (·.zero) = some (.agg #[.nilFunc, .nilFunc, .nilFunc, .nilFunc, .nilFunc, .nilFunc, .nilFunc]) := by kernel_rfl
theorem eltLines : elt1 Tryz.prog 138 = some (7, 1) := by kernel_rfl
set_option maxRecDepth 100000 in
theorem lines_ : PCalls Tryz.prog 100 [] (.agg linesT) := by
  refine pcalls_of Tryz.func100 rfl rfl Tryz.ntmps100 rfl ?_
  repeat' (first | (refine rg 0 ?_; refine sops_alloc_arr (n := 7) (.free rfl rfl) rfl rfl rfl zeroLines' rfl rfl rfl ?_; refine oN ?_) | (refine rg 1 ?_; (refine sp (po_build rfl (.cons rfl (.fn _) (.cons rfl (.fn _) (.cons rfl (.fn _) (.cons rfl (.fn _) (.cons rfl (.fn _) .nil))))) zeroLines bldLines) ?_); refine aq8 ?_) | refine gc ?_ | refine ct ?_ | refine cf ?_ | refine sc ?_ ?_ <;> intro hc | refine rq rfl (.cell rfl rfl (tyT rfl) (vc (vc (vc (vc (vc (vc (vc .nil))))))) rfl .nil) ?_)
  rfl
end Go.Proofs.YtpncekdhigappaaGreatDoor.Rq

/- The reader of messages: a byte of a line, walked. -/
namespace Go.Proofs.YtpncekdhigappaaGreatDoor.Rq
set_option linter.unusedVariables false
set_option linter.unusedSimpArgs false
open Go.RowKit Mem Sim Opn Hd Str
theorem take_last {l : List UInt8} (h : 0 < l.length) : l.getLast? = some (l[l.length - 1]'(by omega)) := by
  rw [List.getLast?_eq_getElem?, List.getElem?_eq_getElem (by omega)]
theorem crP_pos {l : List UInt8} (h : 0 < l.length) : crP l = decide ((l[l.length - 1]'(by omega)).toNat = 13) := by
  unfold crP; rw [take_last h]
theorem dropLast_map (l : List UInt8) : (l.map byteT).take (l.length - 1) = l.dropLast.map byteT := by
  rw [← List.map_take, List.dropLast_eq_take]
theorem byt23' : byE Tryz.prog 23 = some 5 := by kernel_rfl
theorem vws_take {ow : List (Nat × Own)} {i n : Nat} {e : TypeId} {sz : Nat} {rows rows' : List (List T)} (h : get ow i = some ⟨e, sz, rows⟩) (hr : rows = rows') (hn : n = rows'.length) : VwS ow (.own i n) (.sl sz rows') := .own (by rw [h, hr]) hn
def LineP (r : PRd) : Prop := r.phase = 0 ∨ r.phase = 1 ∨ r.phase = 3 ∨ r.phase = 5 ∨ r.phase = 6
structure RdOk (r : PRd) : Prop where
  hn : r.raw.heads.length ≤ 1000
  hh : ∀ h ∈ r.raw.heads, okHead h
  ho : r.out.length ≤ 1000000
  hl : r.line.length ≤ 1000000
  hb : r.raw.body.length ≤ 1000000
theorem ne13 (c : UInt8) : (c.toNat = 13 ∧ (!decide ((c.toNat : Int) = 13)) = false) ∨ (c.toNat ≠ 13 ∧ (!decide ((c.toNat : Int) = 13)) = true) := by
  by_cases h : c.toNat = 13
  · exact .inl ⟨h, by rw [decide_eq_true (by omega)]; rfl⟩
  · exact .inr ⟨h, by rw [decide_eq_false (by omega)]; rfl⟩
set_option maxRecDepth 100000 in
set_option maxHeartbeats 4000000 in
theorem take_ (r : PRd) (hp : LineP r) (hr : RdOk r) (c : UInt8) : LCalls Tryz.prog 71 [.bp 2000 0, .t (.v (.int .u8 (c.toNat : Int)))] [(2000, rdA r)] (rdO r) (.tu []) [(2000, rdA (takeP r c))] (rdO (takeP r c)) := by
  obtain ⟨hn, hh, ho, hl, hbd⟩ := hr
  have hml : (r.line.map byteT).length = r.line.length := List.length_map _
  have hb : ((r.line.map byteT).length + 1) * 1 ≤ 140737488355328 := by omega
  have hm : (r.line.map byteT).length + 1 ≤ maxLen := by unfold maxLen; omega
  have hmx : ((r.line.map byteT).length : Int) ≤ 1000000 := by omega
  have f2 := fault_ r 2
  have f6 := fault_ r 6
  have hA : rdA { r with line := r.line ++ [c] } = [.t (.v (.int .i64 r.phase)), .own 1001 (r.line.map byteT ++ [byteT c]).length, .t (.v (.string r.raw.start)), .t (headsT r.raw.heads), .own 1002 (r.raw.body.map byteT).length, .t (.v (.int .i64 r.left)), .t (.v (.int .i64 r.err)), .own 1003 (r.out.map rawT).length] := by
    unfold rdA; rw [List.map_append]; rfl
  have hO : rdO { r with line := r.line ++ [c] } = [(1001, ⟨5, 1, r.line.map byteT ++ [byteT c]⟩), (1002, ⟨5, 1, r.raw.body.map byteT⟩), (1003, ⟨25, 3, r.out.map rawT⟩)] := by
    unfold rdO; rw [List.map_append]; rfl
  unfold takeP
  refine lcalls_of Tryz.func71 rfl rfl Tryz.ntmps71 rfl ?_
  by_cases h0 : r.line.length = 0
  · have hcr : crP r.line = false := by rw [List.length_eq_zero_iff.1 h0]; rfl
    rw [hcr]
    by_cases hc : c.toNat = 10
    · rw [if_neg (by simp), if_pos (.inl hc)]
      repeat' (first | refine rg 0 (aq87 ?_) | (refine rg 1 (aq88 ?_) <;> (first | refine sp (po_dec rfl rfl rfl (by omega)) ?_ | refine sp (po_arith rfl rfl rfl (ar_sub (by first | rfl | (refine wrap_i64 ?_; omega)) rfl)) ?_ | refine oK ?_) <;> refine aq89 ?_) | refine rg 3 (aq90 ?_) | refine rg 7 (aq91 ?_) | (refine rg 8 ?_; refine oMv ?_; refine sops_lcall (f2) (fun i => i) (fun i => i) (fun _ => false) (.free rfl rfl) rfl rfl rfl (by ((repeat' (first | exact .nil | refine .cons rfl rfl rfl ?_)) <;> fail)) (.cons rfl rfl .nil) (.cons rfl rfl (.cons rfl rfl (.cons rfl rfl .nil))) rfl rfl (fun _ h => Bool.noConfusion h) ?_; refine oN ?_) | refine gc ?_ | refine ct ?_ | refine cf ?_ | refine sc ?_ ?_ <;> intro hc | refine retl (by first | exact .inr rfl | exact .inl rfl) rfl .nil ?_ rfl (.cons rfl (by rfl) rfl .nil) (.cons rfl (by rfl) (.cons rfl (by rfl) (.cons rfl (by rfl) .nil))))
      rfl
    · rw [if_neg (by simp), if_neg (by simp [hc]), if_neg (by omega), hA, hO]
      rcases ne13 c with ⟨h13, e13⟩ | ⟨h13, e13⟩
      · repeat' (first | refine rg 0 (aq87 ?_) | (refine rg 1 (aq88 ?_) <;> (first | refine sp (po_dec rfl rfl rfl (by omega)) ?_ | refine sp (po_arith rfl rfl rfl (ar_sub (by first | rfl | (refine wrap_i64 ?_; omega)) rfl)) ?_ | refine oK ?_) <;> refine aq89 ?_) | refine rg 3 (aq92 ?_) | refine rg 7 (aq93 ?_) | refine rg 9 (aq94 ?_) | refine rg 2 (aq95 ?_) | refine gc ?_ | refine ct ?_ | refine cf ?_ | refine sc ?_ ?_ <;> intro hc | refine retl (by first | exact .inr rfl | exact .inl rfl) rfl .nil ?_ rfl (.cons rfl (by rfl) rfl .nil) (.cons rfl (by rfl) (.cons rfl (by rfl) (.cons rfl (by rfl) .nil))))
        rfl
      · repeat' (first | refine rg 0 (aq87 ?_) | (refine rg 1 (aq88 ?_) <;> (first | refine sp (po_dec rfl rfl rfl (by omega)) ?_ | refine sp (po_arith rfl rfl rfl (ar_sub (by first | rfl | (refine wrap_i64 ?_; omega)) rfl)) ?_ | refine oK ?_) <;> refine aq89 ?_) | refine rg 3 (aq92 ?_) | refine rg 7 (aq93 ?_) | refine rg 9 (aq96 ?_) | refine rg 2 (aq95 ?_) | refine gc ?_ | refine ct ?_ | refine cf ?_ | refine sc ?_ ?_ <;> intro hc | refine retl (by first | exact .inr rfl | exact .inl rfl) rfl .nil ?_ rfl (.cons rfl (by rfl) rfl .nil) (.cons rfl (by rfl) (.cons rfl (by rfl) (.cons rfl (by rfl) .nil))))
        rfl
  · have hpos : 0 < r.line.length := by omega
    have hcr := crP_pos hpos
    rw [hcr]
    have hat : (r.line.map byteT)[(r.line.map byteT).length - 1]? = some (byteT (r.line[r.line.length - 1]'(by omega))) := by
      rw [hml]; exact map_at (by omega)
    generalize (r.line[r.line.length - 1]'(by omega)) = b at hat
    by_cases hb13 : b.toNat = 13
    · rw [decide_eq_true hb13]
      by_cases hc : c.toNat = 10
      · rw [if_pos ⟨hc, rfl⟩]
        have hdl : (r.line.map byteT).take ((r.line.map byteT).length - 1) = r.line.dropLast.map byteT := by rw [hml]; exact dropLast_map r.line
        have hdn : (r.line.map byteT).length - 1 = (r.line.dropLast.map byteT).length := by simp
        repeat' (first | refine rg 0 (aq87 ?_) | refine rg 1 (aq97 ?_) | refine rg 3 (aq90 ?_) | (refine rg 4 ?_; refine oMv ?_; refine sp (po_nilcheck rfl rfl) ?_; refine oFb ?_; refine oFb ?_; refine oLb ?_; refine oMv ?_; refine sp (po_dec rfl rfl rfl (by omega)) ?_; (first | refine sp (po_slice_sfx rfl rfl rfl (by rfl) (tyS rfl) rfl (by omega) (by omega)) ?_ | refine sops_shrink (by rfl) (by rfl) (.free rfl rfl) rfl rfl rfl rfl rfl (by rfl) (tyS rfl) rfl (by omega) ?_); refine sp (po_bytes_str (l := r.line.dropLast) rfl rfl (vws_take rfl hdl hdn) byt23' rfl) ?_; refine aq0 ?_) | refine rg 5 (aq78 ?_) | refine gc ?_ | refine ct ?_ | refine cf ?_ | refine sc ?_ ?_ <;> intro hc | refine rq rfl .nil ?_)
        have hp0 : LineP { r with line := [] } := hp
        have hok0 : RdOk { r with line := [] } := ⟨hn, hh, ho, Nat.zero_le _, hbd⟩
        refine swp_weak (st' := ⟨[(0, .bp 2000 0), (6, .t (.v (.string (bs r.line.dropLast))))], [(2000, rdA { r with line := [] })], rdO { r with line := [] }⟩) ((weak_ren 1001 1004 rfl rfl rfl rfl rfl rfl rfl).trans ((weak_own0_bx 5 1 (i := 2000) (j := 1) (q := 1001) rfl rfl rfl).trans (weak_sub (.cons rfl rfl rfl (.cons rfl rfl rfl .nil)) (.cons rfl rfl rfl .nil) (.cons rfl rfl (.cons rfl rfl (.cons rfl rfl .nil)))))) ?_
        have hsz : (bs r.line.dropLast).size ≤ maxLen := by unfold maxLen; rw [bs_size, List.length_dropLast]; omega
        generalize bs r.line.dropLast = s at *
        generalize ({ r with line := [] } : PRd) = q at *
        obtain ⟨hn, hh, ho, hl, hbd⟩ := hok0
        have cl := lines_
        unfold linesT at cl
        unfold lineP
        rcases hp0 with h | h | h | h | h
        · rw [if_pos h]
          have c0 := start_ q s
          repeat' (first | (refine swp_draw (id := 6) 9 mixed (by kernel_rfl) (by kernel_rfl) ?_; refine dC (cl) rfl .nil ?_; refine aq98 ?_; refine dp (po_elt (k := 0) rfl rfl rfl eltLines (by omega) (by omega) rfl) ?_; refine aq99 ?_; (refine sops_lcall_tclo (args := [_, _]) (caps := []) (c0) (fun i => i) (fun i => i) (fun _ => false) (.free rfl rfl) rfl rfl rfl rfl (by ((repeat' (first | exact .nil | refine .cons rfl rfl rfl ?_)) <;> fail)) (.cons rfl rfl .nil) (.cons rfl rfl (.cons rfl rfl (.cons rfl rfl .nil))) rfl rfl (fun _ h => Bool.noConfusion h) ?_); refine oN ?_) | refine gc ?_ | refine ct ?_ | refine cf ?_ | refine sc ?_ ?_ <;> intro hc | refine retl (by first | exact .inr rfl | exact .inl rfl) rfl .nil ?_ rfl (.cons rfl (by rfl) rfl .nil) (.cons rfl (by rfl) (.cons rfl (by rfl) (.cons rfl (by rfl) .nil))))
          rfl
        · rw [if_neg (by omega), if_pos h]
          have c0 := header_ q hn hh ho s hsz
          repeat' (first | (refine swp_draw (id := 6) 9 mixed (by kernel_rfl) (by kernel_rfl) ?_; refine dC (cl) rfl .nil ?_; refine aq98 ?_; refine dp (po_elt (k := 1) rfl rfl rfl eltLines (by omega) (by omega) rfl) ?_; refine aq99 ?_; (refine sops_lcall_tclo (args := [_, _]) (caps := []) (c0) (fun i => i) (fun i => i) (fun _ => false) (.free rfl rfl) rfl rfl rfl rfl (by ((repeat' (first | exact .nil | refine .cons rfl rfl rfl ?_)) <;> fail)) (.cons rfl rfl .nil) (.cons rfl rfl (.cons rfl rfl (.cons rfl rfl .nil))) rfl rfl (fun _ h => Bool.noConfusion h) ?_); refine oN ?_) | refine gc ?_ | refine ct ?_ | refine cf ?_ | refine sc ?_ ?_ <;> intro hc | refine retl (by first | exact .inr rfl | exact .inl rfl) rfl .nil ?_ rfl (.cons rfl (by rfl) rfl .nil) (.cons rfl (by rfl) (.cons rfl (by rfl) (.cons rfl (by rfl) .nil))))
          rfl
        · rw [if_neg (by omega), if_neg (by omega), if_pos h]
          have c0 := chunk_ q hbd s hsz
          repeat' (first | (refine swp_draw (id := 6) 9 mixed (by kernel_rfl) (by kernel_rfl) ?_; refine dC (cl) rfl .nil ?_; refine aq98 ?_; refine dp (po_elt (k := 3) rfl rfl rfl eltLines (by omega) (by omega) rfl) ?_; refine aq99 ?_; (refine sops_lcall_tclo (args := [_, _]) (caps := []) (c0) (fun i => i) (fun i => i) (fun _ => false) (.free rfl rfl) rfl rfl rfl rfl (by ((repeat' (first | exact .nil | refine .cons rfl rfl rfl ?_)) <;> fail)) (.cons rfl rfl .nil) (.cons rfl rfl (.cons rfl rfl (.cons rfl rfl .nil))) rfl rfl (fun _ h => Bool.noConfusion h) ?_); refine oN ?_) | refine gc ?_ | refine ct ?_ | refine cf ?_ | refine sc ?_ ?_ <;> intro hc | refine retl (by first | exact .inr rfl | exact .inl rfl) rfl .nil ?_ rfl (.cons rfl (by rfl) rfl .nil) (.cons rfl (by rfl) (.cons rfl (by rfl) (.cons rfl (by rfl) .nil))))
          rfl
        · rw [if_neg (by omega), if_neg (by omega), if_neg (by omega)]
          have c0 := ended_ q ho s
          repeat' (first | (refine swp_draw (id := 6) 9 mixed (by kernel_rfl) (by kernel_rfl) ?_; refine dC (cl) rfl .nil ?_; refine aq98 ?_; refine dp (po_elt (k := 5) rfl rfl rfl eltLines (by omega) (by omega) rfl) ?_; refine aq99 ?_; (refine sops_lcall_tclo (args := [_, _]) (caps := []) (c0) (fun i => i) (fun i => i) (fun _ => false) (.free rfl rfl) rfl rfl rfl rfl (by ((repeat' (first | exact .nil | refine .cons rfl rfl rfl ?_)) <;> fail)) (.cons rfl rfl .nil) (.cons rfl rfl (.cons rfl rfl (.cons rfl rfl .nil))) rfl rfl (fun _ h => Bool.noConfusion h) ?_); refine oN ?_) | refine gc ?_ | refine ct ?_ | refine cf ?_ | refine sc ?_ ?_ <;> intro hc | refine retl (by first | exact .inr rfl | exact .inl rfl) rfl .nil ?_ rfl (.cons rfl (by rfl) rfl .nil) (.cons rfl (by rfl) (.cons rfl (by rfl) (.cons rfl (by rfl) .nil))))
          rfl
        · rw [if_neg (by omega), if_neg (by omega), if_neg (by omega)]
          have c0 := ended_ q ho s
          repeat' (first | (refine swp_draw (id := 6) 9 mixed (by kernel_rfl) (by kernel_rfl) ?_; refine dC (cl) rfl .nil ?_; refine aq98 ?_; refine dp (po_elt (k := 6) rfl rfl rfl eltLines (by omega) (by omega) rfl) ?_; refine aq99 ?_; (refine sops_lcall_tclo (args := [_, _]) (caps := []) (c0) (fun i => i) (fun i => i) (fun _ => false) (.free rfl rfl) rfl rfl rfl rfl (by ((repeat' (first | exact .nil | refine .cons rfl rfl rfl ?_)) <;> fail)) (.cons rfl rfl .nil) (.cons rfl rfl (.cons rfl rfl (.cons rfl rfl .nil))) rfl rfl (fun _ h => Bool.noConfusion h) ?_); refine oN ?_) | refine gc ?_ | refine ct ?_ | refine cf ?_ | refine sc ?_ ?_ <;> intro hc | refine retl (by first | exact .inr rfl | exact .inl rfl) rfl .nil ?_ rfl (.cons rfl (by rfl) rfl .nil) (.cons rfl (by rfl) (.cons rfl (by rfl) (.cons rfl (by rfl) .nil))))
          rfl
      · rw [if_neg (by simp [hc]), if_pos (.inr rfl)]
        repeat' (first | refine rg 0 (aq87 ?_) | refine rg 1 (aq97 ?_) | refine rg 3 (aq92 ?_) | refine rg 7 (aq93 ?_) | (refine rg 8 ?_; refine oMv ?_; refine sops_lcall (f2) (fun i => i) (fun i => i) (fun _ => false) (.free rfl rfl) rfl rfl rfl (by ((repeat' (first | exact .nil | refine .cons rfl rfl rfl ?_)) <;> fail)) (.cons rfl rfl .nil) (.cons rfl rfl (.cons rfl rfl (.cons rfl rfl .nil))) rfl rfl (fun _ h => Bool.noConfusion h) ?_; refine oN ?_) | refine gc ?_ | refine ct ?_ | refine cf ?_ | refine sc ?_ ?_ <;> intro hc | refine retl (by first | exact .inr rfl | exact .inl rfl) rfl .nil ?_ rfl (.cons rfl (by rfl) rfl .nil) (.cons rfl (by rfl) (.cons rfl (by rfl) (.cons rfl (by rfl) .nil))))
        rfl
    · rw [decide_eq_false hb13]
      by_cases hc : c.toNat = 10
      · rw [if_neg (by simp), if_pos (.inl hc)]
        repeat' (first | refine rg 0 (aq87 ?_) | refine rg 1 (aq97 ?_) | refine rg 3 (aq90 ?_) | refine rg 7 (aq91 ?_) | (refine rg 8 ?_; refine oMv ?_; refine sops_lcall (f2) (fun i => i) (fun i => i) (fun _ => false) (.free rfl rfl) rfl rfl rfl (by ((repeat' (first | exact .nil | refine .cons rfl rfl rfl ?_)) <;> fail)) (.cons rfl rfl .nil) (.cons rfl rfl (.cons rfl rfl (.cons rfl rfl .nil))) rfl rfl (fun _ h => Bool.noConfusion h) ?_; refine oN ?_) | refine gc ?_ | refine ct ?_ | refine cf ?_ | refine sc ?_ ?_ <;> intro hc | refine retl (by first | exact .inr rfl | exact .inl rfl) rfl .nil ?_ rfl (.cons rfl (by rfl) rfl .nil) (.cons rfl (by rfl) (.cons rfl (by rfl) (.cons rfl (by rfl) .nil))))
        rfl
      · rw [if_neg (by simp), if_neg (by simp [hc])]
        by_cases h6 : c.toNat ≠ 13 ∧ 578 ≤ r.line.length
        · rw [if_pos h6]
          obtain ⟨h6, h7⟩ := h6
          have e13 : (!decide ((c.toNat : Int) = 13)) = true := by rw [decide_eq_false (by omega)]; rfl
          repeat' (first | refine rg 0 (aq87 ?_) | refine rg 1 (aq97 ?_) | refine rg 3 (aq92 ?_) | refine rg 7 (aq93 ?_) | refine rg 9 (aq96 ?_) | (refine rg 10 ?_; refine oMv ?_; refine sops_lcall (f6) (fun i => i) (fun i => i) (fun _ => false) (.free rfl rfl) rfl rfl rfl (by ((repeat' (first | exact .nil | refine .cons rfl rfl rfl ?_)) <;> fail)) (.cons rfl rfl .nil) (.cons rfl rfl (.cons rfl rfl (.cons rfl rfl .nil))) rfl rfl (fun _ h => Bool.noConfusion h) ?_; refine oN ?_) | refine gc ?_ | refine ct ?_ | refine cf ?_ | refine sc ?_ ?_ <;> intro hc | refine retl (by first | exact .inr rfl | exact .inl rfl) rfl .nil ?_ rfl (.cons rfl (by rfl) rfl .nil) (.cons rfl (by rfl) (.cons rfl (by rfl) (.cons rfl (by rfl) .nil))))
          rfl
        · rw [if_neg h6, hA, hO]
          rcases ne13 c with ⟨h13, e13⟩ | ⟨h13, e13⟩
          · repeat' (first | refine rg 0 (aq87 ?_) | refine rg 1 (aq97 ?_) | refine rg 3 (aq92 ?_) | refine rg 7 (aq93 ?_) | refine rg 9 (aq94 ?_) | refine rg 2 (aq95 ?_) | refine gc ?_ | refine ct ?_ | refine cf ?_ | refine sc ?_ ?_ <;> intro hc | refine retl (by first | exact .inr rfl | exact .inl rfl) rfl .nil ?_ rfl (.cons rfl (by rfl) rfl .nil) (.cons rfl (by rfl) (.cons rfl (by rfl) (.cons rfl (by rfl) .nil))))
            rfl
          · have h7 : r.line.length < 578 := by omega
            repeat' (first | refine rg 0 (aq87 ?_) | refine rg 1 (aq97 ?_) | refine rg 3 (aq92 ?_) | refine rg 7 (aq93 ?_) | refine rg 9 (aq96 ?_) | refine rg 2 (aq95 ?_) | refine gc ?_ | refine ct ?_ | refine cf ?_ | refine sc ?_ ?_ <;> intro hc | refine retl (by first | exact .inr rfl | exact .inl rfl) rfl .nil ?_ rfl (.cons rfl (by rfl) rfl .nil) (.cons rfl (by rfl) (.cons rfl (by rfl) (.cons rfl (by rfl) .nil))))
            rfl
end Go.Proofs.YtpncekdhigappaaGreatDoor.Rq

/- The reader of messages: memory of its own; what is empty; walked. -/
namespace Go.Proofs.YtpncekdhigappaaGreatDoor.Rq
set_option linter.unusedVariables false
set_option linter.unusedSimpArgs false
open Go.RowKit Mem Sim Opn Hd Str
def parsC (r : PRd) : List T := [.v (.int .i64 r.phase), .sl 1 (r.line.map byteT), .v (.string r.raw.start), headsT r.raw.heads, .sl 1 (r.raw.body.map byteT), .v (.int .i64 r.left), .v (.int .i64 r.err)]
set_option maxRecDepth 100000 in
set_option maxHeartbeats 1000000 in
theorem cloneBytes (i : Nat) (hi : i = 1001 ∨ i = 1002) (rows : List (List T)) (hbd : rows.length * 1 ≤ 140737488355328) (hmx : rows.length ≤ maxLen) : LCalls Tryz.prog 57 [.t (.sl 1 rows)] [] [] (.own i rows.length) [] [(i, ⟨5, 1, rows⟩)] := by
  have hbd' : 0 + rows.length * 1 ≤ 140737488355328 := by omega
  rcases hi with rfl | rfl
  · refine lcalls_of Tryz.func57 rfl rfl Tryz.ntmps57 rfl ?_
    repeat' (first | refine rg 0 (aq0 ?_) | (refine rg 1 ?_; refine oMv ?_; refine sops_isnil (.free rfl rfl) rfl rfl rfl rfl (.t _) (tyS rfl) (fun b hnil => ?_); refine oN ?_) | refine gc ?_ | refine ct ?_ | refine cf ?_ | refine sc ?_ ?_ <;> intro hc | refine rq rfl (rt .nil) ?_)
    · obtain rfl := hnil hc
      repeat' (first | refine then_go ?_ | refine swp_seq ?_ | refine swp_ret_weak (weak_own0 (i := 1001) 5 1 (s := 2) rfl rfl) ?_ | refine rg 2 (aq0 ?_) | refine swp_ret ?_ | refine swp_skip ?_ | refine swp_block ?_ | refine swp_exit ?_ | refine block_go ?_ | refine block_exit ?_ | refine aq76 ?_ | refine block_ret ?_ | refine then_ret ?_ | refine then_exit ?_ | refine for_ret ?_ | refine for_exit ?_ | refine ct ?_ | refine cf ?_ | refine sc ?_ ?_ <;> intro hc | exact retl1 (by exact .inr rfl) rfl (.tmp rfl rfl .nil) rfl .nil (.cons rfl (by rfl) .nil))
    · repeat' (first | (refine rg 3 ?_; refine sops_build0i 1001 (.free rfl rfl) rfl rfl rfl (tyE rfl) rfl ?_; refine oMv ?_; refine sap rfl (tyE rfl) ?_; refine oAs ?_; refine oN ?_) | refine gc ?_ | refine ct ?_ | refine cf ?_ | refine sc ?_ ?_ <;> intro hc | refine retl (by exact .inr rfl) rfl (.tmp rfl rfl .nil) ?_ rfl .nil (.cons rfl (by rfl) .nil))
      rfl
  · refine lcalls_of Tryz.func57 rfl rfl Tryz.ntmps57 rfl ?_
    repeat' (first | refine rg 0 (aq0 ?_) | (refine rg 1 ?_; refine oMv ?_; refine sops_isnil (.free rfl rfl) rfl rfl rfl rfl (.t _) (tyS rfl) (fun b hnil => ?_); refine oN ?_) | refine gc ?_ | refine ct ?_ | refine cf ?_ | refine sc ?_ ?_ <;> intro hc | refine rq rfl (rt .nil) ?_)
    · obtain rfl := hnil hc
      repeat' (first | refine then_go ?_ | refine swp_seq ?_ | refine swp_ret_weak (weak_own0 (i := 1002) 5 1 (s := 2) rfl rfl) ?_ | refine rg 2 (aq0 ?_) | refine swp_ret ?_ | refine swp_skip ?_ | refine swp_block ?_ | refine swp_exit ?_ | refine block_go ?_ | refine block_exit ?_ | refine aq76 ?_ | refine block_ret ?_ | refine then_ret ?_ | refine then_exit ?_ | refine for_ret ?_ | refine for_exit ?_ | refine ct ?_ | refine cf ?_ | refine sc ?_ ?_ <;> intro hc | exact retl1 (by exact .inr rfl) rfl (.tmp rfl rfl .nil) rfl .nil (.cons rfl (by rfl) .nil))
    · repeat' (first | (refine rg 3 ?_; refine sops_build0i 1002 (.free rfl rfl) rfl rfl rfl (tyE rfl) rfl ?_; refine oMv ?_; refine sap rfl (tyE rfl) ?_; refine oAs ?_; refine oN ?_) | refine gc ?_ | refine ct ?_ | refine cf ?_ | refine sc ?_ ?_ <;> intro hc | refine retl (by exact .inr rfl) rfl (.tmp rfl rfl .nil) ?_ rfl .nil (.cons rfl (by rfl) .nil))
      rfl
set_option maxRecDepth 100000 in
set_option maxHeartbeats 1000000 in
theorem ownRaw_ (r : PRaw) (hn : r.heads.length ≤ 1000) (hbd : r.body.length ≤ 1000000) : LCalls Tryz.prog 79 [.t (.agg (rawT r))] [] [] (.ag [.t (.v (.string r.start)), .t (headsT r.heads), .own 1002 (r.body.map byteT).length]) [] [(1002, ⟨5, 1, r.body.map byteT⟩)] := by
  have hm1 : (r.heads.map headT).length = r.heads.length := List.length_map _
  have hm2 : (r.body.map byteT).length = r.body.length := List.length_map _
  have c1 := cloneHeads 100 (.inl rfl) (r.heads.map headT) (by rw [hm1]; omega) (by rw [hm1]; unfold maxLen; omega)
  have c2 := cloneBytes 1002 (.inr rfl) (r.body.map byteT) (by rw [hm2]; omega) (by rw [hm2]; unfold maxLen; omega)
  refine lcalls_of Tryz.func79 rfl rfl Tryz.ntmps79 rfl ?_
  refine swp_up ?_
  repeat' (first | refine gc ?_ | refine up_to (weak_vw_bx 2 1 rfl rfl (.own rfl rfl)) ?_ | (refine rg 0 ?_; refine sbx ?_; refine sal str25 ?_; refine oN ?_) | ((refine swp_any (id := 1) [[], [], [100], [], [], [1002], [], [1], [], [1]] [[], [], [], [100], [100], [], [1002], [], [], []] mixed (by kernel_rfl) ?_) <;> refine yp (fun _ _ => po_field_bx rfl rfl (tyF rfl)) ?_ <;> refine yp (fun _ _ => po_load_bx rfl rfl (tyT rfl) rfl rfl) ?_ <;> (refine sany_eff [] [(100, _)] (.free rfl rfl) rfl rfl (fun _ _ hb ho => e_lcall (c1) (fun i => i) (fun i => i) rfl (by ((repeat' (first | exact .nil | refine .cons rfl rfl rfl ?_)) <;> fail)) .nil .nil rfl rfl (by ((repeat' (exact .nil)) <;> fail)) (by ((repeat' (first | exact .nil | refine .old rfl ?_ | refine .new (ho _ rfl rfl) ?_)) <;> fail)) .nil) ?_) <;> refine yp (fun _ _ => po_field_bx rfl rfl (tyF rfl)) ?_ <;> refine yp (fun _ _ => po_load_bx rfl rfl (tyT rfl) rfl rfl) ?_ <;> (first | refine sany_eff [] [(1002, _)] (.free rfl rfl) rfl rfl (fun _ _ hb ho => e_lcall (c1) (fun i => i) (fun i => i) rfl (by first | ((repeat' (first | exact .nil | refine .cons rfl rfl rfl ?_ | refine .vw rfl (by first | exact .t _ | exact .own rfl (by rfl) | exact .nil _ | exact .emp _ | exact .fn _) ?_)) <;> fail) | fail) .nil .nil rfl rfl (by first | ((repeat' (first | exact .nil | refine .old rfl ?_ | refine .new (hb _ rfl rfl) ?_)) <;> fail) | fail) (by first | ((repeat' (first | exact .nil | refine .old rfl ?_ | refine .new (ho _ rfl rfl) ?_)) <;> fail) | fail) .nil) ?_ | refine sany_eff [] [(1002, _)] (.free rfl rfl) rfl rfl (fun _ _ hb ho => e_lcall (c2) (fun i => i) (fun i => i) rfl (by ((repeat' (first | exact .nil | refine .cons rfl rfl rfl ?_)) <;> fail)) .nil .nil rfl rfl (by ((repeat' (exact .nil)) <;> fail)) (by ((repeat' (first | exact .nil | refine .old rfl ?_ | refine .new (ho _ rfl rfl) ?_)) <;> fail)) .nil) ?_) <;> refine yp (fun _ _ => po_field_bx rfl rfl (tyF rfl)) ?_ <;> refine sany_eff [(1, _)] [] (.free rfl rfl) rfl rfl (fun _ _ _ _ => e_store rfl rfl rfl rfl rfl rfl (tyT rfl) rfl rfl) ?_ <;> refine yp (fun _ _ => po_field_bx rfl rfl (tyF rfl)) ?_ <;> refine sany_eff [(1, _)] [] (.free rfl rfl) rfl rfl (fun _ _ _ _ => e_store rfl rfl rfl rfl rfl rfl (tyT rfl) rfl rfl) ?_ <;> refine sany_nil ?_) | (refine rg 2 ?_; (first | refine sp (po_load_bx_agg rfl rfl (tyT rfl) rfl (vc (vc (vc .nil))) rfl) ?_ | refine sp (po_load_agg rfl rfl (tyT rfl) rfl rfl) ?_ | refine sp (lda rfl) ?_ | refine sp (po_load_bx_ag rfl rfl (tyT rfl) rfl rfl rfl rfl) ?_); refine oS ?_; refine oN ?_) | refine ct ?_ | refine cf ?_ | refine sc ?_ ?_ <;> intro hc | refine retl (by exact .inr rfl) rfl (.cell rfl rfl (tyT rfl) rfl rfl .nil) ?_ rfl .nil (.cons rfl (by rfl) .nil))
  rfl
set_option maxRecDepth 100000 in
set_option maxHeartbeats 1000000 in
theorem own_ (r : PRd) (hr : RdOk r) : LCalls Tryz.prog 69 [.t (.agg (parsC r))] [] [] (.ag [.t (.v (.int .i64 r.phase)), .own 1001 (r.line.map byteT).length, .t (.v (.string r.raw.start)), .t (headsT r.raw.heads), .own 1002 (r.raw.body.map byteT).length, .t (.v (.int .i64 r.left)), .t (.v (.int .i64 r.err))]) [] [(1001, ⟨5, 1, r.line.map byteT⟩), (1002, ⟨5, 1, r.raw.body.map byteT⟩)] := by
  obtain ⟨hn, hh, ho, hl, hbd⟩ := hr
  have hm2 : (r.line.map byteT).length = r.line.length := List.length_map _
  have c1 := cloneBytes 1001 (.inl rfl) (r.line.map byteT) (by rw [hm2]; omega) (by rw [hm2]; unfold maxLen; omega)
  have c2 := ownRaw_ r.raw hn hbd
  unfold rawT at c2
  refine lcalls_of Tryz.func69 rfl rfl Tryz.ntmps69 rfl ?_
  repeat' (first | (refine rg 0 ?_; refine sbx ?_; refine sal str45 ?_; refine oN ?_) | ((refine swp_any (id := 1) [[], [], [1001], [], [], [1002], [], [1], [], [1]] [[], [], [], [1001], [1001], [], [1002], [], [], []] mixed (by kernel_rfl) ?_) <;> refine yp (fun _ _ => po_field_bx rfl rfl (tyF rfl)) ?_ <;> refine yp (fun _ _ => po_load_bx rfl rfl (tyT rfl) rfl rfl) ?_ <;> (refine sany_eff [] [(1001, _)] (.free rfl rfl) rfl rfl (fun _ _ hb ho => e_lcall (c1) (fun i => i) (fun i => i) rfl (by ((repeat' (first | exact .nil | refine .cons rfl rfl rfl ?_)) <;> fail)) .nil .nil rfl rfl (by ((repeat' (exact .nil)) <;> fail)) (by ((repeat' (first | exact .nil | refine .old rfl ?_ | refine .new (ho _ rfl rfl) ?_)) <;> fail)) .nil) ?_) <;> refine yp (fun _ _ => po_field_bx rfl rfl (tyF rfl)) ?_ <;> (refine yp (fun _ _ => po_load_bx_agg rfl rfl (tyT rfl) rfl (vc (vc (vc .nil))) rfl) ?_) <;> (first | refine sany_eff [] [(1002, _)] (.free rfl rfl) rfl rfl (fun _ _ hb ho => e_lcall (c1) (fun i => i) (fun i => i) rfl (by first | ((repeat' (first | exact .nil | refine .cons rfl rfl rfl ?_ | refine .vw rfl (by first | exact .t _ | exact .own rfl (by rfl) | exact .nil _ | exact .emp _ | exact .fn _) ?_)) <;> fail) | fail) .nil .nil rfl rfl (by first | ((repeat' (first | exact .nil | refine .old rfl ?_ | refine .new (hb _ rfl rfl) ?_)) <;> fail) | fail) (by first | ((repeat' (first | exact .nil | refine .old rfl ?_ | refine .new (ho _ rfl rfl) ?_)) <;> fail) | fail) .nil) ?_ | refine sany_eff [] [(1002, _)] (.free rfl rfl) rfl rfl (fun _ _ hb ho => e_lcall (c2) (fun i => i) (fun i => i) rfl (by ((repeat' (first | exact .nil | refine .cons rfl rfl rfl ?_)) <;> fail)) .nil .nil rfl rfl (by ((repeat' (exact .nil)) <;> fail)) (by ((repeat' (first | exact .nil | refine .old rfl ?_ | refine .new (ho _ rfl rfl) ?_)) <;> fail)) .nil) ?_) <;> refine yp (fun _ _ => po_field_bx rfl rfl (tyF rfl)) ?_ <;> refine sany_eff [(1, _)] [] (.free rfl rfl) rfl rfl (fun _ _ _ _ => e_store rfl rfl rfl rfl rfl rfl (tyT rfl) rfl rfl) ?_ <;> refine yp (fun _ _ => po_field_bx rfl rfl (tyF rfl)) ?_ <;> refine sany_eff [(1, _)] [] (.free rfl rfl) rfl rfl (fun _ _ _ _ => e_store rfl rfl rfl rfl rfl rfl (tyT rfl) rfl rfl) ?_ <;> refine sany_nil ?_) | (refine rg 2 ?_; (first | refine sp (po_load_bx_agg rfl rfl (tyT rfl) rfl (vc (vc (vc (vc (vc (vc (vc .nil))))))) rfl) ?_ | refine sp (po_load_agg rfl rfl (tyT rfl) rfl rfl) ?_ | refine sp (lda rfl) ?_ | refine sp (po_load_bx_ag rfl rfl (tyT rfl) rfl rfl rfl rfl) ?_); refine oS ?_; refine oN ?_) | refine gc ?_ | refine ct ?_ | refine cf ?_ | refine sc ?_ ?_ <;> intro hc | refine retl (by exact .inr rfl) rfl (.cell rfl rfl (tyT rfl) rfl rfl .nil) ?_ rfl .nil (.cons rfl (by rfl) (.cons rfl (by rfl) .nil)))
  rfl
set_option maxRecDepth 100000 in
theorem new_ : PCalls Tryz.prog 40 [] (.agg (parsC rd0)) := by
  refine pcalls_of Tryz.func40 rfl rfl Tryz.ntmps40 rfl ?_
  repeat' (first | (refine rg 0 ?_; refine sal str45 ?_; refine oN ?_) | (refine rg 1 ?_; refine sp (po_buildS str45 rfl .nil rfl) ?_; refine aq8 ?_) | refine gc ?_ | refine ct ?_ | refine cf ?_ | refine sc ?_ ?_ <;> intro hc | exact rq1 rfl (.cell rfl rfl (tyT rfl) (vc (vc (vc (vc (vc (vc (vc .nil))))))) rfl .nil))
set_option maxRecDepth 100000 in
theorem idle_ (r : PRd) (hl : r.line.length ≤ 1000000) : PCalls Tryz.prog 34 [.agg (parsC r)] (.v (.bool (idleP r))) := by
  have hm2 : (r.line.map byteT).length = r.line.length := List.length_map _
  have e3 : decide (((r.line.map byteT).length : Int) = 0) = decide (r.line.length = 0) := by
    by_cases h : r.line.length = 0
    · rw [decide_eq_true h, decide_eq_true (by omega)]
    · rw [decide_eq_false h, decide_eq_false (by omega)]
  unfold idleP
  refine pcalls_of Tryz.func34 rfl rfl Tryz.ntmps34 rfl ?_
  by_cases h1 : r.err = 0
  · rw [decide_eq_true h1]
    by_cases h2 : r.phase = 0
    · rw [decide_eq_true h2]
      repeat' (first | refine rg 0 (aq39 ?_) | (refine rg 1 ?_; refine oFb ?_; refine oLb ?_; refine oCm ?_; refine oMv ?_; refine oFb ?_ <;> refine oLb ?_ <;> refine oCm ?_ <;> refine oPt ?_ <;> refine oMv ?_ <;> refine oFb ?_ <;> refine oLb ?_ <;> refine sp (pln rfl (tyS rfl)) ?_ <;> refine oCm ?_ <;> refine oPt ?_ <;> refine oAs ?_ <;> refine oN ?_) | refine gc ?_ | refine ct ?_ | refine cf ?_ | refine sc ?_ ?_ <;> intro hc | refine rq rfl (rt .nil) ?_)
      rw [← e3]; rfl
    · rw [decide_eq_false h2]
      repeat' (first | refine rg 0 (aq39 ?_) | (refine rg 1 ?_; refine oFb ?_; refine oLb ?_; refine oCm ?_; refine oMv ?_; refine oFb ?_ <;> refine oLb ?_ <;> refine oCm ?_ <;> refine oPt ?_ <;> refine oMv ?_ <;> (first | refine oFb ?_ | refine oFd ?_ | refine oK ?_) <;> (first | refine oLb ?_ | refine oLd ?_ | refine oK ?_) <;> (first | refine sp (pln rfl (tyS rfl)) ?_ | refine oK ?_) <;> (first | refine oCm ?_ | refine oK ?_) <;> (first | refine oPt ?_ | refine oPf ?_) <;> refine oAs ?_ <;> refine oN ?_) | refine gc ?_ | refine ct ?_ | refine cf ?_ | refine sc ?_ ?_ <;> intro hc | refine rq rfl (rt .nil) ?_)
      rfl
  · rw [decide_eq_false h1]
    repeat' (first | refine rg 0 (aq39 ?_) | (refine rg 1 ?_; refine oFb ?_; refine oLb ?_; refine oCm ?_; refine oMv ?_; (first | refine oFb ?_ | refine oFd ?_ | refine oK ?_) <;> (first | refine oLb ?_ | refine oLd ?_ | refine oK ?_) <;> (first | refine oCm ?_ | refine oK ?_) <;> (first | refine oPt ?_ | refine oPf ?_) <;> refine oMv ?_ <;> (first | refine oFb ?_ | refine oFd ?_ | refine oK ?_) <;> (first | refine oLb ?_ | refine oLd ?_ | refine oK ?_) <;> (first | refine sp (pln rfl (tyS rfl)) ?_ | refine oK ?_) <;> (first | refine oCm ?_ | refine oK ?_) <;> (first | refine oPt ?_ | refine oPf ?_) <;> refine oAs ?_ <;> refine oN ?_) | refine gc ?_ | refine ct ?_ | refine cf ?_ | refine sc ?_ ?_ <;> intro hc | refine rq rfl (rt .nil) ?_)
    rfl
end Go.Proofs.YtpncekdhigappaaGreatDoor.Rq
