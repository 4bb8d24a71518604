/- Merged by bundles.py: SimNd. -/
import Derived.Test.YtgbcmjcaggnobaaT15
/- A net's calls: Send, Len, At, Deliver, Front, Drop, Double. -/
namespace Go.Proofs.Ytgbcmjcaggnobaa.Sim
set_option linter.unusedVariables false
set_option linter.unusedSimpArgs false
open Go.RowKit Mem
/-- a link: its nodes' numbers -/
structure IsL (n x y : Nat) : Prop where
  hx : 1 ≤ x
  hx2 : x ≤ n
  hy : 1 ≤ y
  hy2 : y ≤ n
  hne : x ≠ y
/-- a net of n nodes: it has all its links; rows of 32 at most, of messages of 16384 bytes at most -/
structure NetOk (d : PNet) : Prop where
  n : d.n ≤ 9
  len : ∀ k, (d.row k).length ≤ 32
  big : ∀ k, ∀ x ∈ d.row k, x.length ≤ 16384
  zero : ∀ k, (∀ x y, IsL d.n x y → k ≠ x * 10 + y) → d.row k = []
theorem lnk_ok {n x y : Nat} (hn : n ≤ 9) (hx : 1 ≤ x) (hx2 : x ≤ n) (hy : 1 ≤ y) (hy2 : y ≤ n) : lnk n (x * 10 + y) = true := by
  unfold lnk
  have h1 : (x * 10 + y) / 10 = x := by omega
  have h2 : (x * 10 + y) % 10 = y := by omega
  rw [h1, h2]; simp; omega
abbrev netN (d : PNet) : List (Nat × List A) := netX (lnk d.n) d
set_option maxRecDepth 100000 in
theorem send_no (d : PNet) (x y : Int) (b : List UInt8) (h : noL d.n x y) :
    LCalls Try.prog 34 [.bp 3000 0, .t (.v (.int .i64 x)), .t (.v (.int .i64 y)), .t (bysT b)] (netN d) [] (.t (.v (.int .i64 1))) (netN d) [] := by
  have c1 := way_no (lnk d.n) d x y h
  refine lcalls_of Try.func34 rfl rfl Try.ntmps34 rfl ?_
  repeat' (first | (refine rg 0 ?_; refine oAs ?_; refine oN ?_) | (refine rg 1 ?_; refine oMv ?_; refine oMv ?_; refine oMv ?_; refine sops_lcall (c1) (fun i => i) (fun i => i) (fun _ => false) (.free rfl rfl) rfl rfl rfl (by ((repeat' (first | exact .nil | refine .cons rfl rfl rfl ?_)) <;> fail)) (.cons rfl rfl .nil) .nil rfl rfl (fun _ h => Bool.noConfusion h) ?_; refine oAs ?_; refine oN ?_) | (refine rg 2 ?_; refine oMv ?_; (first | refine sp (po_nil_nt rfl rfl (by kernel_rfl) (by first | assumption | omega) (by assumption) rfl) ?_ | refine sp (po_nil_nil rfl rfl (by kernel_rfl)) ?_); refine oAs ?_; refine oN ?_) | (refine rg 3 ?_; refine oAs ?_; refine oN ?_) | refine gc ?_ | refine ct ?_ | refine cf ?_ | refine swp_cond rfl (fun hc => ?_) (fun hc => ?_) | exact retl1 (by exact .inr rfl) rfl (.tmp rfl rfl .nil) rfl (.cons rfl (by rfl) rfl .nil) .nil)
set_option maxRecDepth 100000 in
theorem send_long (d : PNet) (hd : NetOk d) (x y : Nat) (hl : IsL d.n x y) (b : List UInt8) (hb : 16384 < b.length) :
    LCalls Try.prog 34 [.bp 3000 0, .t (.v (.int .i64 (x : Int))), .t (.v (.int .i64 (y : Int))), .t (bysT b)] (netN d) [] (.t (.v (.int .i64 6))) (netN d) [] := by
  have hon := lnk_ok hd.n hl.hx hl.hx2 hl.hy hl.hy2
  have c1 := way_ok (lnk d.n) d hd.n x y hl.hx hl.hx2 hl.hy hl.hy2 hl.hne hon
  have hk : x * 10 + y < 100 := by have := hd.n; have := hl.hx2; have := hl.hy2; omega
  have hm : (b.map byteT).length = b.length := List.length_map _
  unfold bysT
  refine lcalls_of Try.func34 rfl rfl Try.ntmps34 rfl ?_
  repeat' (first | (refine rg 0 ?_; refine oAs ?_; refine oN ?_) | (refine rg 1 ?_; refine oMv ?_; refine oMv ?_; refine oMv ?_; refine sops_lcall (c1) (fun i => i) (fun i => i) (fun _ => false) (.free rfl rfl) rfl rfl rfl (by ((repeat' (first | exact .nil | refine .cons rfl rfl rfl ?_)) <;> fail)) (.cons rfl rfl .nil) .nil rfl rfl (fun _ h => Bool.noConfusion h) ?_; refine oAs ?_; refine oN ?_) | (refine rg 2 ?_; refine oMv ?_; refine sp (po_nil_nt rfl rfl (by kernel_rfl) (by assumption) (by assumption) rfl) ?_; refine oAs ?_; refine oN ?_) | (refine rg 4 ?_; refine oMv ?_; refine sp (pln rfl (tyS rfl)) ?_; refine oCm ?_; refine oAs ?_; refine oN ?_) | (refine rg 5 ?_; refine oAs ?_; refine oN ?_) | refine gc ?_ | refine ct ?_ | refine cf ?_ | refine swp_cond rfl (fun hc => ?_) (fun hc => ?_) | exact retl1 (by exact .inr rfl) rfl (.tmp rfl rfl .nil) rfl (.cons rfl (by rfl) rfl .nil) .nil)
set_option maxRecDepth 100000 in
theorem send_full (d : PNet) (hd : NetOk d) (x y : Nat) (hl : IsL d.n x y) (b : List UInt8) (hb : b.length ≤ 16384) (hr : 32 ≤ (d.row (x * 10 + y)).length) :
    LCalls Try.prog 34 [.bp 3000 0, .t (.v (.int .i64 (x : Int))), .t (.v (.int .i64 (y : Int))), .t (bysT b)] (netN d) [] (.t (.v (.int .i64 3))) (netN d) [] := by
  have hon := lnk_ok hd.n hl.hx hl.hx2 hl.hy hl.hy2
  have c1 := way_ok (lnk d.n) d hd.n x y hl.hx hl.hx2 hl.hy hl.hy2 hl.hne hon
  have hk : x * 10 + y < 100 := by have := hd.n; have := hl.hx2; have := hl.hy2; omega
  have hm : (b.map byteT).length = b.length := List.length_map _
  have c2 := put_full (lnk d.n) d (x * 10 + y) b hk hon (by omega) hr
  unfold bysT at c2 ⊢
  refine lcalls_of Try.func34 rfl rfl Try.ntmps34 rfl ?_
  repeat' (first | (refine rg 0 ?_; refine oAs ?_; refine oN ?_) | (refine rg 1 ?_; refine oMv ?_; refine oMv ?_; refine oMv ?_; (first | refine sops_lcall (c2) (fun i => i) (fun i => i) (fun _ => false) (.free rfl rfl) rfl rfl rfl (by first | ((repeat' (first | exact .nil | refine .cons rfl rfl rfl ?_ | refine .vw rfl (by first | exact .t _ | exact .own rfl (by rfl) | exact .nil _ | exact .emp _ | exact .fn _) ?_)) <;> fail) | fail) (.cons rfl rfl .nil) .nil rfl rfl (fun _ h => Bool.noConfusion h) ?_ | refine sops_lcall (c1) (fun i => i) (fun i => i) (fun _ => false) (.free rfl rfl) rfl rfl rfl (by ((repeat' (first | exact .nil | refine .cons rfl rfl rfl ?_)) <;> fail)) (.cons rfl rfl .nil) .nil rfl rfl (fun _ h => Bool.noConfusion h) ?_); refine oAs ?_; refine oN ?_) | (refine rg 2 ?_; refine oMv ?_; refine sp (po_nil_nt rfl rfl (by kernel_rfl) (by assumption) (by assumption) rfl) ?_; refine oAs ?_; refine oN ?_) | (refine rg 4 ?_; refine oMv ?_; refine sp (pln rfl (tyS rfl)) ?_; refine oCm ?_; refine oAs ?_; refine oN ?_) | (refine rg 6 ?_; refine oMv ?_; refine oMv ?_; (refine sops_lcall (c2) (fun i => i) (fun i => i) (fun _ => false) (.free rfl rfl) rfl rfl rfl (by ((repeat' (first | exact .nil | refine .cons rfl rfl rfl ?_)) <;> fail)) (.cons rfl rfl .nil) .nil rfl rfl (fun _ h => Bool.noConfusion h) ?_); refine sp (po_not rfl rfl) ?_; refine oAs ?_; refine oN ?_) | (refine rg 7 ?_; refine oAs ?_; refine oN ?_) | refine gc ?_ | refine ct ?_ | refine cf ?_ | refine swp_cond rfl (fun hc => ?_) (fun hc => ?_) | exact retl1 (by exact .inr rfl) rfl (.tmp rfl rfl .nil) rfl (.cons rfl (by rfl) rfl .nil) .nil)
set_option maxRecDepth 100000 in
theorem send_ok (d : PNet) (hd : NetOk d) (x y : Nat) (hl : IsL d.n x y) (b : List UInt8) (hb : b.length ≤ 16384) (hr : (d.row (x * 10 + y)).length < 32) :
    LCalls Try.prog 34 [.bp 3000 0, .t (.v (.int .i64 (x : Int))), .t (.v (.int .i64 (y : Int))), .t (bysT b)] (netN d) [] (.t (.v (.int .i64 0))) (netN (d.put (x * 10 + y) (d.row (x * 10 + y) ++ [b]))) [] := by
  have hon := lnk_ok hd.n hl.hx hl.hx2 hl.hy hl.hy2
  have c1 := way_ok (lnk d.n) d hd.n x y hl.hx hl.hx2 hl.hy hl.hy2 hl.hne hon
  have hk : x * 10 + y < 100 := by have := hd.n; have := hl.hx2; have := hl.hy2; omega
  have hm : (b.map byteT).length = b.length := List.length_map _
  have c2 := put_room (lnk d.n) d (x * 10 + y) b hk hon (by omega) hr
  unfold bysT at c2 ⊢
  refine lcalls_of Try.func34 rfl rfl Try.ntmps34 rfl ?_
  repeat' (first | (refine rg 0 ?_; refine oAs ?_; refine oN ?_) | (refine rg 1 ?_; refine oMv ?_; refine oMv ?_; refine oMv ?_; (first | refine sops_lcall (c2) (fun i => i) (fun i => i) (fun _ => false) (.free rfl rfl) rfl rfl rfl (by first | ((repeat' (first | exact .nil | refine .cons rfl rfl rfl ?_ | refine .vw rfl (by first | exact .t _ | exact .own rfl (by rfl) | exact .nil _ | exact .emp _ | exact .fn _) ?_)) <;> fail) | fail) (.cons rfl rfl .nil) .nil rfl rfl (fun _ h => Bool.noConfusion h) ?_ | refine sops_lcall (c1) (fun i => i) (fun i => i) (fun _ => false) (.free rfl rfl) rfl rfl rfl (by ((repeat' (first | exact .nil | refine .cons rfl rfl rfl ?_)) <;> fail)) (.cons rfl rfl .nil) .nil rfl rfl (fun _ h => Bool.noConfusion h) ?_); refine oAs ?_; refine oN ?_) | (refine rg 2 ?_; refine oMv ?_; refine sp (po_nil_nt rfl rfl (by kernel_rfl) (by assumption) (by assumption) rfl) ?_; refine oAs ?_; refine oN ?_) | (refine rg 4 ?_; refine oMv ?_; refine sp (pln rfl (tyS rfl)) ?_; refine oCm ?_; refine oAs ?_; refine oN ?_) | (refine rg 6 ?_; refine oMv ?_; refine oMv ?_; (refine sops_lcall (c2) (fun i => i) (fun i => i) (fun _ => false) (.free rfl rfl) rfl rfl rfl (by ((repeat' (first | exact .nil | refine .cons rfl rfl rfl ?_)) <;> fail)) (.cons rfl rfl .nil) .nil rfl rfl (fun _ h => Bool.noConfusion h) ?_); refine sp (po_not rfl rfl) ?_; refine oAs ?_; refine oN ?_) | (refine rg 8 ?_; refine oAs ?_; refine oN ?_) | refine gc ?_ | refine ct ?_ | refine cf ?_ | refine swp_cond rfl (fun hc => ?_) (fun hc => ?_) | exact retl1 (by exact .inr rfl) rfl (.tmp rfl rfl .nil) rfl (.cons rfl (by rfl) rfl .nil) .nil)
set_option maxRecDepth 100000 in
theorem len_no (d : PNet) (x y : Int) (h : noL d.n x y) :
    LCalls Try.prog 15 [.bp 3000 0, .t (.v (.int .i64 x)), .t (.v (.int .i64 y))] (netN d) [] (.t (.v (.int .i64 0))) (netN d) [] := by
  have c1 := way_no (lnk d.n) d x y h
  refine lcalls_of Try.func15 rfl rfl Try.ntmps15 rfl ?_
  repeat' (first | (refine rg 0 ?_; refine oAs ?_; refine oN ?_) | (refine rg 1 ?_; refine oMv ?_; refine oMv ?_; refine oMv ?_; refine sops_lcall (c1) (fun i => i) (fun i => i) (fun _ => false) (.free rfl rfl) rfl rfl rfl (by ((repeat' (first | exact .nil | refine .cons rfl rfl rfl ?_)) <;> fail)) (.cons rfl rfl .nil) .nil rfl rfl (fun _ h => Bool.noConfusion h) ?_; (first | refine sp (pln rfl (tyS rfl)) ?_ | refine sp (po_len_nt rfl rfl (by kernel_rfl) (by first | assumption | omega) (by assumption) rfl) ?_ | refine sp (po_len_nil rfl rfl (by kernel_rfl)) ?_); refine oAs ?_; refine oN ?_) | refine gc ?_ | refine ct ?_ | refine cf ?_ | refine swp_cond rfl (fun hc => ?_) (fun hc => ?_) | exact retl1 (by exact .inr rfl) rfl (.tmp rfl rfl .nil) rfl (.cons rfl (by rfl) rfl .nil) .nil)
set_option maxRecDepth 100000 in
theorem len_ok (d : PNet) (hd : NetOk d) (x y : Nat) (hl : IsL d.n x y) :
    LCalls Try.prog 15 [.bp 3000 0, .t (.v (.int .i64 (x : Int))), .t (.v (.int .i64 (y : Int)))] (netN d) [] (.t (.v (.int .i64 ((d.row (x * 10 + y)).length : Int)))) (netN d) [] := by
  have hon := lnk_ok hd.n hl.hx hl.hx2 hl.hy hl.hy2
  have c1 := way_ok (lnk d.n) d hd.n x y hl.hx hl.hx2 hl.hy hl.hy2 hl.hne hon
  have hk : x * 10 + y < 100 := by have := hd.n; have := hl.hx2; have := hl.hy2; omega
  refine lcalls_of Try.func15 rfl rfl Try.ntmps15 rfl ?_
  repeat' (first | (refine rg 0 ?_; refine oAs ?_; refine oN ?_) | (refine rg 1 ?_; refine oMv ?_; refine oMv ?_; refine oMv ?_; refine sops_lcall (c1) (fun i => i) (fun i => i) (fun _ => false) (.free rfl rfl) rfl rfl rfl (by ((repeat' (first | exact .nil | refine .cons rfl rfl rfl ?_)) <;> fail)) (.cons rfl rfl .nil) .nil rfl rfl (fun _ h => Bool.noConfusion h) ?_; (first | refine sp (pln rfl (tyS rfl)) ?_ | refine sp (po_len_nt rfl rfl (by kernel_rfl) (by assumption) (by assumption) rfl) ?_); refine oAs ?_; refine oN ?_) | refine gc ?_ | refine ct ?_ | refine cf ?_ | refine swp_cond rfl (fun hc => ?_) (fun hc => ?_) | exact retl1 (by exact .inr rfl) rfl (.tmp rfl rfl .nil) rfl (.cons rfl (by rfl) rfl .nil) .nil)
set_option maxRecDepth 100000 in
theorem at_no (d : PNet) (x y i : Int) (h : noL d.n x y) :
    LCalls Try.prog 12 [.bp 3000 0, .t (.v (.int .i64 x)), .t (.v (.int .i64 y)), .t (.v (.int .i64 i))] (netN d) [] (.tu [.t msg0, .t (.v (.int .i64 1))]) (netN d) [] := by
  have c1 := turns_no_a (lnk d.n) d x y i h
  refine lcalls_of Try.func12 rfl rfl Try.ntmps12 rfl ?_
  repeat' (first | (refine rg 0 ?_; refine sal str32 ?_; refine oAs ?_; refine oN ?_) | (refine rg 1 ?_; refine oMv ?_; refine oMv ?_; refine oMv ?_; refine oMv ?_; refine sops_lcall (c1) (fun i => i) (fun i => i) (fun _ => false) (.free rfl rfl) rfl rfl rfl (by ((repeat' (first | exact .nil | refine .cons rfl rfl rfl ?_ | refine .vw rfl (by first | exact .t _ | exact .own rfl (by rfl) | exact .nil _ | exact .emp _ | exact .fn _) ?_)) <;> fail)) (.cons rfl rfl .nil) .nil rfl rfl (fun _ h => Bool.noConfusion h) ?_; (first | refine oEx ?_ | refine sp (po_extract_tu rfl rfl rfl) ?_); (first | refine oEx ?_ | refine sp (po_extract_tu rfl rfl rfl) ?_); refine oS ?_; refine oAs ?_; refine oN ?_) | refine gc ?_ | refine ct ?_ | refine cf ?_ | refine swp_cond rfl (fun hc => ?_) (fun hc => ?_) | refine retl (by exact .inr rfl) rfl (.cellT rfl rfl (tyT rfl) (vc (vc (vc .nil))) rfl (.tmpT rfl (by first | exact .t _ | exact .own rfl (by rfl) | exact .nil _ | exact .emp _ | exact .fn _) .nil)) ?_ rfl (.cons rfl (by rfl) rfl .nil) .nil)
  rfl
set_option maxRecDepth 100000 in
theorem at_none (d : PNet) (hd : NetOk d) (x y : Nat) (i : Int) (hl : IsL d.n x y) (hi : i < 0 ∨ ((d.row (x * 10 + y)).length : Int) ≤ i) :
    LCalls Try.prog 12 [.bp 3000 0, .t (.v (.int .i64 (x : Int))), .t (.v (.int .i64 (y : Int))), .t (.v (.int .i64 i))] (netN d) [] (.tu [.t msg0, .t (.v (.int .i64 4))]) (netN d) [] := by
  have hon := lnk_ok hd.n hl.hx hl.hx2 hl.hy hl.hy2
  have c1 := turns_none_a (lnk d.n) d hd.n x y i hl.hx hl.hx2 hl.hy hl.hy2 hl.hne hon hi
  refine lcalls_of Try.func12 rfl rfl Try.ntmps12 rfl ?_
  repeat' (first | (refine rg 0 ?_; refine sal str32 ?_; refine oAs ?_; refine oN ?_) | (refine rg 1 ?_; refine oMv ?_; refine oMv ?_; refine oMv ?_; refine oMv ?_; refine sops_lcall (c1) (fun i => i) (fun i => i) (fun _ => false) (.free rfl rfl) rfl rfl rfl (by ((repeat' (first | exact .nil | refine .cons rfl rfl rfl ?_ | refine .vw rfl (by first | exact .t _ | exact .own rfl (by rfl) | exact .nil _ | exact .emp _ | exact .fn _) ?_)) <;> fail)) (.cons rfl rfl .nil) .nil rfl rfl (fun _ h => Bool.noConfusion h) ?_; (first | refine oEx ?_ | refine sp (po_extract_tu rfl rfl rfl) ?_); (first | refine oEx ?_ | refine sp (po_extract_tu rfl rfl rfl) ?_); refine oS ?_; refine oAs ?_; refine oN ?_) | refine gc ?_ | refine ct ?_ | refine cf ?_ | refine swp_cond rfl (fun hc => ?_) (fun hc => ?_) | refine retl (by exact .inr rfl) rfl (.cellT rfl rfl (tyT rfl) (vc (vc (vc .nil))) rfl (.tmpT rfl (by first | exact .t _ | exact .own rfl (by rfl) | exact .nil _ | exact .emp _ | exact .fn _) .nil)) ?_ rfl (.cons rfl (by rfl) rfl .nil) .nil)
  rfl
set_option maxRecDepth 100000 in
theorem at_ok (d : PNet) (hd : NetOk d) (x y i : Nat) (hl : IsL d.n x y) (hi : i < (d.row (x * 10 + y)).length) :
    LCalls Try.prog 12 [.bp 3000 0, .t (.v (.int .i64 (x : Int))), .t (.v (.int .i64 (y : Int))), .t (.v (.int .i64 (i : Int)))] (netN d) [] (.tu [.t (msgT x y (d.row (x * 10 + y))[i]), .t (.v (.int .i64 0))]) (netN d) [] := by
  have hon := lnk_ok hd.n hl.hx hl.hx2 hl.hy hl.hy2
  have c1 := turns_do_a (lnk d.n) d hd.n x y i hl.hx hl.hx2 hl.hy hl.hy2 hl.hne hon (hd.len _) hi (hd.big _ _ (List.getElem_mem hi))
  rw [PNet.put_same] at c1
  refine lcalls_of Try.func12 rfl rfl Try.ntmps12 rfl ?_
  repeat' (first | (refine rg 0 ?_; refine sal str32 ?_; refine oAs ?_; refine oN ?_) | (refine rg 1 ?_; refine oMv ?_; refine oMv ?_; refine oMv ?_; refine oMv ?_; refine sops_lcall (c1) (fun i => i) (fun i => i) (fun _ => false) (.free rfl rfl) rfl rfl rfl (by ((repeat' (first | exact .nil | refine .cons rfl rfl rfl ?_ | refine .vw rfl (by first | exact .t _ | exact .own rfl (by rfl) | exact .nil _ | exact .emp _ | exact .fn _) ?_)) <;> fail)) (.cons rfl rfl .nil) .nil rfl rfl (fun _ h => Bool.noConfusion h) ?_; (first | refine oEx ?_ | refine sp (po_extract_tu rfl rfl rfl) ?_); (first | refine oEx ?_ | refine sp (po_extract_tu rfl rfl rfl) ?_); refine oS ?_; refine oAs ?_; refine oN ?_) | refine gc ?_ | refine ct ?_ | refine cf ?_ | refine swp_cond rfl (fun hc => ?_) (fun hc => ?_) | refine retl (by exact .inr rfl) rfl (.cellT rfl rfl (tyT rfl) (vc (vc (vc .nil))) rfl (.tmpT rfl (by first | exact .t _ | exact .own rfl (by rfl) | exact .nil _ | exact .emp _ | exact .fn _) .nil)) ?_ rfl (.cons rfl (by rfl) rfl .nil) .nil)
  rfl
set_option maxRecDepth 100000 in
theorem deliver_no (d : PNet) (x y : Int) (i : Int) (h : noL d.n x y) :
    LCalls Try.prog 29 [.bp 3000 0, .t (.v (.int .i64 x)), .t (.v (.int .i64 y)), .t (.v (.int .i64 i))] (netN d) [] (.tu [.t msg0, .t (.v (.int .i64 1))]) (netN d) [] := by
  have c1 := turns_no_c (lnk d.n) d x y i 44 i h
  refine lcalls_of Try.func29 rfl rfl Try.ntmps29 rfl ?_
  repeat' (first | (refine rg 0 ?_; refine sbx ?_; refine sal str32 ?_; refine oAs ?_; refine oN ?_) | (refine rg 1 ?_; refine oMv ?_; refine oMv ?_; refine oMv ?_; (first | refine sp (po_load_ntn rfl rfl (tyT rfl) rfl) ?_ | refine sp (po_load_ntk rfl rfl (tyT rfl) rfl (by first | assumption | omega) (by assumption) rfl) ?_ | refine oLb ?_); (first | refine sp (po_func rfl (ac .nil)) ?_ | refine sp (po_func_cl rfl (.cons rfl rfl .nil)) ?_); refine sops_lcall (c1) (fun i => bif Nat.beq i 2001 then 7 else i) (fun i => i) (fun _ => false) (.free rfl rfl) rfl rfl rfl (by ((repeat' (first | exact .nil | refine .cons rfl rfl rfl ?_)) <;> fail)) (.cons rfl rfl (.cons rfl rfl .nil)) .nil rfl rfl (fun _ h => Bool.noConfusion h) ?_; (first | refine oEx ?_ | refine sp (po_extract_tu rfl rfl rfl) ?_); (first | refine oEx ?_ | refine sp (po_extract_tu rfl rfl rfl) ?_); refine oS ?_; refine oAs ?_; refine oN ?_) | refine gc ?_ | refine ct ?_ | refine cf ?_ | refine swp_cond rfl (fun hc => ?_) (fun hc => ?_) | refine retl (by exact .inr rfl) rfl (.cellT rfl rfl (tyT rfl) (vc (vc (vc .nil))) rfl (.tmpT rfl (by first | exact .t _ | exact .own rfl (by rfl) | exact .nil _ | exact .emp _ | exact .fn _) .nil)) ?_ rfl (.cons rfl (by rfl) rfl .nil) .nil)
  rfl
set_option maxRecDepth 100000 in
theorem deliver_none (d : PNet) (hd : NetOk d) (x y : Nat) (i : Int) (hl : IsL d.n x y) (hi : i < 0 ∨ ((d.row (x * 10 + y)).length : Int) ≤ i) :
    LCalls Try.prog 29 [.bp 3000 0, .t (.v (.int .i64 (x : Int))), .t (.v (.int .i64 (y : Int))), .t (.v (.int .i64 i))] (netN d) [] (.tu [.t msg0, .t (.v (.int .i64 4))]) (netN d) [] := by
  have hon := lnk_ok hd.n hl.hx hl.hx2 hl.hy hl.hy2
  have c1 := turns_none_c (lnk d.n) d hd.n x y i 44 i hl.hx hl.hx2 hl.hy hl.hy2 hl.hne hon hi
  refine lcalls_of Try.func29 rfl rfl Try.ntmps29 rfl ?_
  repeat' (first | (refine rg 0 ?_; refine sbx ?_; refine sal str32 ?_; refine oAs ?_; refine oN ?_) | (refine rg 1 ?_; refine oMv ?_; refine oMv ?_; refine oMv ?_; (first | refine sp (po_load_ntn rfl rfl (tyT rfl) rfl) ?_ | refine sp (po_load_ntk rfl rfl (tyT rfl) rfl (by first | assumption | omega) (by assumption) rfl) ?_ | refine oLb ?_); (first | refine sp (po_func rfl (ac .nil)) ?_ | refine sp (po_func_cl rfl (.cons rfl rfl .nil)) ?_); refine sops_lcall (c1) (fun i => bif Nat.beq i 2001 then 7 else i) (fun i => i) (fun _ => false) (.free rfl rfl) rfl rfl rfl (by ((repeat' (first | exact .nil | refine .cons rfl rfl rfl ?_)) <;> fail)) (.cons rfl rfl (.cons rfl rfl .nil)) .nil rfl rfl (fun _ h => Bool.noConfusion h) ?_; (first | refine oEx ?_ | refine sp (po_extract_tu rfl rfl rfl) ?_); (first | refine oEx ?_ | refine sp (po_extract_tu rfl rfl rfl) ?_); refine oS ?_; refine oAs ?_; refine oN ?_) | refine gc ?_ | refine ct ?_ | refine cf ?_ | refine swp_cond rfl (fun hc => ?_) (fun hc => ?_) | refine retl (by exact .inr rfl) rfl (.cellT rfl rfl (tyT rfl) (vc (vc (vc .nil))) rfl (.tmpT rfl (by first | exact .t _ | exact .own rfl (by rfl) | exact .nil _ | exact .emp _ | exact .fn _) .nil)) ?_ rfl (.cons rfl (by rfl) rfl .nil) .nil)
  rfl
set_option maxRecDepth 100000 in
theorem deliver_ok (d : PNet) (hd : NetOk d) (x y i : Nat) (hl : IsL d.n x y) (hi : i < (d.row (x * 10 + y)).length) :
    LCalls Try.prog 29 [.bp 3000 0, .t (.v (.int .i64 (x : Int))), .t (.v (.int .i64 (y : Int))), .t (.v (.int .i64 (i : Int)))] (netN d) [] (.tu [.t (msgT x y (d.row (x * 10 + y))[i]), .t (.v (.int .i64 0))]) (netN (d.put (x * 10 + y) ((d.row (x * 10 + y)).eraseIdx i))) [] := by
  have hon := lnk_ok hd.n hl.hx hl.hx2 hl.hy hl.hy2
  have hlen := hd.len (x * 10 + y)
  have c1 := turns_do_c (lnk d.n) d hd.n x y i 44 i _ hl.hx hl.hx2 hl.hy hl.hy2 hl.hne hon hlen hi (hd.big _ _ (List.getElem_mem hi)) (by rw [List.length_eraseIdx, if_pos hi]; omega) (deliver_way (d.row (x * 10 + y)) hi) (ent_of Try.func44 rfl rfl)
  refine lcalls_of Try.func29 rfl rfl Try.ntmps29 rfl ?_
  repeat' (first | (refine rg 0 ?_; refine sbx ?_; refine sal str32 ?_; refine oAs ?_; refine oN ?_) | (refine rg 1 ?_; refine oMv ?_; refine oMv ?_; refine oMv ?_; (first | refine sp (po_load_ntn rfl rfl (tyT rfl) rfl) ?_ | refine sp (po_load_ntk rfl rfl (tyT rfl) rfl (by first | assumption | omega) (by assumption) rfl) ?_ | refine oLb ?_); (first | refine sp (po_func rfl (ac .nil)) ?_ | refine sp (po_func_cl rfl (.cons rfl rfl .nil)) ?_); refine sops_lcall (c1) (fun i => bif Nat.beq i 2001 then 7 else i) (fun i => i) (fun _ => false) (.free rfl rfl) rfl rfl rfl (by ((repeat' (first | exact .nil | refine .cons rfl rfl rfl ?_)) <;> fail)) (.cons rfl rfl (.cons rfl rfl .nil)) .nil rfl rfl (fun _ h => Bool.noConfusion h) ?_; (first | refine oEx ?_ | refine sp (po_extract_tu rfl rfl rfl) ?_); (first | refine oEx ?_ | refine sp (po_extract_tu rfl rfl rfl) ?_); refine oS ?_; refine oAs ?_; refine oN ?_) | refine gc ?_ | refine ct ?_ | refine cf ?_ | refine swp_cond rfl (fun hc => ?_) (fun hc => ?_) | refine retl (by exact .inr rfl) rfl (.cellT rfl rfl (tyT rfl) (vc (vc (vc .nil))) rfl (.tmpT rfl (by first | exact .t _ | exact .own rfl (by rfl) | exact .nil _ | exact .emp _ | exact .fn _) .nil)) ?_ rfl (.cons rfl (by rfl) rfl .nil) .nil)
  rfl
end Go.Proofs.Ytgbcmjcaggnobaa.Sim
