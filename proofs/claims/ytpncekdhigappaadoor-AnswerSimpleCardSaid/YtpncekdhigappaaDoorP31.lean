/- Merged by bundles.py: SimAn2, SimAn3, SimEq, SimAn4. -/
import Derived.Test.YtpncekdhigappaaDoorP30
import Derived.Test.YtpncekdhigappaaDoorP22
/- Answers: digits; what a code is called; walks. -/
namespace Go.Proofs.YtpncekdhigappaaDoor.An
set_option linter.unusedVariables false
set_option linter.unusedSimpArgs false
open Go.RowKit Mem Sim Opn Hd Str Rq
theorem vws_eq {ow : List (Nat × Own)} {x y : T} (h : x = y) : VwS ow (.t x) y := by subst h; exact .t _
def digC (n : Nat) : UInt8 := UInt8.ofNat (48 + n % 10)
theorem digC_nat (n : Nat) : (digC n).toNat = 48 + n % 10 := by
  unfold digC
  rw [UInt8.toNat_ofNat']; omega
set_option maxRecDepth 100000 in
set_option maxHeartbeats 1000000 in
theorem put_ (d : Int) (c : UInt8) (hc : (c.toNat : Int) = 48 + d) (s : ByteArray) (hs : s.size ≤ 1000) : LCalls Tryd.prog 32 [.t (.v (.int .i64 d)), .bp 2000 0] [(2000, [.t (.v (.string s))])] [] (.tu []) [(2000, [.t (.v (.string (bs [c] ++ s)))])] [] := by
  have hlt := c.toNat_lt
  have h8 : IntKind.u8.wrap (48 + d) = (c.toNat : Int) := by rw [wrap_u8 (by omega)]; omega
  have h1 : (bs [c]).size = 1 := rfl
  have hmx : (bs [c]).size + s.size ≤ maxLen := by unfold maxLen; omega
  refine lcalls_of Tryd.func32 rfl rfl Tryd.ntmps32 rfl ?_
  repeat' (first | (refine rg 0 ?_; refine oMv ?_; (first | refine sp (xinc rfl) ?_ | refine sp (xadd rfl) ?_); (first | refine sp (po_conv_int rfl rfl (tyK rfl) (tyK rfl) h8) ?_ | refine sp (po_bytes_str (l := [c]) rfl rfl (vws_eq rfl) byt24' rfl) ?_ | refine sp (po_conv_int rfl rfl (tyK rfl) (tyK rfl) (by first | (refine wrap_i64 ?_; omega) | rfl)) ?_); refine sp (po_buildSlice rfl (tyE rfl) (dc (.nil _)) rfl rfl rfl) ?_; (first | refine sp (po_conv_int rfl rfl (tyK rfl) (tyK rfl) h8) ?_ | refine sp (po_bytes_str (l := [c]) rfl rfl (vws_eq rfl) byt24' rfl) ?_ | refine sp (po_bytes_str rfl rfl (by first | exact .t _ | exact .own rfl (by first | rfl | assumption | omega | (simp; done) | (simp; omega) | (simp at *; omega)) | exact .nil _ | exact .emp _) byt24 (tyR rfl)) ?_); (first | refine oLb ?_ | refine oLd ?_ | refine sp (ldo rfl) ?_); refine sp (po_cat rfl rfl rfl (by omega)) ?_; (first | refine oS ?_ | refine sso ?_); refine oN ?_) | refine gc ?_ | refine ct ?_ | refine cf ?_ | refine swp_cond rfl (fun hc => ?_) (fun hc => ?_) | refine retl (by first | exact .inr rfl | exact .inl rfl) rfl .nil ?_ rfl (.cons rfl (by first | rfl | assumption | (symm; assumption)) rfl .nil) .nil)
  rfl
def sK (n : Nat) : Nat → List UInt8
  | 0 => [digC n]
  | k + 1 => digC (n / 10 ^ (k + 1)) :: sK n k
theorem sK_len (n : Nat) : ∀ k, (sK n k).length = k + 1
  | 0 => rfl
  | k + 1 => by unfold sK; rw [List.length_cons, sK_len n k]
def dm (n : Nat) : Nat := if n ≤ 9 then 0 else if n ≤ 99 then 1 else if n ≤ 999 then 2 else 3
/-- a number's digits -/
def digitsP (n : Nat) : ByteArray := bs (sK n (dm n))
theorem dm_lt {n k : Nat} (h : k < dm n) : 9 < n / 10 ^ k := by
  unfold dm at h
  have hk : k = 0 ∨ k = 1 ∨ k = 2 := by split at h <;> (try split at h) <;> (try split at h) <;> omega
  rcases hk with rfl | rfl | rfl
  · simp; split at h <;> (try split at h) <;> (try split at h) <;> omega
  · simp; split at h <;> (try split at h) <;> (try split at h) <;> omega
  · simp; split at h <;> (try split at h) <;> (try split at h) <;> omega
theorem dm_eq {n : Nat} (hn : n ≤ 9999) : n / 10 ^ dm n ≤ 9 := by
  unfold dm
  split
  · simp; omega
  · split
    · simp; omega
    · split
      · simp; omega
      · simp; omega
theorem dm_3 (n : Nat) : dm n ≤ 3 := by unfold dm; repeat' split <;> try omega
theorem rem_nat (n : Nat) : (n : Int).tmod 10 = ((n % 10 : Nat) : Int) := by rw [show (10 : Int) = ((10 : Nat) : Int) from rfl, Int.ofNat_tmod]
theorem bs_appA (a b : List UInt8) : bs a ++ bs b = bs (a ++ b) := by
  refine bs_inj ?_
  rw [toList_append, bs_toList, bs_toList, bs_toList]
theorem bs_one (c : UInt8) (l : List UInt8) : bs [c] ++ bs l = bs (c :: l) := by
  have := bs_appA [c] l
  exact this
theorem po_quoN {P : Program} {bx : List (Nat × List A)} {ow : List (Nat × Own)} {o : Oper} {ρ : Operand → Option A} {t t2 : TypeId} {x y : Operand} {m d : Nat} (ho : o.op = .binOp .quo t x y t2) (hx : ρ x = some (.t (.v (.int .i64 (m : Int))))) (hy : ρ y = some (.t (.v (.int .i64 (d : Int))))) (hd : d ≠ 0) (hm : m ≤ 1000000) : PureOp P bx ow o ρ (.t (.v (.int .i64 ((m / d : Nat) : Int)))) := by
  have h := po_quo (P := P) (bx := bx) (ow := ow) ho hx hy (by omega)
  have e : IntKind.i64.wrap ((m : Int).tdiv (d : Int)) = ((m / d : Nat) : Int) := by
    rw [← Int.ofNat_tdiv]
    have := Nat.div_le_self m d
    generalize m / d = z at *
    exact wrap_i64 (by omega)
  rw [e] at h; exact h
theorem zStr : (Tryd.prog.info? 9).bind (·.zero) = some (.string ⟨#[]⟩) := by kernel_rfl
set_option maxRecDepth 100000 in
set_option maxHeartbeats 2000000 in
theorem digits_ (n : Nat) (hn : n ≤ 9999) : PCalls Tryd.prog 14 [.v (.int .i64 (n : Int))] (.v (.string (digitsP n))) := by
  have c0 := put_ ((n : Int).tmod 10) (digC n) (by rw [rem_nat, digC_nat]; omega) ⟨#[]⟩ (by simp [ByteArray.size])
  have e0 : bs [digC n] ++ ⟨#[]⟩ = bs (sK n 0) := by
    have := bs_appA [digC n] []
    exact this
  rw [e0] at c0
  refine pcalls_of Tryd.func14 rfl rfl Tryd.ntmps14 rfl ?_
  repeat' (first | (refine rg 0 ?_; refine oAs ?_; refine oN ?_) | (refine rg 1 ?_; (first | refine sops_alloc (.free rfl rfl) rfl rfl rfl zStr rfl rfl ?_ | refine sal str9 ?_); (first | refine oS ?_ | refine sso ?_); refine oN ?_) | (refine rg 2 ?_; (first | refine sp (po_func rfl (ac .nil)) ?_ | refine sp (po_func_cl rfl (.cons rfl rfl .nil)) ?_); refine oAs ?_; refine oN ?_) | (refine rg 3 ?_; refine oMv ?_; refine oMv ?_; refine sp (po_rem rfl rfl rfl (by omega)) ?_; (first | refine sops_lcall_tclo (args := [_]) (caps := [_]) (c0) (fun i => bif Nat.beq i 2000 then 3 else i) (fun i => i) (fun _ => false) (.free rfl rfl) rfl rfl rfl rfl (by first | ((repeat' (first | exact .nil | refine .cons rfl rfl rfl ?_ | refine .vw rfl (by first | exact .t _ | exact .own rfl (by first | rfl | assumption | (simp; done) | (simp; omega)) | exact .nil _ | exact .emp _ | exact .fn _) ?_)) <;> fail) | fail) (.cons rfl rfl .nil) .nil rfl rfl (fun _ h => Bool.noConfusion h) ?_ | refine sops_lcall_clo (args := [_]) (caps0 := [_]) (c0) (fun i => bif Nat.beq i 2000 then 3 else i) (fun i => i) (fun _ => false) (.free rfl rfl) rfl rfl rfl rfl rfl rfl (by first | ((repeat' (first | exact .nil | refine .cons rfl rfl rfl ?_ | refine .vw rfl (by first | exact .t _ | exact .own rfl (by first | rfl | assumption | (simp; done) | (simp; omega)) | exact .nil _ | exact .emp _ | exact .fn _) ?_)) <;> fail) | fail) (.cons rfl rfl .nil) .nil rfl rfl (fun _ h => Bool.noConfusion h) ?_); refine oN ?_) | refine gc ?_ | refine ct ?_ | refine cf ?_ | refine swp_cond rfl (fun hc => ?_) (fun hc => ?_) | refine rq rfl (rt .nil) ?_)
  refine swp_for (fun k => ⟨[(0, .t (.v (.int .i64 ((n / 10 ^ k : Nat) : Int)))), (3, .bp 3 0), (4, .cl 32 [.bp 3 0])], [(3, [.t (.v (.string (bs (sK n k))))])], []⟩) (fun _ => True) (dm n) (weak_sub (.cons rfl (by first | rfl | ((simp; try rfl))) rfl (.cons rfl (by first | rfl | ((simp; try rfl))) rfl (.cons rfl (by first | rfl | ((simp; try rfl))) rfl .nil))) (.cons rfl (by first | rfl | ((simp; try rfl))) rfl .nil) .nil) trivial ?_
  intro k hk _
  by_cases hlt : k < dm n
  · have h9 := dm_lt hlt
    have h3 := dm_3 n
    have hq : n / 10 ^ k / 10 = n / 10 ^ (k + 1) := by
      rw [Nat.div_div_eq_div_mul, ← Nat.pow_succ]
    have hb : n / 10 ^ k ≤ 9999 := Nat.le_trans (Nat.div_le_self _ _) hn
    have c1 := put_ (((n / 10 ^ k / 10 : Nat) : Int).tmod 10) (digC (n / 10 ^ (k + 1))) (by rw [hq, rem_nat, digC_nat]; omega) (bs (sK n k)) (by rw [bs_size, sK_len]; omega)
    rw [bs_one] at c1
    repeat' (first | refine for_next hlt (weak_sub (.cons rfl (by first | rfl | (first | rfl | exact congrArg (fun n : Nat => A.t (T.v (Value.int .i64 (n : Int)))) hq | exact congrArg (fun n : Nat => A.t (T.v (Value.int .i64 (n : Int)))) hq.symm)) rfl (.cons rfl (by first | rfl | (first | rfl | exact congrArg (fun n : Nat => A.t (T.v (Value.int .i64 (n : Int)))) hq | exact congrArg (fun n : Nat => A.t (T.v (Value.int .i64 (n : Int)))) hq.symm)) rfl (.cons rfl (by first | rfl | (first | rfl | exact congrArg (fun n : Nat => A.t (T.v (Value.int .i64 (n : Int)))) hq | exact congrArg (fun n : Nat => A.t (T.v (Value.int .i64 (n : Int)))) hq.symm)) rfl .nil))) (.cons rfl (by first | rfl | (first | rfl | exact congrArg (fun n : Nat => A.t (T.v (Value.int .i64 (n : Int)))) hq | exact congrArg (fun n : Nat => A.t (T.v (Value.int .i64 (n : Int)))) hq.symm)) rfl .nil) .nil) trivial | (refine rg 4 ?_; refine oMv ?_; refine oCm ?_; refine oN ?_) | (refine rg 6 ?_; refine oMv ?_; (first | refine sp (po_quoN (d := 10) rfl rfl rfl (by omega) (by omega)) ?_ | refine sp (po_quo rfl rfl rfl (by omega)) ?_); refine oAs ?_; refine oN ?_) | (refine rg 5 ?_; refine oMv ?_; refine oMv ?_; (first | refine sp (po_quoN (d := 10) rfl rfl rfl (by omega) (by omega)) ?_ | refine sp (po_rem rfl rfl rfl (by omega)) ?_); (first | refine sops_lcall_tclo (args := [_]) (caps := [_]) (c1) (fun i => bif Nat.beq i 2000 then 3 else i) (fun i => i) (fun _ => false) (.free rfl rfl) rfl rfl rfl rfl (by first | ((repeat' (first | exact .nil | refine .cons rfl rfl rfl ?_ | refine .vw rfl (by first | exact .t _ | exact .own rfl (by first | rfl | assumption | (simp; done) | (simp; omega)) | exact .nil _ | exact .emp _ | exact .fn _) ?_)) <;> fail) | fail) (.cons rfl rfl .nil) .nil rfl rfl (fun _ h => Bool.noConfusion h) ?_ | refine sops_lcall_clo (args := [_]) (caps0 := [_]) (c1) (fun i => bif Nat.beq i 2000 then 3 else i) (fun i => i) (fun _ => false) (.free rfl rfl) rfl rfl rfl rfl rfl rfl (by first | ((repeat' (first | exact .nil | refine .cons rfl rfl rfl ?_ | refine .vw rfl (by first | exact .t _ | exact .own rfl (by first | rfl | assumption | (simp; done) | (simp; omega)) | exact .nil _ | exact .emp _ | exact .fn _) ?_)) <;> fail) | fail) (.cons rfl rfl .nil) .nil rfl rfl (fun _ h => Bool.noConfusion h) ?_); refine oN ?_) | refine gc ?_ | refine ct ?_ | refine cf ?_ | refine swp_cond rfl (fun hc => ?_) (fun hc => ?_) | refine rq rfl (rt .nil) ?_)
  · obtain rfl : k = dm n := by omega
    have h9 := dm_eq hn
    unfold digitsP
    repeat' (first | (refine rg 4 ?_; refine oMv ?_; refine oCm ?_; refine oN ?_) | (refine rg 7 ?_; (first | refine oLb ?_ | refine oLd ?_ | refine sp (ldo rfl) ?_); refine oAs ?_; refine oN ?_) | refine gc ?_ | refine ct ?_ | refine cf ?_ | refine swp_cond rfl (fun hc => ?_) (fun hc => ?_) | refine rq rfl (rt .nil) ?_)
    rfl
end Go.Proofs.YtpncekdhigappaaDoor.An

/- Answers: what a code is called; an answer as a message; a number of three digits; walks. -/
namespace Go.Proofs.YtpncekdhigappaaDoor.An
set_option linter.unusedVariables false
set_option linter.unusedSimpArgs false
open Go.RowKit Mem Sim Opn Hd Str Rq
def reasonP (c : Int) : ByteArray :=
  if c = 200 then ⟨#[79, 75]⟩
  else if c = 204 then ⟨#[78, 111, 32, 67, 111, 110, 116, 101, 110, 116]⟩
  else if c = 400 then ⟨#[66, 97, 100, 32, 82, 101, 113, 117, 101, 115, 116]⟩
  else if c = 403 then ⟨#[70, 111, 114, 98, 105, 100, 100, 101, 110]⟩
  else if c = 404 then ⟨#[78, 111, 116, 32, 70, 111, 117, 110, 100]⟩
  else if c = 502 then ⟨#[66, 97, 100, 32, 71, 97, 116, 101, 119, 97, 121]⟩
  else if c = 503 then ⟨#[83, 101, 114, 118, 105, 99, 101, 32, 85, 110, 97, 118, 97, 105, 108, 97, 98, 108, 101]⟩
  else ⟨#[79, 116, 104, 101, 114]⟩
theorem reason_size (c : Int) : (reasonP c).size ≤ 19 := by
  unfold reasonP
  repeat' split
  all_goals decide
set_option maxRecDepth 100000 in
set_option maxHeartbeats 2000000 in
theorem reason_ (c : Int) : PCalls Tryd.prog 42 [.v (.int .i64 c)] (.v (.string (reasonP c))) := by
  unfold reasonP
  refine pcalls_of Tryd.func42 rfl rfl Tryd.ntmps42 rfl ?_
  by_cases h1 : c = 200
  · rw [if_pos h1]
    repeat' (first | (refine rg 0 ?_; refine oAs ?_; refine oN ?_) | (refine rg 1 ?_; refine oMv ?_; refine oN ?_) | (refine rg 2 ?_; refine oCm ?_; refine oAs ?_; refine oN ?_) | (refine rg 3 ?_; refine oAs ?_; refine oN ?_) | refine gc ?_ | refine ct ?_ | refine cf ?_ | refine swp_cond rfl (fun hc => ?_) (fun hc => ?_) | refine rq rfl (rt .nil) ?_)
    rfl
  · rw [if_neg h1]
    by_cases h2 : c = 204
    · rw [if_pos h2]
      repeat' (first | (refine rg 0 ?_; refine oAs ?_; refine oN ?_) | (refine rg 1 ?_; refine oMv ?_; refine oN ?_) | (refine rg 2 ?_; refine oCm ?_; refine oAs ?_; refine oN ?_) | (refine rg 4 ?_; refine oCm ?_; refine oAs ?_; refine oN ?_) | (refine rg 5 ?_; refine oAs ?_; refine oN ?_) | refine gc ?_ | refine ct ?_ | refine cf ?_ | refine swp_cond rfl (fun hc => ?_) (fun hc => ?_) | refine rq rfl (rt .nil) ?_)
      rfl
    · rw [if_neg h2]
      by_cases h3 : c = 400
      · rw [if_pos h3]
        repeat' (first | (refine rg 0 ?_; refine oAs ?_; refine oN ?_) | (refine rg 1 ?_; refine oMv ?_; refine oN ?_) | (refine rg 2 ?_; refine oCm ?_; refine oAs ?_; refine oN ?_) | (refine rg 4 ?_; refine oCm ?_; refine oAs ?_; refine oN ?_) | (refine rg 6 ?_; refine oCm ?_; refine oAs ?_; refine oN ?_) | (refine rg 7 ?_; refine oAs ?_; refine oN ?_) | refine gc ?_ | refine ct ?_ | refine cf ?_ | refine swp_cond rfl (fun hc => ?_) (fun hc => ?_) | refine rq rfl (rt .nil) ?_)
        rfl
      · rw [if_neg h3]
        by_cases h4 : c = 403
        · rw [if_pos h4]
          repeat' (first | (refine rg 0 ?_; refine oAs ?_; refine oN ?_) | (refine rg 1 ?_; refine oMv ?_; refine oN ?_) | (refine rg 2 ?_; refine oCm ?_; refine oAs ?_; refine oN ?_) | (refine rg 4 ?_; refine oCm ?_; refine oAs ?_; refine oN ?_) | (refine rg 6 ?_; refine oCm ?_; refine oAs ?_; refine oN ?_) | (refine rg 8 ?_; refine oCm ?_; refine oAs ?_; refine oN ?_) | (refine rg 9 ?_; refine oAs ?_; refine oN ?_) | refine gc ?_ | refine ct ?_ | refine cf ?_ | refine swp_cond rfl (fun hc => ?_) (fun hc => ?_) | refine rq rfl (rt .nil) ?_)
          rfl
        · rw [if_neg h4]
          by_cases h5 : c = 404
          · rw [if_pos h5]
            repeat' (first | (refine rg 0 ?_; refine oAs ?_; refine oN ?_) | (refine rg 1 ?_; refine oMv ?_; refine oN ?_) | (refine rg 2 ?_; refine oCm ?_; refine oAs ?_; refine oN ?_) | (refine rg 4 ?_; refine oCm ?_; refine oAs ?_; refine oN ?_) | (refine rg 6 ?_; refine oCm ?_; refine oAs ?_; refine oN ?_) | (refine rg 8 ?_; refine oCm ?_; refine oAs ?_; refine oN ?_) | (refine rg 10 ?_; refine oCm ?_; refine oAs ?_; refine oN ?_) | (refine rg 11 ?_; refine oAs ?_; refine oN ?_) | refine gc ?_ | refine ct ?_ | refine cf ?_ | refine swp_cond rfl (fun hc => ?_) (fun hc => ?_) | refine rq rfl (rt .nil) ?_)
            rfl
          · rw [if_neg h5]
            by_cases h6 : c = 502
            · rw [if_pos h6]
              repeat' (first | (refine rg 0 ?_; refine oAs ?_; refine oN ?_) | (refine rg 1 ?_; refine oMv ?_; refine oN ?_) | (refine rg 2 ?_; refine oCm ?_; refine oAs ?_; refine oN ?_) | (refine rg 4 ?_; refine oCm ?_; refine oAs ?_; refine oN ?_) | (refine rg 6 ?_; refine oCm ?_; refine oAs ?_; refine oN ?_) | (refine rg 8 ?_; refine oCm ?_; refine oAs ?_; refine oN ?_) | (refine rg 10 ?_; refine oCm ?_; refine oAs ?_; refine oN ?_) | (refine rg 12 ?_; refine oCm ?_; refine oAs ?_; refine oN ?_) | (refine rg 13 ?_; refine oAs ?_; refine oN ?_) | refine gc ?_ | refine ct ?_ | refine cf ?_ | refine swp_cond rfl (fun hc => ?_) (fun hc => ?_) | refine rq rfl (rt .nil) ?_)
              rfl
            · rw [if_neg h6]
              by_cases h7 : c = 503
              · rw [if_pos h7]
                repeat' (first | (refine rg 0 ?_; refine oAs ?_; refine oN ?_) | (refine rg 1 ?_; refine oMv ?_; refine oN ?_) | (refine rg 2 ?_; refine oCm ?_; refine oAs ?_; refine oN ?_) | (refine rg 4 ?_; refine oCm ?_; refine oAs ?_; refine oN ?_) | (refine rg 6 ?_; refine oCm ?_; refine oAs ?_; refine oN ?_) | (refine rg 8 ?_; refine oCm ?_; refine oAs ?_; refine oN ?_) | (refine rg 10 ?_; refine oCm ?_; refine oAs ?_; refine oN ?_) | (refine rg 12 ?_; refine oCm ?_; refine oAs ?_; refine oN ?_) | (refine rg 14 ?_; refine oCm ?_; refine oAs ?_; refine oN ?_) | (refine rg 15 ?_; refine oAs ?_; refine oN ?_) | refine gc ?_ | refine ct ?_ | refine cf ?_ | refine swp_cond rfl (fun hc => ?_) (fun hc => ?_) | refine rq rfl (rt .nil) ?_)
                rfl
              · rw [if_neg h7]
                repeat' (first | (refine rg 0 ?_; refine oAs ?_; refine oN ?_) | (refine rg 1 ?_; refine oMv ?_; refine oN ?_) | (refine rg 2 ?_; refine oCm ?_; refine oAs ?_; refine oN ?_) | (refine rg 4 ?_; refine oCm ?_; refine oAs ?_; refine oN ?_) | (refine rg 6 ?_; refine oCm ?_; refine oAs ?_; refine oN ?_) | (refine rg 8 ?_; refine oCm ?_; refine oAs ?_; refine oN ?_) | (refine rg 10 ?_; refine oCm ?_; refine oAs ?_; refine oN ?_) | (refine rg 12 ?_; refine oCm ?_; refine oAs ?_; refine oN ?_) | (refine rg 14 ?_; refine oCm ?_; refine oAs ?_; refine oN ?_) | (refine rg 16 ?_; refine oAs ?_; refine oN ?_) | refine gc ?_ | refine ct ?_ | refine cf ?_ | refine swp_cond rfl (fun hc => ?_) (fun hc => ?_) | refine rq rfl (rt .nil) ?_)
                rfl
def befS : ByteArray := ⟨#[72, 84, 84, 80, 47, 49, 46, 49, 32]⟩
def startS (n : Nat) : ByteArray := befS ++ digitsP n ++ ⟨#[32]⟩ ++ reasonP n
theorem digitsP_size (n : Nat) : (digitsP n).size ≤ 4 := by
  unfold digitsP
  have := dm_3 n
  rw [bs_size, sK_len]; omega
set_option maxRecDepth 100000 in
set_option maxHeartbeats 2000000 in
theorem raw_ (n : Nat) (hn : n ≤ 9999) (l : List Pl.Head) (b : List UInt8) : PCalls Tryd.prog 21 [.agg (ansT ⟨n, l, b⟩)] (.agg (rawT ⟨startS n, l, b⟩)) := by
  have c1 := digits_ n hn
  have c2 := reason_ n
  have h1 := digitsP_size n
  have h2 := reason_size n
  have h3 : (⟨#[72, 84, 84, 80, 47, 49, 46, 49, 32]⟩ : ByteArray).size = 9 := rfl
  have h4 : (⟨#[72, 84, 84, 80, 47, 49, 46, 49, 32]⟩ ++ digitsP n : ByteArray).size = 9 + (digitsP n).size := by rw [ByteArray.size_append, h3]
  have h5 : (⟨#[32]⟩ : ByteArray).size = 1 := rfl
  have h6 : (⟨#[72, 84, 84, 80, 47, 49, 46, 49, 32]⟩ ++ digitsP n ++ ⟨#[32]⟩ : ByteArray).size = 10 + (digitsP n).size := by rw [ByteArray.size_append, h4, h5]; omega
  unfold ansT
  refine pcalls_of Tryd.func21 rfl rfl Tryd.ntmps21 rfl ?_
  repeat' (first | (refine rg 0 ?_; refine sbx ?_; refine sal str43 ?_; refine oN ?_) | (refine swp_draw (id := 1) 14 mixed (by kernel_rfl) (by kernel_rfl) ?_; (first | refine dFb ?_ | refine dFd ?_); (first | refine dLb ?_ | refine dLd ?_); (first | refine dC (c1) rfl (ac .nil) ?_ | refine dC (c2) rfl (ac .nil) ?_); refine dp (po_cat rfl rfl rfl (by omega)) ?_; refine dp (po_cat rfl rfl rfl (by omega)) ?_; (first | refine dFb ?_ | refine dFd ?_); (first | refine dLb ?_ | refine dLd ?_); (first | refine dC (c1) rfl (ac .nil) ?_ | refine dC (c2) rfl (ac .nil) ?_); refine dp (po_cat rfl rfl rfl (by omega)) ?_; (first | refine dFb ?_ | refine dFd ?_); (first | refine dLb ?_ | refine dLd ?_); (first | refine dFb ?_ | refine dFd ?_); (first | refine dLb ?_ | refine dLd ?_); refine dp (po_buildS str43 rfl (pc (pc (pc .nil))) rfl) ?_; refine dN ?_; refine oS ?_; refine oN ?_) | refine gc ?_ | refine ct ?_ | refine cf ?_ | refine swp_cond rfl (fun hc => ?_) (fun hc => ?_) | refine rq rfl (.cell rfl rfl (tyT rfl) (vc (vc (vc .nil))) rfl .nil) ?_)
  rfl
end Go.Proofs.YtpncekdhigappaaDoor.An

/- Headers, answers, messages: whether two are the same; walks. -/
namespace Go.Proofs.YtpncekdhigappaaDoor.An
set_option linter.unusedVariables false
set_option linter.unusedSimpArgs false
open Go.RowKit Mem Sim Opn Hd Str Rq
instance decHead : DecidableEq Pl.Head := fun a b => if h : heqB a b = true then .isTrue ((heqB_iff a b).1 h) else .isFalse fun e => h ((heqB_iff a b).2 e)
end Go.Proofs.YtpncekdhigappaaDoor.An

/- Answers: a text's beginning; is a text plain; walks. -/
namespace Go.Proofs.YtpncekdhigappaaDoor.An
set_option linter.unusedVariables false
set_option linter.unusedSimpArgs false
open Go.RowKit Mem Sim Opn Hd Str Rq
def hasP (s p : ByteArray) : Bool := decide (p.size ≤ s.size) && decide (s.extract 0 p.size = p)
def cutP (s p : ByteArray) : T := if hasP s p then .tup [.v (.string (s.extract p.size s.size)), .v (.bool true)] else .tup [.v (.string s), .v (.bool false)]
set_option maxRecDepth 100000 in
set_option maxHeartbeats 1000000 in
theorem hasPrefix_ (s p : ByteArray) (hs : s.size ≤ maxLen) : PCalls Tryd.prog 59 [.v (.string s), .v (.string p)] (.v (.bool (hasP s p))) := by
  unfold maxLen at hs
  unfold hasP
  refine pcalls_of Tryd.func59 rfl rfl Tryd.ntmps59 rfl ?_
  by_cases h : p.size ≤ s.size
  · rw [decide_eq_true h]
    repeat' (first | (refine rg 0 ?_; refine oAs ?_; refine oN ?_) | (refine rg 1 ?_; refine oMv ?_; refine sp (po_len_str rfl rfl (tyR rfl)) ?_; refine oMv ?_; refine sp (po_len_str rfl rfl (tyR rfl)) ?_; refine oCm ?_; refine oMv ?_; (first | refine oMv ?_ | refine oK ?_ | ((refine ssp (fun hc => ?_) (fun hc => ?_)) <;> first | refine oMv ?_ | refine oK ?_)) <;> (first | refine oMv ?_ | refine oK ?_) <;> (first | refine sp (po_len_str rfl rfl (tyR rfl)) ?_ | refine oK ?_) <;> (first | refine sp (po_slice_str rfl rfl (tyR rfl) (by first | rfl | exact ⟨_, rfl⟩) (by first | rfl | exact ⟨_, rfl⟩) (by omega) (by omega)) ?_ | refine oK ?_) <;> (first | refine oMv ?_ | refine oK ?_) <;> (first | refine sp (po_str rfl rfl rfl rfl) ?_ | refine oK ?_) <;> (first | refine oPt ?_ | refine oPf ?_) <;> (refine oAs ?_) <;> (refine oN ?_)) | refine gc ?_ | refine ct ?_ | refine cf ?_ | refine swp_cond rfl (fun hc => ?_) (fun hc => ?_) | refine rq rfl (rt .nil) ?_)
    rfl
  · rw [decide_eq_false h]
    repeat' (first | (refine rg 0 ?_; refine oAs ?_; refine oN ?_) | (refine rg 1 ?_; refine oMv ?_; refine sp (po_len_str rfl rfl (tyR rfl)) ?_; refine oMv ?_; refine sp (po_len_str rfl rfl (tyR rfl)) ?_; refine oCm ?_; refine oMv ?_; (first | refine oMv ?_ | refine oK ?_ | ((refine ssp (fun hc => ?_) (fun hc => ?_)) <;> first | refine oMv ?_ | refine oK ?_)) <;> (first | refine oMv ?_ | refine oK ?_) <;> (first | refine sp (po_len_str rfl rfl (tyR rfl)) ?_ | refine oK ?_) <;> (first | refine sp (po_slice_str rfl rfl (tyR rfl) (by first | rfl | exact ⟨_, rfl⟩) (by first | rfl | exact ⟨_, rfl⟩) (by omega) (by omega)) ?_ | refine oK ?_) <;> (first | refine oMv ?_ | refine oK ?_) <;> (first | refine sp (po_str rfl rfl rfl rfl) ?_ | refine oK ?_) <;> (first | refine oPt ?_ | refine oPf ?_) <;> (refine oAs ?_) <;> (refine oN ?_)) | refine gc ?_ | refine ct ?_ | refine cf ?_ | refine swp_cond rfl (fun hc => ?_) (fun hc => ?_) | refine rq rfl (rt .nil) ?_)
    rfl
set_option maxRecDepth 100000 in
set_option maxHeartbeats 1000000 in
theorem cutPrefix1_ (s p : ByteArray) (hs : s.size ≤ maxLen) : PCalls Tryd.prog 47 [.v (.string s), .v (.string p)] (cutP s p) := by
  have c1 := hasPrefix_ s p hs
  unfold maxLen at hs
  unfold cutP
  refine pcalls_of Tryd.func47 rfl rfl Tryd.ntmps47 rfl ?_
  cases h : hasP s p with
  | true =>
    have hle : p.size ≤ s.size := by unfold hasP at h; simp at h; exact h.1
    rw [h] at c1
    repeat' (first | (refine rg 0 ?_; refine oAs ?_; refine oAs ?_; refine oN ?_) | (refine rg 1 ?_; refine oMv ?_; refine oMv ?_; refine oC (c1) rfl (ac (ac .nil)) ?_; refine sp (po_not rfl rfl) ?_; refine oN ?_) | (refine rg 3 ?_; refine oMv ?_; refine oMv ?_; refine sp (po_len_str rfl rfl (tyR rfl)) ?_; refine sp (po_slice_str rfl rfl (tyR rfl) (by first | rfl | exact ⟨_, rfl⟩) (by first | rfl | exact ⟨_, rfl⟩) (by omega) (by omega)) ?_; refine oAs ?_; refine oAs ?_; refine oN ?_) | refine gc ?_ | refine ct ?_ | refine cf ?_ | refine swp_cond rfl (fun hc => ?_) (fun hc => ?_) | refine rq rfl (rt (rt .nil)) ?_)
    rfl
  | false =>
    rw [h] at c1
    repeat' (first | (refine rg 0 ?_; refine oAs ?_; refine oAs ?_; refine oN ?_) | (refine rg 1 ?_; refine oMv ?_; refine oMv ?_; refine oC (c1) rfl (ac (ac .nil)) ?_; refine sp (po_not rfl rfl) ?_; refine oN ?_) | (refine rg 2 ?_; refine oMv ?_; refine oAs ?_; refine oAs ?_; refine oN ?_) | refine gc ?_ | refine ct ?_ | refine cf ?_ | refine swp_cond rfl (fun hc => ?_) (fun hc => ?_) | refine rq rfl (rt (rt .nil)) ?_)
    rfl
set_option maxRecDepth 100000 in
set_option maxHeartbeats 1000000 in
theorem cutPrefix_ (s p : ByteArray) (hs : s.size ≤ maxLen) : PCalls Tryd.prog 25 [.v (.string s), .v (.string p)] (cutP s p) := by
  have c1 := cutPrefix1_ s p hs
  unfold cutP at c1 ⊢
  refine pcalls_of Tryd.func25 rfl rfl Tryd.ntmps25 rfl ?_
  cases h : hasP s p with
  | true =>
    rw [h, if_pos rfl] at c1
    repeat' (first | (refine rg 0 ?_; refine oAs ?_; refine oAs ?_; refine oN ?_) | (refine rg 1 ?_; refine oMv ?_; refine oMv ?_; refine oC (c1) rfl (ac (ac .nil)) ?_; refine oEx ?_; refine oEx ?_; refine oAs ?_; refine oAs ?_; refine oN ?_) | refine gc ?_ | refine ct ?_ | refine cf ?_ | refine swp_cond rfl (fun hc => ?_) (fun hc => ?_) | refine rq rfl (rt (rt .nil)) ?_)
    rfl
  | false =>
    rw [h, if_neg (by simp)] at c1
    repeat' (first | (refine rg 0 ?_; refine oAs ?_; refine oAs ?_; refine oN ?_) | (refine rg 1 ?_; refine oMv ?_; refine oMv ?_; refine oC (c1) rfl (ac (ac .nil)) ?_; refine oEx ?_; refine oEx ?_; refine oAs ?_; refine oAs ?_; refine oN ?_) | refine gc ?_ | refine ct ?_ | refine cf ?_ | refine swp_cond rfl (fun hc => ?_) (fun hc => ?_) | refine rq rfl (rt (rt .nil)) ?_)
    rfl
set_option maxRecDepth 100000 in
theorem of1_ (c : Nat) : PCalls Tryd.prog 31 [.v (.int .i32 (c : Int))] (.v (.bool (oddR c))) := by
  have h2 : decide (126 < (c : Int)) = decide (126 < c) := by by_cases h : 126 < c <;> simp [h] <;> omega
  unfold oddR
  refine pcalls_of Tryd.func31 rfl rfl Tryd.ntmps31 rfl ?_
  by_cases h : c < 32
  · rw [decide_eq_true h]
    repeat' (first | (refine rg 0 ?_; refine oAs ?_; refine oN ?_) | (refine rg 1 ?_; refine oMv ?_; refine oCm ?_; refine oMv ?_; (first | refine oMv ?_ | refine oK ?_ | ((refine ssp (fun hc => ?_) (fun hc => ?_)) <;> first | refine oMv ?_ | refine oK ?_)) <;> (first | refine oCm ?_ | refine oK ?_) <;> (first | refine oPt ?_ | refine oPf ?_) <;> (refine oAs ?_) <;> (refine oN ?_)) | refine gc ?_ | refine ct ?_ | refine cf ?_ | refine swp_cond rfl (fun hc => ?_) (fun hc => ?_) | refine rq rfl (rt .nil) ?_)
    rfl
  · rw [decide_eq_false h]
    repeat' (first | (refine rg 0 ?_; refine oAs ?_; refine oN ?_) | (refine rg 1 ?_; refine oMv ?_; refine oCm ?_; refine oMv ?_; (first | refine oMv ?_ | refine oK ?_ | ((refine ssp (fun hc => ?_) (fun hc => ?_)) <;> first | refine oMv ?_ | refine oK ?_)) <;> (first | refine oCm ?_ | refine oK ?_) <;> (first | refine oPt ?_ | refine oPf ?_) <;> (refine oAs ?_) <;> (refine oN ?_)) | refine gc ?_ | refine ct ?_ | refine cf ?_ | refine swp_cond rfl (fun hc => ?_) (fun hc => ?_) | refine rq rfl (rt .nil) ?_)
    rw [← h2]; rfl
set_option maxRecDepth 100000 in
theorem write1_ (c : Nat) : PCalls Tryd.prog 37 [.v (.int .i32 (c : Int))] (.v (.bool (oddR c))) := by
  have h2 : decide (126 < (c : Int)) = decide (126 < c) := by by_cases h : 126 < c <;> simp [h] <;> omega
  unfold oddR
  refine pcalls_of Tryd.func37 rfl rfl Tryd.ntmps37 rfl ?_
  by_cases h : c < 32
  · rw [decide_eq_true h]
    repeat' (first | (refine rg 0 ?_; refine oAs ?_; refine oN ?_) | (refine rg 1 ?_; refine oMv ?_; refine oCm ?_; refine oMv ?_; (first | refine oMv ?_ | refine oK ?_ | ((refine ssp (fun hc => ?_) (fun hc => ?_)) <;> first | refine oMv ?_ | refine oK ?_)) <;> (first | refine oCm ?_ | refine oK ?_) <;> (first | refine oPt ?_ | refine oPf ?_) <;> (refine oAs ?_) <;> (refine oN ?_)) | refine gc ?_ | refine ct ?_ | refine cf ?_ | refine swp_cond rfl (fun hc => ?_) (fun hc => ?_) | refine rq rfl (rt .nil) ?_)
    rfl
  · rw [decide_eq_false h]
    repeat' (first | (refine rg 0 ?_; refine oAs ?_; refine oN ?_) | (refine rg 1 ?_; refine oMv ?_; refine oCm ?_; refine oMv ?_; (first | refine oMv ?_ | refine oK ?_ | ((refine ssp (fun hc => ?_) (fun hc => ?_)) <;> first | refine oMv ?_ | refine oK ?_)) <;> (first | refine oCm ?_ | refine oK ?_) <;> (first | refine oPt ?_ | refine oPf ?_) <;> (refine oAs ?_) <;> (refine oN ?_)) | refine gc ?_ | refine ct ?_ | refine cf ?_ | refine swp_cond rfl (fun hc => ?_) (fun hc => ?_) | refine rq rfl (rt .nil) ?_)
    rw [← h2]; rfl
end Go.Proofs.YtpncekdhigappaaDoor.An
