/- The law PathAlike: a walk. -/
import Derived.Test.YtkmhaijefpgfiaaDoorQ20
import Derived.Test.YtkmhaijefpgfiaaDoorQ21
import Derived.Test.YtkmhaijefpgfiaaDoorQ18
namespace Go.Proofs.YtkmhaijefpgfiaaDoor.PathAlike
set_option linter.unusedVariables false
set_option linter.unusedSimpArgs false
open Go.RowKit Mem Sim Opn Str Pth
def let2 (n : Nat) : Bool := decide (97 ≤ n ∧ n ≤ 122) || decide (48 ≤ n ∧ n ≤ 57)
def behB (l : L8) (k : Nat) : Bool := (decide (1 ≤ k) && decide (l[k - 1]? = some 37)) || (decide (2 ≤ k) && decide (l[k - 2]? = some 37))
abbrev B7 (s : ByteArray) (k : Nat) (what : Int) (p q : L8) (n : Nat) : List (Nat × A) := [(0, .t (.v (.string s))), (1, .t (.v (.int .i64 (k : Int)))), (2, .t (.v (.int .i64 what))), (7, .t (.v (.string (bs p)))), (8, .t (.v (.string (bs q)))), (11, .t (.v (.string s))), (12, .t (.v (.int .u8 (n : Int))))]
set_option maxRecDepth 100000 in
set_option maxHeartbeats 1000000 in
theorem r13_ {c : Code} (hc : fR 13 (bodyOf Tryd.f3) = some c) {Q : Exit → St → Prop} (s : ByteArray) (k : Nat) (what : Int) (p q : L8) (n : Nat) (h : Q .normal ⟨(13, .t (.v (.bool (let2 n)))) :: B7 s k what p q n, [], []⟩) : SWp Tryd.prog Tryd.f3.ntmps c Q ⟨B7 s k what p q n, [], []⟩ := by
  obtain rfl := Option.some.inj hc
  clear hc
  refine swp_joinQ _ ?_ h
  clear h
  rcases (by omega : n < 48 ∨ (48 ≤ n ∧ n ≤ 57) ∨ (57 < n ∧ n < 97) ∨ (97 ≤ n ∧ n ≤ 122) ∨ 122 < n) with h | h | h | h | h
  all_goals
    repeat' (first | refine gc ?_ | refine join_go (weak_sub (.cons rfl (by first | rfl | (exact congrArg (fun b => A.t (T.v (Value.bool b))) (by unfold let2; rw [Bool.eq_iff_iff]; first | (simp; done) | (simp; omega)))) rfl (.cons rfl (by first | rfl | (exact congrArg (fun b => A.t (T.v (Value.bool b))) (by unfold let2; rw [Bool.eq_iff_iff]; first | (simp; done) | (simp; omega)))) rfl (.cons rfl (by first | rfl | (exact congrArg (fun b => A.t (T.v (Value.bool b))) (by unfold let2; rw [Bool.eq_iff_iff]; first | (simp; done) | (simp; omega)))) rfl (.cons rfl (by first | rfl | (exact congrArg (fun b => A.t (T.v (Value.bool b))) (by unfold let2; rw [Bool.eq_iff_iff]; first | (simp; done) | (simp; omega)))) rfl (.cons rfl (by first | rfl | (exact congrArg (fun b => A.t (T.v (Value.bool b))) (by unfold let2; rw [Bool.eq_iff_iff]; first | (simp; done) | (simp; omega)))) rfl (.cons rfl (by first | rfl | (exact congrArg (fun b => A.t (T.v (Value.bool b))) (by unfold let2; rw [Bool.eq_iff_iff]; first | (simp; done) | (simp; omega)))) rfl (.cons rfl (by first | rfl | (exact congrArg (fun b => A.t (T.v (Value.bool b))) (by unfold let2; rw [Bool.eq_iff_iff]; first | (simp; done) | (simp; omega)))) rfl (.cons rfl (by first | rfl | (exact congrArg (fun b => A.t (T.v (Value.bool b))) (by unfold let2; rw [Bool.eq_iff_iff]; first | (simp; done) | (simp; omega)))) rfl .nil)))))))) .nil .nil) | (refine rg 13 ?_; refine oMv ?_; refine oCm ?_; refine oMv ?_; (first | refine oMv ?_ | refine oK ?_ | ((refine ssp (fun hc => ?_) (fun hc => ?_)) <;> first | refine oMv ?_ | refine oK ?_)) <;> (first | refine oCm ?_ | refine oK ?_) <;> (first | refine oPt ?_ | refine oPf ?_) <;> (refine oMv ?_) <;> (first | refine oMv ?_ | refine oK ?_ | ((refine ssp (fun hc => ?_) (fun hc => ?_)) <;> first | refine oMv ?_ | refine oK ?_)) <;> (first | refine oCm ?_ | refine oK ?_) <;> (first | refine oMv ?_ | refine oK ?_) <;> (first | refine oMv ?_ | refine oK ?_ | ((refine ssp (fun hc => ?_) (fun hc => ?_)) <;> first | refine oMv ?_ | refine oK ?_)) <;> (first | refine oCm ?_ | refine oK ?_) <;> (first | refine oPt ?_ | refine oPf ?_ | refine oK ?_) <;> (first | refine oPt ?_ | refine oPf ?_) <;> (refine oAs ?_) <;> (refine oN ?_)) | refine ct ?_ | refine cf ?_ | refine swp_cond rfl (fun hc => ?_) (fun hc => ?_) | refine rq rfl (rt .nil) ?_)
theorem at_eq (s : ByteArray) {k : Nat} (h : k < s.size) : decide (s.toList[k]? = some 37) = decide (((s[k].toNat : Nat) : Int) = 37) := by
  rw [toList_get s k h]
  rw [Bool.eq_iff_iff]
  simp only [decide_eq_true_eq, Option.some.injEq]
  exact ⟨fun e => by rw [e]; rfl, fun e => UInt8.toNat_inj.1 (by show _ = 37; omega)⟩
set_option maxRecDepth 100000 in
set_option maxHeartbeats 1000000 in
theorem r14_ {c : Code} (hc : fR 14 (bodyOf Tryd.f3) = some c) {Q : Exit → St → Prop} (s : ByteArray) (k : Nat) (hk : k < s.size) (hs : s.size ≤ 300) (what : Int) (p q : L8) (n : Nat) (lb : Bool) (h : Q .normal ⟨(14, .t (.v (.bool (behB s.toList k)))) :: (13, .t (.v (.bool lb))) :: B7 s k what p q n, [], []⟩) : SWp Tryd.prog Tryd.f3.ntmps c Q ⟨(13, .t (.v (.bool lb))) :: B7 s k what p q n, [], []⟩ := by
  obtain rfl := Option.some.inj hc
  clear hc
  refine swp_joinQ _ ?_ h
  clear h
  unfold behB
  rcases (by omega : k = 0 ∨ k = 1 ∨ 2 ≤ k) with rfl | rfl | h2
  · repeat' (first | refine gc ?_ | refine join_go (weak_sub (.cons rfl rfl rfl (.cons rfl rfl rfl (.cons rfl rfl rfl (.cons rfl rfl rfl (.cons rfl rfl rfl (.cons rfl rfl rfl (.cons rfl rfl rfl (.cons rfl rfl rfl (.cons rfl rfl rfl .nil))))))))) .nil .nil) | (refine rg 14 ?_; refine oMv ?_; refine oCm ?_; refine oMv ?_; (first | refine oMv ?_ | refine oK ?_ | ((refine ssp (fun hc => ?_) (fun hc => ?_)) <;> first | refine oMv ?_ | refine oK ?_)) <;> (first | refine oMv ?_ | refine oK ?_) <;> (first | refine sp (po_dec rfl rfl rfl (by omega)) ?_ | refine sp (po_arith rfl rfl rfl (ar_sub (by first | rfl | (refine wrap_i64 ?_; omega)) rfl)) ?_ | refine oK ?_) <;> (first | refine sp (xist rfl) ?_ | refine oK ?_) <;> (first | refine oCm ?_ | refine oK ?_) <;> (first | refine oPt ?_ | refine oPf ?_) <;> (refine oMv ?_) <;> (first | refine oMv ?_ | refine oK ?_ | ((refine ssp (fun hc => ?_) (fun hc => ?_)) <;> first | refine oMv ?_ | refine oK ?_)) <;> (first | refine oCm ?_ | refine oK ?_) <;> (first | refine oMv ?_ | refine oK ?_) <;> (first | refine oMv ?_ | refine oK ?_ | ((refine ssp (fun hc => ?_) (fun hc => ?_)) <;> first | refine oMv ?_ | refine oK ?_)) <;> (first | refine oMv ?_ | refine oK ?_) <;> (first | refine sp (po_dec rfl rfl rfl (by omega)) ?_ | refine sp (po_arith rfl rfl rfl (ar_sub (by first | rfl | (refine wrap_i64 ?_; omega)) rfl)) ?_ | refine oK ?_) <;> (first | refine sp (xist rfl) ?_ | refine oK ?_) <;> (first | refine oCm ?_ | refine oK ?_) <;> (first | refine oPt ?_ | refine oPf ?_ | refine oK ?_) <;> (first | refine oPt ?_ | refine oPf ?_) <;> (refine oAs ?_) <;> (refine oN ?_)) | refine ct ?_ | refine cf ?_ | refine swp_cond rfl (fun hc => ?_) (fun hc => ?_) | refine rq rfl (rt .nil) ?_)
  · rw [show (1 : Nat) - 1 = 0 from rfl, at_eq s (by omega : 0 < s.size)]
    generalize hd : decide (((s[0].toNat : Nat) : Int) = 37) = d
    cases d
    all_goals
      repeat' (first | refine gc ?_ | refine join_go (weak_sub (.cons rfl (by first | rfl | (exact congrArg (fun b => A.t (T.v (Value.bool b))) hd)) rfl (.cons rfl (by first | rfl | (exact congrArg (fun b => A.t (T.v (Value.bool b))) hd)) rfl (.cons rfl (by first | rfl | (exact congrArg (fun b => A.t (T.v (Value.bool b))) hd)) rfl (.cons rfl (by first | rfl | (exact congrArg (fun b => A.t (T.v (Value.bool b))) hd)) rfl (.cons rfl (by first | rfl | (exact congrArg (fun b => A.t (T.v (Value.bool b))) hd)) rfl (.cons rfl (by first | rfl | (exact congrArg (fun b => A.t (T.v (Value.bool b))) hd)) rfl (.cons rfl (by first | rfl | (exact congrArg (fun b => A.t (T.v (Value.bool b))) hd)) rfl (.cons rfl (by first | rfl | (exact congrArg (fun b => A.t (T.v (Value.bool b))) hd)) rfl (.cons rfl (by first | rfl | (exact congrArg (fun b => A.t (T.v (Value.bool b))) hd)) rfl .nil))))))))) .nil .nil) | (refine rg 14 ?_; refine oMv ?_; refine oCm ?_; refine oMv ?_; (first | refine oMv ?_ | refine oK ?_ | ((refine ssp (fun hc => ?_) (fun hc => ?_)) <;> first | refine oMv ?_ | refine oK ?_)) <;> (first | refine oMv ?_ | refine oK ?_) <;> (first | refine sp (po_dec rfl rfl rfl (by omega)) ?_ | refine sp (po_arith rfl rfl rfl (ar_sub (by first | rfl | (refine wrap_i64 ?_; omega)) rfl)) ?_ | refine oK ?_) <;> (first | refine sp (xist rfl) ?_ | refine oK ?_) <;> (first | refine oCm ?_ | refine oK ?_) <;> (first | refine oPt ?_ | refine oPf ?_) <;> (refine oMv ?_) <;> (first | refine oMv ?_ | refine oK ?_ | ((refine ssp (fun hc => ?_) (fun hc => ?_)) <;> first | refine oMv ?_ | refine oK ?_)) <;> (first | refine oCm ?_ | refine oK ?_) <;> (first | refine oMv ?_ | refine oK ?_) <;> (first | refine oMv ?_ | refine oK ?_ | ((refine ssp (fun hc => ?_) (fun hc => ?_)) <;> first | refine oMv ?_ | refine oK ?_)) <;> (first | refine oMv ?_ | refine oK ?_) <;> (first | refine sp (po_dec rfl rfl rfl (by omega)) ?_ | refine sp (po_arith rfl rfl rfl (ar_sub (by first | rfl | (refine wrap_i64 ?_; omega)) rfl)) ?_ | refine oK ?_) <;> (first | refine sp (xist rfl) ?_ | refine oK ?_) <;> (first | refine oCm ?_ | refine oK ?_) <;> (first | refine oPt ?_ | refine oPf ?_ | refine oK ?_) <;> (first | refine oPt ?_ | refine oPf ?_) <;> (refine oAs ?_) <;> (refine oN ?_)) | refine ct ?_ | refine cf ?_ | refine swp_cond rfl (fun hc => ?_) (fun hc => ?_) | refine rq rfl (rt .nil) ?_)
  · rw [at_eq s (by omega : k - 1 < s.size), at_eq s (by omega : k - 2 < s.size), decide_eq_true (by omega : 1 ≤ k), decide_eq_true h2]
    generalize hd : decide (((s[k - 1].toNat : Nat) : Int) = 37) = d
    generalize hd2 : decide (((s[k - 2].toNat : Nat) : Int) = 37) = d2
    have e2 : ((k : Int) - 2) = ((k - 2 : Nat) : Int) := by omega
    cases d
    all_goals
      cases d2
      all_goals
        repeat' (first | refine gc ?_ | refine join_go (weak_sub (.cons rfl (by first | rfl | (first | exact congrArg (fun b => A.t (T.v (Value.bool b))) hd2 | exact congrArg (fun b => A.t (T.v (Value.bool b))) hd)) rfl (.cons rfl (by first | rfl | (first | exact congrArg (fun b => A.t (T.v (Value.bool b))) hd2 | exact congrArg (fun b => A.t (T.v (Value.bool b))) hd)) rfl (.cons rfl (by first | rfl | (first | exact congrArg (fun b => A.t (T.v (Value.bool b))) hd2 | exact congrArg (fun b => A.t (T.v (Value.bool b))) hd)) rfl (.cons rfl (by first | rfl | (first | exact congrArg (fun b => A.t (T.v (Value.bool b))) hd2 | exact congrArg (fun b => A.t (T.v (Value.bool b))) hd)) rfl (.cons rfl (by first | rfl | (first | exact congrArg (fun b => A.t (T.v (Value.bool b))) hd2 | exact congrArg (fun b => A.t (T.v (Value.bool b))) hd)) rfl (.cons rfl (by first | rfl | (first | exact congrArg (fun b => A.t (T.v (Value.bool b))) hd2 | exact congrArg (fun b => A.t (T.v (Value.bool b))) hd)) rfl (.cons rfl (by first | rfl | (first | exact congrArg (fun b => A.t (T.v (Value.bool b))) hd2 | exact congrArg (fun b => A.t (T.v (Value.bool b))) hd)) rfl (.cons rfl (by first | rfl | (first | exact congrArg (fun b => A.t (T.v (Value.bool b))) hd2 | exact congrArg (fun b => A.t (T.v (Value.bool b))) hd)) rfl (.cons rfl (by first | rfl | (first | exact congrArg (fun b => A.t (T.v (Value.bool b))) hd2 | exact congrArg (fun b => A.t (T.v (Value.bool b))) hd)) rfl .nil))))))))) .nil .nil) | (refine rg 14 ?_; refine oMv ?_; refine oCm ?_; refine oMv ?_; (first | refine oMv ?_ | refine oK ?_ | ((refine ssp (fun hc => ?_) (fun hc => ?_)) <;> first | refine oMv ?_ | refine oK ?_)) <;> (first | refine oMv ?_ | refine oK ?_) <;> (first | refine sp (po_arith (c := ((k - 2 : Nat) : Int)) rfl rfl rfl (ar_sub (wrap_i64 (by omega)) e2)) ?_ | refine sp (po_dec rfl rfl rfl (by omega)) ?_ | refine sp (po_arith rfl rfl rfl (ar_sub (by first | rfl | (refine wrap_i64 ?_; omega)) rfl)) ?_ | refine oK ?_) <;> (first | refine sp (xist rfl) ?_ | refine oK ?_) <;> (first | refine oCm ?_ | refine oK ?_) <;> (first | refine oPt ?_ | refine oPf ?_) <;> (refine oMv ?_) <;> (first | refine oMv ?_ | refine oK ?_ | ((refine ssp (fun hc => ?_) (fun hc => ?_)) <;> first | refine oMv ?_ | refine oK ?_)) <;> (first | refine oCm ?_ | refine oK ?_) <;> (first | refine oMv ?_ | refine oK ?_) <;> (first | refine oMv ?_ | refine oK ?_ | ((refine ssp (fun hc => ?_) (fun hc => ?_)) <;> first | refine oMv ?_ | refine oK ?_)) <;> (first | refine oMv ?_ | refine oK ?_) <;> (first | refine sp (po_arith (c := ((k - 2 : Nat) : Int)) rfl rfl rfl (ar_sub (wrap_i64 (by omega)) e2)) ?_ | refine sp (po_dec rfl rfl rfl (by omega)) ?_ | refine sp (po_arith rfl rfl rfl (ar_sub (by first | rfl | (refine wrap_i64 ?_; omega)) rfl)) ?_ | refine oK ?_) <;> (first | refine sp (xist rfl) ?_ | refine oK ?_) <;> (first | refine oCm ?_ | refine oK ?_) <;> (first | refine oPt ?_ | refine oPf ?_ | refine oK ?_) <;> (first | refine oPt ?_ | refine oPf ?_) <;> (refine oAs ?_) <;> (refine oN ?_)) | refine ct ?_ | refine cf ?_ | refine swp_cond rfl (fun hc => ?_) (fun hc => ?_) | refine rq rfl (rt .nil) ?_)
theorem behB_no {l : L8} {k : Nat} (hk : k ≤ l.length) (h : behB l k = false) : ∀ i, (l.take k).length ≤ i + 2 → (l.take k)[i]? ≠ some 37 := by
  intro i hi e
  unfold behB at h
  rw [List.length_take, Nat.min_eq_left hk] at hi
  rw [List.getElem?_take] at e
  split at e
  · rename_i hik
    rw [Bool.or_eq_false_iff] at h
    rcases (by omega : k = i + 1 ∨ k = i + 2) with rfl | rfl
    · have := h.1
      rw [show i + 1 - 1 = i from rfl, e] at this; simp at this
    · have := h.2
      rw [show i + 2 - 2 = i from rfl, e] at this; simp at this
  · cases e
theorem and3 {P : Program} {bx : List (Nat × List A)} {ow : List (Nat × Own)} {o : Oper} {ρ : Operand → Option A} {t t2 : TypeId} {x y : Operand} {k : IntKind} {i j c : Int} (hc : k.wrap (BitVec.ofInt k.bits i &&& BitVec.ofInt k.bits j).toNat = c) (ho : o.op = .binOp .and t x y t2) (hx : ρ x = some (.t (.v (.int k i)))) (hy : ρ y = some (.t (.v (.int k j)))) : PureOp P bx ow o ρ (.t (.v (.int k c))) := by
  subst hc; exact po_and ho hx hy
theorem noq_next {s : ByteArray} {k : Nat} (h : (s.toList.take k).all (· != 63) = true) (hk : k < s.size) (hc : s[k] ≠ 63) : (s.toList.take (k + 1)).all (· != 63) = true := by
  have hl := toList_len s
  have h1 : s.toList[k]'(by omega) = s[k] := by
    have := toList_get s k hk
    rw [List.getElem?_eq_getElem (by omega)] at this
    injection this
  rw [List.take_succ_eq_append_getElem (by omega), List.all_append, h, h1]; simpa using hc
theorem parts (s : ByteArray) {k : Nat} (h : k < s.size) : s.toList = s.toList.take k ++ s[k] :: s.toList.drop (k + 1) := by
  rw [← tl_drop s h, List.take_append_drop]
theorem ext0 (s : ByteArray) {k : Nat} (h : k < s.size) : s.extract 0 (k + 1) = bs (s.toList.take k ++ [s[k]]) := by
  have hl := toList_len s
  have h1 : s.toList[k]'(by omega) = s[k] := by
    have := toList_get s k h
    rw [List.getElem?_eq_getElem (by omega)] at this
    injection this
  have := ext_bs s.toList 0 (k + 1)
  rw [toList_bs] at this
  rw [this, List.drop_zero, List.take_succ_eq_append_getElem (by omega), h1]
theorem ext1 (s : ByteArray) (k : Nat) : s.extract (k + 1) s.size = bs (s.toList.drop (k + 1)) := by
  have hl := toList_len s
  have := ext_bs s.toList (k + 1) s.size
  rw [toList_bs] at this
  rw [this, List.take_of_length_le (by omega)]
theorem ext2 (s : ByteArray) (k : Nat) : s.extract 0 k = bs (s.toList.take k) := by
  have := ext_bs s.toList 0 k
  rw [toList_bs] at this
  rw [this, List.drop_zero]
theorem hexl_slice {m : Nat} (h : m < 16) : (⟨#[48, 49, 50, 51, 52, 53, 54, 55, 56, 57, 97, 98, 99, 100, 101, 102]⟩ : ByteArray).extract m (m + 1) = bs [hexl m] := by
  have hs : ∀ j : Fin 16, (⟨#[48, 49, 50, 51, 52, 53, 54, 55, 56, 57, 97, 98, 99, 100, 101, 102]⟩ : ByteArray).extract j.1 (j.1 + 1) = bs [hexl j.1] := by decide
  exact hs ⟨m, h⟩
/-- the end: the target that was made has the same path -/
def Fin2 (p q : L8) (t : ByteArray) : St := ⟨[(7, .t (.v (.string (bs p)))), (8, .t (.v (.string (bs q)))), (11, .t (.v (.string t)))], [], []⟩
set_option maxRecDepth 100000 in
set_option maxHeartbeats 1000000 in
theorem end_ {c : Code} (hc : fS 23 (bodyOf Tryd.f3) = some c) (p q : L8) (t : ByteArray) (ht : t.size ≤ 100000) (hn : normL t.toList = some (p, q)) : SWp Tryd.prog Tryd.f3.ntmps c (RetQ Tryd.prog Tryd.f3 (.v (.bool true))) (Fin2 p q t) := by
  obtain rfl := Option.some.inj hc
  clear hc
  have c0 := awake_
  have c1 := Normal_ t ht
  rw [hn] at c1
  unfold normT at c1
  dsimp only at c1
  have ep : decide (bs p = bs p) = true := decide_eq_true rfl
  have eq : decide (bs q = bs q) = true := decide_eq_true rfl
  unfold Fin2
  repeat' (first | (refine rg 23 ?_; refine oMv ?_; (first | refine oC (c0) rfl (ac .nil) ?_ | refine oC (c1) rfl (ac .nil) ?_); refine oMv ?_; refine oEx ?_; refine oEx ?_; refine oEx ?_; refine oAs ?_; refine oAs ?_; refine oAs ?_; refine oN ?_) | (refine rg 24 ?_; refine oMv ?_; refine oCm ?_; refine oMv ?_; (first | refine oMv ?_ | refine oK ?_ | ((refine ssp (fun hc => ?_) (fun hc => ?_)) <;> first | refine oMv ?_ | refine oK ?_)) <;> (first | refine oMv ?_ | refine oK ?_) <;> (first | refine sp (po_str rfl rfl rfl rfl) ?_ | refine oK ?_) <;> (first | refine oPt ?_ | refine oPf ?_) <;> (refine oMv ?_) <;> (first | refine oMv ?_ | refine oK ?_ | ((refine ssp (fun hc => ?_) (fun hc => ?_)) <;> first | refine oMv ?_ | refine oK ?_)) <;> (first | refine oMv ?_ | refine oK ?_) <;> (first | refine sp (po_str rfl rfl rfl rfl) ?_ | refine oK ?_) <;> (first | refine oPt ?_ | refine oPf ?_) <;> (refine oMv ?_) <;> (first | refine oC (c0) rfl .nil ?_ | refine oC (c1) rfl .nil ?_ | refine oK ?_ | ((refine ssp (fun hc => ?_) (fun hc => ?_)) <;> first | refine oC (c0) rfl .nil ?_ | refine oC (c1) rfl .nil ?_ | refine oK ?_)) <;> (first | refine oPt ?_ | refine oPf ?_) <;> (refine oAs ?_) <;> (refine oN ?_)) | refine gc ?_ | refine ct ?_ | refine cf ?_ | refine swp_cond rfl (fun hc => ?_) (fun hc => ?_) | refine rq rfl (rt .nil) ?_)
  rfl
set_option maxRecDepth 100000 in
set_option maxHeartbeats 8000000 in
theorem law_ (s : ByteArray) (i what : Int) (hs0 : s.size ≤ maxLen) (_h1 : (Lit.int .i64 i).wf = true) (_h2 : (Lit.int .i64 what).wf = true) : PCalls Tryd.prog 3 [.v (.string s), .v (.int .i64 i), .v (.int .i64 what)] (.v (.bool true)) := by
  clear _h1 _h2
  have c0 := awake_
  refine pcalls_of Tryd.func3 rfl rfl Tryd.ntmps3 rfl ?_
  by_cases h1 : 300 < s.size
  · repeat' (first | (refine rg 0 ?_; refine oAs ?_; refine oN ?_) | (refine rg 1 ?_; refine oMv ?_; refine sp (po_len_str rfl rfl (tyR rfl)) ?_; refine oCm ?_; refine oMv ?_; (first | refine oMv ?_ | refine oK ?_ | ((refine ssp (fun hc => ?_) (fun hc => ?_)) <;> first | refine oMv ?_ | refine oK ?_)) <;> (first | refine oCm ?_ | refine oK ?_) <;> (first | refine oPt ?_ | refine oPf ?_) <;> (refine oMv ?_) <;> (first | refine oMv ?_ | refine oK ?_ | ((refine ssp (fun hc => ?_) (fun hc => ?_)) <;> first | refine oMv ?_ | refine oK ?_)) <;> (first | refine oMv ?_ | refine oK ?_) <;> (first | refine sp (po_len_str rfl rfl (tyR rfl)) ?_ | refine oK ?_) <;> (first | refine oCm ?_ | refine oK ?_) <;> (first | refine oPt ?_ | refine oPf ?_) <;> (refine oN ?_)) | (refine rg 2 ?_; refine oC (c0) rfl .nil ?_; refine oAs ?_; refine oN ?_) | refine gc ?_ | refine ct ?_ | refine cf ?_ | refine swp_cond rfl (fun hc => ?_) (fun hc => ?_) | refine rq rfl (rt .nil) ?_)
    rfl
  by_cases h2 : i < 0
  · repeat' (first | (refine rg 0 ?_; refine oAs ?_; refine oN ?_) | (refine rg 1 ?_; refine oMv ?_; refine sp (po_len_str rfl rfl (tyR rfl)) ?_; refine oCm ?_; refine oMv ?_; (first | refine oMv ?_ | refine oK ?_ | ((refine ssp (fun hc => ?_) (fun hc => ?_)) <;> first | refine oMv ?_ | refine oK ?_)) <;> (first | refine oCm ?_ | refine oK ?_) <;> (first | refine oPt ?_ | refine oPf ?_) <;> (refine oMv ?_) <;> (first | refine oMv ?_ | refine oK ?_ | ((refine ssp (fun hc => ?_) (fun hc => ?_)) <;> first | refine oMv ?_ | refine oK ?_)) <;> (first | refine oMv ?_ | refine oK ?_) <;> (first | refine sp (po_len_str rfl rfl (tyR rfl)) ?_ | refine oK ?_) <;> (first | refine oCm ?_ | refine oK ?_) <;> (first | refine oPt ?_ | refine oPf ?_) <;> (refine oN ?_)) | (refine rg 2 ?_; refine oC (c0) rfl .nil ?_; refine oAs ?_; refine oN ?_) | refine gc ?_ | refine ct ?_ | refine cf ?_ | refine swp_cond rfl (fun hc => ?_) (fun hc => ?_) | refine rq rfl (rt .nil) ?_)
    rfl
  by_cases h3 : (s.size : Int) ≤ i
  · repeat' (first | (refine rg 0 ?_; refine oAs ?_; refine oN ?_) | (refine rg 1 ?_; refine oMv ?_; refine sp (po_len_str rfl rfl (tyR rfl)) ?_; refine oCm ?_; refine oMv ?_; (first | refine oMv ?_ | refine oK ?_ | ((refine ssp (fun hc => ?_) (fun hc => ?_)) <;> first | refine oMv ?_ | refine oK ?_)) <;> (first | refine oCm ?_ | refine oK ?_) <;> (first | refine oPt ?_ | refine oPf ?_) <;> (refine oMv ?_) <;> (first | refine oMv ?_ | refine oK ?_ | ((refine ssp (fun hc => ?_) (fun hc => ?_)) <;> first | refine oMv ?_ | refine oK ?_)) <;> (first | refine oMv ?_ | refine oK ?_) <;> (first | refine sp (po_len_str rfl rfl (tyR rfl)) ?_ | refine oK ?_) <;> (first | refine oCm ?_ | refine oK ?_) <;> (first | refine oPt ?_ | refine oPf ?_) <;> (refine oN ?_)) | (refine rg 2 ?_; refine oC (c0) rfl .nil ?_; refine oAs ?_; refine oN ?_) | refine gc ?_ | refine ct ?_ | refine cf ?_ | refine swp_cond rfl (fun hc => ?_) (fun hc => ?_) | refine rq rfl (rt .nil) ?_)
    rfl
  obtain ⟨k, rfl⟩ := Int.eq_ofNat_of_zero_le (by omega : 0 ≤ i)
  have hk : k < s.size := by omega
  have hl := toList_len s
  have c1 := Normal_ s (by omega)
  unfold normT at c1
  cases hn : normL s.toList with
  | none =>
    rw [hn] at c1
    dsimp only at c1
    repeat' (first | (refine rg 0 ?_; refine oAs ?_; refine oN ?_) | (refine rg 1 ?_; refine oMv ?_; refine sp (po_len_str rfl rfl (tyR rfl)) ?_; refine oCm ?_; refine oMv ?_; (first | refine oMv ?_ | refine oK ?_ | ((refine ssp (fun hc => ?_) (fun hc => ?_)) <;> first | refine oMv ?_ | refine oK ?_)) <;> (first | refine oCm ?_ | refine oK ?_) <;> (first | refine oPt ?_ | refine oPf ?_) <;> (refine oMv ?_) <;> (first | refine oMv ?_ | refine oK ?_ | ((refine ssp (fun hc => ?_) (fun hc => ?_)) <;> first | refine oMv ?_ | refine oK ?_)) <;> (first | refine oMv ?_ | refine oK ?_) <;> (first | refine sp (po_len_str rfl rfl (tyR rfl)) ?_ | refine oK ?_) <;> (first | refine oCm ?_ | refine oK ?_) <;> (first | refine oPt ?_ | refine oPf ?_) <;> (refine oN ?_)) | (refine rg 3 ?_; refine oMv ?_; (first | refine oC (c0) rfl (ac .nil) ?_ | refine oC (c1) rfl (ac .nil) ?_); refine oMv ?_; refine oEx ?_; refine oEx ?_; refine oEx ?_; refine oAs ?_; refine oAs ?_; refine oAs ?_; refine oN ?_) | (refine rg 4 ?_; refine oMv ?_; refine oCm ?_; refine oN ?_) | (refine rg 5 ?_; (first | refine oC (c0) rfl .nil ?_ | refine oC (c1) rfl .nil ?_); refine oAs ?_; refine oN ?_) | refine gc ?_ | refine ct ?_ | refine cf ?_ | refine swp_cond rfl (fun hc => ?_) (fun hc => ?_) | refine rq rfl (rt .nil) ?_)
    rfl
  | some x =>
    obtain ⟨p, q⟩ := x
    rw [hn] at c1
    dsimp only at c1
    repeat' (first | (refine rg 0 ?_; refine oAs ?_; refine oN ?_) | (refine rg 1 ?_; refine oMv ?_; refine sp (po_len_str rfl rfl (tyR rfl)) ?_; refine oCm ?_; refine oMv ?_; (first | refine oMv ?_ | refine oK ?_ | ((refine ssp (fun hc => ?_) (fun hc => ?_)) <;> first | refine oMv ?_ | refine oK ?_)) <;> (first | refine oCm ?_ | refine oK ?_) <;> (first | refine oPt ?_ | refine oPf ?_) <;> (refine oMv ?_) <;> (first | refine oMv ?_ | refine oK ?_ | ((refine ssp (fun hc => ?_) (fun hc => ?_)) <;> first | refine oMv ?_ | refine oK ?_)) <;> (first | refine oMv ?_ | refine oK ?_) <;> (first | refine sp (po_len_str rfl rfl (tyR rfl)) ?_ | refine oK ?_) <;> (first | refine oCm ?_ | refine oK ?_) <;> (first | refine oPt ?_ | refine oPf ?_) <;> (refine oN ?_)) | (refine rg 3 ?_; refine oMv ?_; refine oC (c1) rfl (ac .nil) ?_; refine oMv ?_; refine oEx ?_; refine oEx ?_; refine oEx ?_; refine oAs ?_; refine oAs ?_; refine oAs ?_; refine oN ?_) | (refine rg 4 ?_; refine oMv ?_; refine oCm ?_; refine oN ?_) | (refine rg 6 ?_; refine oAs ?_; refine oN ?_) | refine gc ?_ | refine ct ?_ | refine cf ?_ | refine swp_cond rfl (fun hc => ?_) (fun hc => ?_) | refine rq rfl (rt .nil) ?_)
    refine swp_for (fun j => ⟨[(0, .t (.v (.string s))), (1, .t (.v (.int .i64 (k : Int)))), (2, .t (.v (.int .i64 what))), (7, .t (.v (.string (bs p)))), (8, .t (.v (.string (bs q)))), (10, .t (.v (.int .i64 (j : Int))))], [], []⟩) (fun j => (s.toList.take j).all (· != 63) = true) (k + 1) (weak_sub (.cons rfl rfl rfl (.cons rfl rfl rfl (.cons rfl rfl rfl (.cons rfl rfl rfl (.cons rfl rfl rfl (.cons rfl rfl rfl .nil)))))) .nil .nil) rfl ?_
    intro j hj hI
    by_cases hlt : j < k + 1
    · have hjs : j < s.size := by omega
      by_cases hc : s[j].toNat = 63
      · repeat' (first | (refine rg 7 ?_; refine oMv ?_; refine oMv ?_; refine oCm ?_; refine oN ?_) | (refine rg 9 ?_; refine oMv ?_; refine oMv ?_; refine sp (xist rfl) ?_; refine oCm ?_; refine oN ?_) | (refine rg 10 ?_; refine oC (c0) rfl .nil ?_; refine oAs ?_; refine oN ?_) | refine gc ?_ | refine ct ?_ | refine cf ?_ | refine swp_cond rfl (fun hc => ?_) (fun hc => ?_) | refine rq rfl (rt .nil) ?_)
        rfl
      · have hc' : s[j] ≠ 63 := fun e => hc (by rw [e]; rfl)
        repeat' (first | refine for_next hlt (weak_sub (.cons rfl rfl rfl (.cons rfl rfl rfl (.cons rfl rfl rfl (.cons rfl rfl rfl (.cons rfl rfl rfl (.cons rfl rfl rfl .nil)))))) .nil .nil) (noq_next hI hjs hc') | (refine rg 7 ?_; refine oMv ?_; refine oMv ?_; refine oCm ?_; refine oN ?_) | (refine rg 9 ?_; refine oMv ?_; refine oMv ?_; refine sp (xist rfl) ?_; refine oCm ?_; refine oN ?_) | (refine rg 8 ?_; refine oMv ?_; (first | refine sp (xinc rfl) ?_ | refine sp (xadd rfl) ?_); refine oAs ?_; refine oN ?_) | refine gc ?_ | refine ct ?_ | refine cf ?_ | refine swp_cond rfl (fun hc => ?_) (fun hc => ?_) | refine rq rfl (rt .nil) ?_)
    · obtain rfl : j = k + 1 := by omega
      have hp := parts s hk
      have hq0 : (s.toList.take k).all (· != 63) = true := by
        rw [List.all_eq_true] at hI ⊢
        exact fun c hc => hI c (List.take_subset_take_left _ (by omega) hc)
      have hq1 : s[k] ≠ 63 := by
        rw [List.all_eq_true] at hI
        have hm : s[k] ∈ s.toList.take (k + 1) := by
          have h1 : s.toList[k]'(by omega) = s[k] := by
            have := toList_get s k hk
            rw [List.getElem?_eq_getElem (by omega)] at this
            injection this
          rw [List.take_succ_eq_append_getElem (by omega), h1]; simp
        have := hI _ hm
        simpa using this
      clear hI hlt hj
      repeat' (first | (refine rg 7 ?_; refine oMv ?_; refine oMv ?_; refine oCm ?_; refine oN ?_) | (refine rg 11 ?_; refine oMv ?_; refine oAs ?_; refine oN ?_) | (refine rg 12 ?_; refine oMv ?_; refine oMv ?_; refine sp (xist rfl) ?_; refine oAs ?_; refine oN ?_) | refine gc ?_ | refine ct ?_ | refine cf ?_ | refine swp_cond rfl (fun hc => ?_) (fun hc => ?_) | refine rq rfl (rt .nil) ?_)
      refine swp_weak (st' := ⟨B7 s k what p q s[k].toNat, [], []⟩) (weak_sub (.cons rfl rfl rfl (.cons rfl rfl rfl (.cons rfl rfl rfl (.cons rfl rfl rfl (.cons rfl rfl rfl (.cons rfl rfl rfl (.cons rfl rfl rfl .nil))))))) .nil .nil) ?_
      refine r13_ rfl s k what p q s[k].toNat ?_
      refine then_go ?_
      refine swp_seq ?_
      refine r14_ rfl s k hk (by omega) what p q s[k].toNat _ ?_
      refine then_go ?_
      refine swp_seq ?_
      obtain ⟨z, hz⟩ : ∃ z, IntKind.i64.wrap (((BitVec.ofInt IntKind.i64.bits what &&& BitVec.ofInt IntKind.i64.bits 3).toNat : Nat) : Int) = z := ⟨_, rfl⟩
      have hb := behB_no (l := s.toList) (k := k) (by omega)
      have x0 := ext0 s hk
      have x1 := ext1 s k
      have x2 := ext2 s k
      have hn' := hn
      rw [hp] at hn'
      have hl3 : (s.toList.take k ++ s[k] :: s.toList.drop (k + 1)).length ≤ 300 := by rw [← hp]; omega
      have z0 : (s.extract 0 (k + 1)).size = k + 1 := by rw [x0, bs_size, List.length_append, List.length_take]; simp; omega
      have z1 : (s.extract (k + 1) s.size).size = s.size - (k + 1) := by rw [x1, bs_size, List.length_drop]; omega
      have z2 : (s.extract 0 k).size = k := by rw [x2, bs_size, List.length_take]; omega
      by_cases hc : s[k].toNat = 47
      · have hc' : s[k] = 47 := UInt8.toNat_inj.1 hc
        rw [hc'] at hn' hl3 x0
        have go : ∀ (ins INS : L8) (I : List L8), ins.length ≤ 8 → okL ins = true → ins.all (· != 63) = true → saidL hiddenB ins = (INS, true) → idle I → (∀ V, splL (INS ++ V) = I ++ splL V) → normL (s.extract 0 (k + 1) ++ bs ins ++ s.extract (k + 1) s.size).toList = some (p, q) := fun ins INS I a1 a2 a3 a4 a5 a6 => by
          have := alike_ins hn' hl3 hq0 a1 a2 a3 a4 a5 a6
          rw [toList_append, toList_append, x0, x1, bs_toList, bs_toList, bs_toList]
          simpa using this
        by_cases hz0 : z = 0
        · have hT := go [47] [47] [[]] (by decide) (by decide) (by decide) (by decide) idle1 fun V => by rw [show [47] ++ V = 47 :: V from rfl, splL_cons, if_pos rfl]; rfl
          have zz : (⟨#[47]⟩ : ByteArray).size = 1 := rfl
          have zq : (s.extract 0 (k + 1) ++ (⟨#[47]⟩ : ByteArray)).size = k + 2 := by rw [ByteArray.size_append, z0, zz]
          have hsz : (s.extract 0 (k + 1) ++ (⟨#[47]⟩ : ByteArray) ++ s.extract (k + 1) s.size).size ≤ 100000 := by rw [ByteArray.size_append, zq, z1]; omega
          clear go hn' hl3 x0 x1 x2 hb
          repeat' (first | refine swp_weak (weak_sub (.cons rfl rfl rfl (.cons rfl rfl rfl (.cons rfl rfl rfl .nil))) .nil .nil) (end_ rfl p q (s.extract 0 (k + 1) ++ (⟨#[47]⟩ : ByteArray) ++ s.extract (k + 1) s.size) hsz hT) | refine then_go ?_ | refine swp_seq ?_ | (refine rg 15 ?_; refine oMv ?_; refine oCm ?_; refine oMv ?_; (first | refine oMv ?_ | refine oK ?_ | ((refine ssp (fun hc => ?_) (fun hc => ?_)) <;> first | refine oMv ?_ | refine oK ?_)) <;> (first | refine sp (and3 hz rfl rfl rfl) ?_ | refine sp (po_and rfl rfl rfl) ?_ | refine oK ?_) <;> (first | refine oCm ?_ | refine oK ?_) <;> (first | refine oPt ?_ | refine oPf ?_) <;> (refine oAs ?_) <;> (refine oN ?_)) | (refine rd 16 ?_; refine dMv ?_; refine dMv ?_; (first | refine dp (xinc rfl) ?_ | refine dp (xadd rfl) ?_); refine dp (po_slice_str rfl rfl (tyR rfl) (by first | rfl | exact ⟨_, rfl⟩) (by first | rfl | exact ⟨_, rfl⟩) (by omega) (by omega)) ?_; refine dp (po_cat rfl rfl rfl (by omega)) ?_; refine dMv ?_; refine dMv ?_; (first | refine dp (xinc rfl) ?_ | refine dp (xadd rfl) ?_); refine dp (po_slice_str rfl rfl (tyR rfl) (by first | rfl | exact ⟨_, rfl⟩) (by first | rfl | exact ⟨_, rfl⟩) (by omega) (by omega)) ?_; refine dp (po_cat rfl rfl rfl (by omega)) ?_; refine dAs ?_; refine dN ?_; refine oN ?_) | refine swp_ret ?_ | refine swp_skip ?_ | refine swp_block ?_ | refine swp_exit ?_ | refine block_go ?_ | refine block_exit ?_ | refine block_far rfl ?_ | refine block_ret ?_ | refine then_ret ?_ | refine then_exit ?_ | refine for_ret ?_ | refine for_exit ?_ | refine ct ?_ | refine cf ?_ | refine swp_cond rfl (fun hc => ?_) (fun hc => ?_) | refine rq rfl (rt .nil) ?_)
        by_cases hz1 : z = 1
        · have hT := go [46, 47] [46, 47] [[46]] (by decide) (by decide) (by decide) (by decide) idle2 fun V => by rw [show [46, 47] ++ V = [46] ++ 47 :: V from rfl, splL_app]; rfl
          have zz : (⟨#[46, 47]⟩ : ByteArray).size = 2 := rfl
          have zq : (s.extract 0 (k + 1) ++ (⟨#[46, 47]⟩ : ByteArray)).size = k + 3 := by rw [ByteArray.size_append, z0, zz]
          have hsz : (s.extract 0 (k + 1) ++ (⟨#[46, 47]⟩ : ByteArray) ++ s.extract (k + 1) s.size).size ≤ 100000 := by rw [ByteArray.size_append, zq, z1]; omega
          clear go hn' hl3 x0 x1 x2 hb
          repeat' (first | refine swp_weak (weak_sub (.cons rfl rfl rfl (.cons rfl rfl rfl (.cons rfl rfl rfl .nil))) .nil .nil) (end_ rfl p q (s.extract 0 (k + 1) ++ (⟨#[46, 47]⟩ : ByteArray) ++ s.extract (k + 1) s.size) hsz hT) | refine then_go ?_ | refine swp_seq ?_ | (refine rg 15 ?_; refine oMv ?_; refine oCm ?_; refine oMv ?_; (first | refine oMv ?_ | refine oK ?_ | ((refine ssp (fun hc => ?_) (fun hc => ?_)) <;> first | refine oMv ?_ | refine oK ?_)) <;> (first | refine sp (and3 hz rfl rfl rfl) ?_ | refine sp (po_and rfl rfl rfl) ?_ | refine oK ?_) <;> (first | refine oCm ?_ | refine oK ?_) <;> (first | refine oPt ?_ | refine oPf ?_) <;> (refine oAs ?_) <;> (refine oN ?_)) | (refine rg 17 ?_; refine oMv ?_; refine oCm ?_; refine oMv ?_; (first | refine oMv ?_ | refine oK ?_ | ((refine ssp (fun hc => ?_) (fun hc => ?_)) <;> first | refine oMv ?_ | refine oK ?_)) <;> (first | refine sp (and3 hz rfl rfl rfl) ?_ | refine sp (po_and rfl rfl rfl) ?_ | refine oK ?_) <;> (first | refine oCm ?_ | refine oK ?_) <;> (first | refine oPt ?_ | refine oPf ?_) <;> (refine oAs ?_) <;> (refine oN ?_)) | (refine rd 18 ?_; refine dMv ?_; refine dMv ?_; (first | refine dp (xinc rfl) ?_ | refine dp (xadd rfl) ?_); refine dp (po_slice_str rfl rfl (tyR rfl) (by first | rfl | exact ⟨_, rfl⟩) (by first | rfl | exact ⟨_, rfl⟩) (by omega) (by omega)) ?_; refine dp (po_cat rfl rfl rfl (by omega)) ?_; refine dMv ?_; refine dMv ?_; (first | refine dp (xinc rfl) ?_ | refine dp (xadd rfl) ?_); refine dp (po_slice_str rfl rfl (tyR rfl) (by first | rfl | exact ⟨_, rfl⟩) (by first | rfl | exact ⟨_, rfl⟩) (by omega) (by omega)) ?_; refine dp (po_cat rfl rfl rfl (by omega)) ?_; refine dAs ?_; refine dN ?_; refine oN ?_) | refine swp_ret ?_ | refine swp_skip ?_ | refine swp_block ?_ | refine swp_exit ?_ | refine block_go ?_ | refine block_exit ?_ | refine block_far rfl ?_ | refine block_ret ?_ | refine then_ret ?_ | refine then_exit ?_ | refine for_ret ?_ | refine for_exit ?_ | refine ct ?_ | refine cf ?_ | refine swp_cond rfl (fun hc => ?_) (fun hc => ?_) | refine rq rfl (rt .nil) ?_)
        · have hT := go [120, 37, 50, 69, 47, 46, 46, 47] [120, 46, 47, 46, 46, 47] [[120, 46], [46, 46]] (by decide) (by decide) (by decide) (by decide) idle3 fun V => by rw [show [120, 46, 47, 46, 46, 47] ++ V = [120, 46] ++ 47 :: ([46, 46] ++ 47 :: V) from rfl, splL_app, splL_app]; rfl
          have zz : (⟨#[120, 37, 50, 69, 47, 46, 46, 47]⟩ : ByteArray).size = 8 := rfl
          have zq : (s.extract 0 (k + 1) ++ (⟨#[120, 37, 50, 69, 47, 46, 46, 47]⟩ : ByteArray)).size = k + 9 := by rw [ByteArray.size_append, z0, zz]
          have hsz : (s.extract 0 (k + 1) ++ (⟨#[120, 37, 50, 69, 47, 46, 46, 47]⟩ : ByteArray) ++ s.extract (k + 1) s.size).size ≤ 100000 := by rw [ByteArray.size_append, zq, z1]; omega
          clear go hn' hl3 x0 x1 x2 hb
          repeat' (first | refine swp_weak (weak_sub (.cons rfl rfl rfl (.cons rfl rfl rfl (.cons rfl rfl rfl .nil))) .nil .nil) (end_ rfl p q (s.extract 0 (k + 1) ++ (⟨#[120, 37, 50, 69, 47, 46, 46, 47]⟩ : ByteArray) ++ s.extract (k + 1) s.size) hsz hT) | refine then_go ?_ | refine swp_seq ?_ | (refine rg 15 ?_; refine oMv ?_; refine oCm ?_; refine oMv ?_; (first | refine oMv ?_ | refine oK ?_ | ((refine ssp (fun hc => ?_) (fun hc => ?_)) <;> first | refine oMv ?_ | refine oK ?_)) <;> (first | refine sp (and3 hz rfl rfl rfl) ?_ | refine sp (po_and rfl rfl rfl) ?_ | refine oK ?_) <;> (first | refine oCm ?_ | refine oK ?_) <;> (first | refine oPt ?_ | refine oPf ?_) <;> (refine oAs ?_) <;> (refine oN ?_)) | (refine rg 17 ?_; refine oMv ?_; refine oCm ?_; refine oMv ?_; (first | refine oMv ?_ | refine oK ?_ | ((refine ssp (fun hc => ?_) (fun hc => ?_)) <;> first | refine oMv ?_ | refine oK ?_)) <;> (first | refine sp (and3 hz rfl rfl rfl) ?_ | refine sp (po_and rfl rfl rfl) ?_ | refine oK ?_) <;> (first | refine oCm ?_ | refine oK ?_) <;> (first | refine oPt ?_ | refine oPf ?_) <;> (refine oAs ?_) <;> (refine oN ?_)) | (refine rg 19 ?_; refine oMv ?_; refine oCm ?_; refine oAs ?_; refine oN ?_) | (refine rd 20 ?_; refine dMv ?_; refine dMv ?_; (first | refine dp (xinc rfl) ?_ | refine dp (xadd rfl) ?_); refine dp (po_slice_str rfl rfl (tyR rfl) (by first | rfl | exact ⟨_, rfl⟩) (by first | rfl | exact ⟨_, rfl⟩) (by omega) (by omega)) ?_; refine dp (po_cat rfl rfl rfl (by omega)) ?_; refine dMv ?_; refine dMv ?_; (first | refine dp (xinc rfl) ?_ | refine dp (xadd rfl) ?_); refine dp (po_slice_str rfl rfl (tyR rfl) (by first | rfl | exact ⟨_, rfl⟩) (by first | rfl | exact ⟨_, rfl⟩) (by omega) (by omega)) ?_; refine dp (po_cat rfl rfl rfl (by omega)) ?_; refine dAs ?_; refine dN ?_; refine oN ?_) | refine swp_ret ?_ | refine swp_skip ?_ | refine swp_block ?_ | refine swp_exit ?_ | refine block_go ?_ | refine block_exit ?_ | refine block_far rfl ?_ | refine block_ret ?_ | refine then_ret ?_ | refine then_exit ?_ | refine for_ret ?_ | refine for_exit ?_ | refine ct ?_ | refine cf ?_ | refine swp_cond rfl (fun hc => ?_) (fun hc => ?_) | refine rq rfl (rt .nil) ?_)
      · by_cases hlt2 : let2 s[k].toNat = true ∧ behB s.toList k = false
        · obtain ⟨hlb, hbb⟩ := hlt2
          have hw : (97 ≤ s[k].toNat ∧ s[k].toNat ≤ 122) ∨ (48 ≤ s[k].toNat ∧ s[k].toNat ≤ 57) := by unfold let2 at hlb; simpa using hlb
          have hA := alike_let hn' hl3 hq0 hq1 hw (hb hbb)
          have hT : normL (s.extract 0 k ++ (⟨#[37]⟩ : ByteArray) ++ bs [hexl (s[k].toNat / 16)] ++ bs [hexl (s[k].toNat % 16)] ++ s.extract (k + 1) s.size).toList = some (p, q) := by
            rw [toList_append, toList_append, toList_append, toList_append, x2, x1, bs_toList, bs_toList, bs_toList, bs_toList, show (⟨#[37]⟩ : ByteArray).toList = [37] from bs_toList [37]]
            simpa using hA
          rw [hlb, hbb]
          have hu : s[k].toNat < 256 := UInt8.toNat_lt _
          generalize s[k].toNat = n at *
          have ha15 := and15u (k := n) (by omega)
          have hd16 : n / 16 < 16 := by omega
          have hm16 : n % 16 < 16 := by omega
          have sl1 := hexl_slice hd16
          have sl2 := hexl_slice hm16
          rw [← sl1, ← sl2] at hT
          obtain ⟨da, hda⟩ : ∃ d, n / 16 = d := ⟨_, rfl⟩
          obtain ⟨mb, hmb⟩ : ∃ d, n % 16 = d := ⟨_, rfl⟩
          rw [hmb] at ha15 hm16 sl2 hT
          rw [hda] at hd16 sl1 hT
          have z16 : (⟨#[48, 49, 50, 51, 52, 53, 54, 55, 56, 57, 97, 98, 99, 100, 101, 102]⟩ : ByteArray).size = 16 := rfl
          have zz : (⟨#[37]⟩ : ByteArray).size = 1 := rfl
          have zd : ((⟨#[48, 49, 50, 51, 52, 53, 54, 55, 56, 57, 97, 98, 99, 100, 101, 102]⟩ : ByteArray).extract da (da + 1)).size = 1 := by rw [sl1]; rfl
          have ze : ((⟨#[48, 49, 50, 51, 52, 53, 54, 55, 56, 57, 97, 98, 99, 100, 101, 102]⟩ : ByteArray).extract mb (mb + 1)).size = 1 := by rw [sl2]; rfl
          have y1 : (s.extract 0 k ++ (⟨#[37]⟩ : ByteArray)).size = k + 1 := by rw [ByteArray.size_append, z2, zz]
          have y2 : (s.extract 0 k ++ (⟨#[37]⟩ : ByteArray) ++ (⟨#[48, 49, 50, 51, 52, 53, 54, 55, 56, 57, 97, 98, 99, 100, 101, 102]⟩ : ByteArray).extract da (da + 1)).size = k + 2 := by rw [ByteArray.size_append, y1, zd]
          have y3 : (s.extract 0 k ++ (⟨#[37]⟩ : ByteArray) ++ (⟨#[48, 49, 50, 51, 52, 53, 54, 55, 56, 57, 97, 98, 99, 100, 101, 102]⟩ : ByteArray).extract da (da + 1) ++ (⟨#[48, 49, 50, 51, 52, 53, 54, 55, 56, 57, 97, 98, 99, 100, 101, 102]⟩ : ByteArray).extract mb (mb + 1)).size = k + 3 := by rw [ByteArray.size_append, y2, ze]
          have hsz : (s.extract 0 k ++ (⟨#[37]⟩ : ByteArray) ++ (⟨#[48, 49, 50, 51, 52, 53, 54, 55, 56, 57, 97, 98, 99, 100, 101, 102]⟩ : ByteArray).extract da (da + 1) ++ (⟨#[48, 49, 50, 51, 52, 53, 54, 55, 56, 57, 97, 98, 99, 100, 101, 102]⟩ : ByteArray).extract mb (mb + 1) ++ s.extract (k + 1) s.size).size ≤ 100000 := by rw [ByteArray.size_append, y3, z1]; omega
          clear hn' hl3 x0 x1 x2 hb hA hw sl1 sl2 hlb hbb
          repeat' (first | refine swp_weak (weak_sub (.cons rfl rfl rfl (.cons rfl rfl rfl (.cons rfl rfl rfl .nil))) .nil .nil) (end_ rfl p q (s.extract 0 k ++ (⟨#[37]⟩ : ByteArray) ++ ((⟨#[48, 49, 50, 51, 52, 53, 54, 55, 56, 57, 97, 98, 99, 100, 101, 102]⟩ : ByteArray).extract da (da + 1)) ++ ((⟨#[48, 49, 50, 51, 52, 53, 54, 55, 56, 57, 97, 98, 99, 100, 101, 102]⟩ : ByteArray).extract mb (mb + 1)) ++ s.extract (k + 1) s.size) hsz hT) | refine then_go ?_ | refine swp_seq ?_ | (refine rg 15 ?_; refine oMv ?_; (first | refine sp (po_shr4u hda rfl rfl rfl) ?_ | refine oCm ?_); refine oMv ?_; (first | refine oMv ?_ | refine oK ?_ | ((refine ssp (fun hc => ?_) (fun hc => ?_)) <;> first | refine oMv ?_ | refine oK ?_)) <;> (first | refine sp (and3 hz rfl rfl rfl) ?_ | refine sp (po_andu ha15 rfl rfl rfl) ?_ | refine sp (po_and rfl rfl rfl) ?_ | refine oK ?_) <;> (first | refine sp (po_shr4u hda rfl rfl rfl) ?_ | refine oCm ?_ | refine oK ?_) <;> (first | refine oPt ?_ | refine oPf ?_) <;> (refine oAs ?_) <;> (refine oN ?_)) | (refine rg 17 ?_; refine oMv ?_; (first | refine sp (po_shr4u hda rfl rfl rfl) ?_ | refine oCm ?_); refine oMv ?_; (first | refine oMv ?_ | refine oK ?_ | ((refine ssp (fun hc => ?_) (fun hc => ?_)) <;> first | refine oMv ?_ | refine oK ?_)) <;> (first | refine sp (and3 hz rfl rfl rfl) ?_ | refine sp (po_andu ha15 rfl rfl rfl) ?_ | refine sp (po_and rfl rfl rfl) ?_ | refine oK ?_) <;> (first | refine sp (po_shr4u hda rfl rfl rfl) ?_ | refine oCm ?_ | refine oK ?_) <;> (first | refine oPt ?_ | refine oPf ?_) <;> (refine oAs ?_) <;> (refine oN ?_)) | (refine rg 19 ?_; refine oMv ?_; (first | refine sp (po_shr4u hda rfl rfl rfl) ?_ | refine oCm ?_); refine oAs ?_; refine oN ?_) | (refine rg 21 ?_; refine oMv ?_; refine oMv ?_; (first | refine oMv ?_ | refine oK ?_ | ((refine ssp (fun hc => ?_) (fun hc => ?_)) <;> first | refine oMv ?_ | refine oK ?_)) <;> (first | refine sp (po_not rfl rfl) ?_ | refine oK ?_) <;> (first | refine oPt ?_ | refine oPf ?_) <;> (refine oAs ?_) <;> (refine oN ?_)) | (refine rd 22 ?_; refine dMv ?_; refine dMv ?_; (first | refine dp (po_slice_str (l := da) (h' := da + 1) rfl rfl (tyR rfl) ⟨_, rfl⟩ ⟨_, rfl⟩ (by omega) (by omega)) ?_ | refine dp (po_slice_str (l := mb) (h' := mb + 1) rfl rfl (tyR rfl) ⟨_, rfl⟩ ⟨_, rfl⟩ (by omega) (by omega)) ?_ | refine dp (po_slice_str rfl rfl (tyR rfl) (by first | rfl | exact ⟨_, rfl⟩) (by first | rfl | exact ⟨_, rfl⟩) (by omega) (by omega)) ?_); (first | refine dp (po_arith (c := ((da + 1 : Nat) : Int)) rfl rfl rfl (ar_add (wrap_u8 (by omega)) (by rfl))) ?_ | refine dp (po_arith (c := ((mb + 1 : Nat) : Int)) rfl rfl rfl (ar_add (wrap_u8 (by omega)) (by rfl))) ?_ | refine dp (po_cat rfl rfl rfl (by omega)) ?_); refine dMv ?_; refine dp (po_shr4u hda rfl rfl rfl) ?_; refine dMv ?_; refine dp (po_shr4u hda rfl rfl rfl) ?_; (first | refine dp (po_arith (c := ((da + 1 : Nat) : Int)) rfl rfl rfl (ar_add (wrap_u8 (by omega)) (by rfl))) ?_ | refine dp (po_arith (c := ((mb + 1 : Nat) : Int)) rfl rfl rfl (ar_add (wrap_u8 (by omega)) (by rfl))) ?_ | refine dp (xinc rfl) ?_ | refine dp (xadd rfl) ?_); (first | refine dp (po_slice_str (l := da) (h' := da + 1) rfl rfl (tyR rfl) ⟨_, rfl⟩ ⟨_, rfl⟩ (by omega) (by omega)) ?_ | refine dp (po_slice_str (l := mb) (h' := mb + 1) rfl rfl (tyR rfl) ⟨_, rfl⟩ ⟨_, rfl⟩ (by omega) (by omega)) ?_ | refine dp (po_slice_str rfl rfl (tyR rfl) (by first | rfl | exact ⟨_, rfl⟩) (by first | rfl | exact ⟨_, rfl⟩) (by omega) (by omega)) ?_); (first | refine dp (po_arith (c := ((da + 1 : Nat) : Int)) rfl rfl rfl (ar_add (wrap_u8 (by omega)) (by rfl))) ?_ | refine dp (po_arith (c := ((mb + 1 : Nat) : Int)) rfl rfl rfl (ar_add (wrap_u8 (by omega)) (by rfl))) ?_ | refine dp (po_cat rfl rfl rfl (by omega)) ?_); refine dMv ?_; (first | refine dp (and3 hz rfl rfl rfl) ?_ | refine dp (po_andu ha15 rfl rfl rfl) ?_ | refine dp (po_and rfl rfl rfl) ?_); refine dMv ?_; (first | refine dp (and3 hz rfl rfl rfl) ?_ | refine dp (po_andu ha15 rfl rfl rfl) ?_ | refine dp (po_and rfl rfl rfl) ?_); (first | refine dp (po_arith (c := ((da + 1 : Nat) : Int)) rfl rfl rfl (ar_add (wrap_u8 (by omega)) (by rfl))) ?_ | refine dp (po_arith (c := ((mb + 1 : Nat) : Int)) rfl rfl rfl (ar_add (wrap_u8 (by omega)) (by rfl))) ?_ | refine dp (xinc rfl) ?_ | refine dp (xadd rfl) ?_); (first | refine dp (po_slice_str (l := da) (h' := da + 1) rfl rfl (tyR rfl) ⟨_, rfl⟩ ⟨_, rfl⟩ (by omega) (by omega)) ?_ | refine dp (po_slice_str (l := mb) (h' := mb + 1) rfl rfl (tyR rfl) ⟨_, rfl⟩ ⟨_, rfl⟩ (by omega) (by omega)) ?_ | refine dp (po_slice_str rfl rfl (tyR rfl) (by first | rfl | exact ⟨_, rfl⟩) (by first | rfl | exact ⟨_, rfl⟩) (by omega) (by omega)) ?_); (first | refine dp (po_arith (c := ((da + 1 : Nat) : Int)) rfl rfl rfl (ar_add (wrap_u8 (by omega)) (by rfl))) ?_ | refine dp (po_arith (c := ((mb + 1 : Nat) : Int)) rfl rfl rfl (ar_add (wrap_u8 (by omega)) (by rfl))) ?_ | refine dp (po_cat rfl rfl rfl (by omega)) ?_); refine dMv ?_; refine dMv ?_; (first | refine dp (po_arith (c := ((da + 1 : Nat) : Int)) rfl rfl rfl (ar_add (wrap_u8 (by omega)) (by rfl))) ?_ | refine dp (po_arith (c := ((mb + 1 : Nat) : Int)) rfl rfl rfl (ar_add (wrap_u8 (by omega)) (by rfl))) ?_ | refine dp (xinc rfl) ?_ | refine dp (xadd rfl) ?_); (first | refine dp (po_slice_str (l := da) (h' := da + 1) rfl rfl (tyR rfl) ⟨_, rfl⟩ ⟨_, rfl⟩ (by omega) (by omega)) ?_ | refine dp (po_slice_str (l := mb) (h' := mb + 1) rfl rfl (tyR rfl) ⟨_, rfl⟩ ⟨_, rfl⟩ (by omega) (by omega)) ?_ | refine dp (po_slice_str rfl rfl (tyR rfl) (by first | rfl | exact ⟨_, rfl⟩) (by first | rfl | exact ⟨_, rfl⟩) (by omega) (by omega)) ?_); (first | refine dp (po_arith (c := ((da + 1 : Nat) : Int)) rfl rfl rfl (ar_add (wrap_u8 (by omega)) (by rfl))) ?_ | refine dp (po_arith (c := ((mb + 1 : Nat) : Int)) rfl rfl rfl (ar_add (wrap_u8 (by omega)) (by rfl))) ?_ | refine dp (po_cat rfl rfl rfl (by omega)) ?_); refine dAs ?_; refine dN ?_; refine oN ?_) | refine swp_ret ?_ | refine swp_skip ?_ | refine swp_block ?_ | refine swp_exit ?_ | refine block_go ?_ | refine block_exit ?_ | refine block_far rfl ?_ | refine block_ret ?_ | refine then_ret ?_ | refine then_exit ?_ | refine for_ret ?_ | refine for_exit ?_ | refine ct ?_ | refine cf ?_ | refine swp_cond rfl (fun hc => ?_) (fun hc => ?_) | refine rq rfl (rt .nil) ?_)
        · have hT : normL s.toList = some (p, q) := hn
          have hsz : s.size ≤ 100000 := by omega
          have hlt3 : let2 s[k].toNat = false ∨ (let2 s[k].toNat = true ∧ behB s.toList k = true) := by
            cases h5 : let2 s[k].toNat with
            | false => exact .inl rfl
            | true =>
              refine .inr ⟨rfl, ?_⟩
              cases h6 : behB s.toList k with
              | true => rfl
              | false => exact absurd ⟨h5, h6⟩ hlt2
          generalize let2 s[k].toNat = lb at *
          generalize behB s.toList k = bb at *
          clear hn' hl3 x0 x1 x2 hb hlt2
          rcases hlt3 with rfl | ⟨rfl, rfl⟩
          all_goals
            repeat' (first | refine swp_weak (weak_sub (.cons rfl rfl rfl (.cons rfl rfl rfl (.cons rfl rfl rfl .nil))) .nil .nil) (end_ rfl p q s hsz hT) | refine then_go ?_ | refine swp_seq ?_ | (refine rg 15 ?_; refine oMv ?_; refine oCm ?_; refine oMv ?_; (first | refine oMv ?_ | refine oK ?_ | ((refine ssp (fun hc => ?_) (fun hc => ?_)) <;> first | refine oMv ?_ | refine oK ?_)) <;> (first | refine sp (and3 hz rfl rfl rfl) ?_ | refine sp (po_and rfl rfl rfl) ?_ | refine oK ?_) <;> (first | refine oCm ?_ | refine oK ?_) <;> (first | refine oPt ?_ | refine oPf ?_) <;> (refine oAs ?_) <;> (refine oN ?_)) | (refine rg 17 ?_; refine oMv ?_; refine oCm ?_; refine oMv ?_; (first | refine oMv ?_ | refine oK ?_ | ((refine ssp (fun hc => ?_) (fun hc => ?_)) <;> first | refine oMv ?_ | refine oK ?_)) <;> (first | refine sp (and3 hz rfl rfl rfl) ?_ | refine sp (po_and rfl rfl rfl) ?_ | refine oK ?_) <;> (first | refine oCm ?_ | refine oK ?_) <;> (first | refine oPt ?_ | refine oPf ?_) <;> (refine oAs ?_) <;> (refine oN ?_)) | (refine rg 19 ?_; refine oMv ?_; refine oCm ?_; refine oAs ?_; refine oN ?_) | (refine rg 21 ?_; refine oMv ?_; refine oMv ?_; (first | refine oMv ?_ | refine oK ?_ | ((refine ssp (fun hc => ?_) (fun hc => ?_)) <;> first | refine oMv ?_ | refine oK ?_)) <;> (first | refine sp (po_not rfl rfl) ?_ | refine oK ?_) <;> (first | refine oPt ?_ | refine oPf ?_) <;> (refine oAs ?_) <;> (refine oN ?_)) | refine swp_ret ?_ | refine swp_skip ?_ | refine swp_block ?_ | refine swp_exit ?_ | refine block_go ?_ | refine block_exit ?_ | refine block_far rfl ?_ | refine block_ret ?_ | refine then_ret ?_ | refine then_exit ?_ | refine for_ret ?_ | refine for_exit ?_ | refine ct ?_ | refine cf ?_ | refine swp_cond rfl (fun hc => ?_) (fun hc => ?_) | refine rq rfl (rt .nil) ?_)
end Go.Proofs.YtkmhaijefpgfiaaDoor.PathAlike
