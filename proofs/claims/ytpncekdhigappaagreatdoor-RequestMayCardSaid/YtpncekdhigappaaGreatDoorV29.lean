/- Merged by bundles.py: SimPath9a, SimPath9, PlPath3, SimPath10. -/
import Derived.Test.YtpncekdhigappaaGreatDoorV28
import Derived.Test.YtpncekdhigappaaGreatDoorV27
import Derived.Test.YtpncekdhigappaaGreatDoorV13
import Derived.Test.YtpncekdhigappaaGreatDoorV0
/- Targets: the document's answer, what is said by %: its pieces, walked. -/
namespace Go.Proofs.YtpncekdhigappaaGreatDoor.Pth
set_option linter.unusedVariables false
set_option linter.unusedSimpArgs false
open Go.RowKit Mem Sim Opn Str Hd
theorem and15us : (List.range 256).all (fun k => decide (IntKind.u8.wrap ((BitVec.ofInt IntKind.u8.bits (k : Int) &&& BitVec.ofInt IntKind.u8.bits 15).toNat : Int) = ((k % 16 : Nat) : Int))) = true := by kernel_rfl
theorem and15u {k : Nat} (h : k < 256) : IntKind.u8.wrap ((BitVec.ofInt IntKind.u8.bits (k : Int) &&& BitVec.ofInt IntKind.u8.bits 15).toNat : Int) = ((k % 16 : Nat) : Int) :=
  of_decide_eq_true ((List.all_eq_true.1 and15us) k (List.mem_range.2 h))
theorem po_andu {P : Program} {bx : List (Nat × List A)} {ow : List (Nat × Own)} {o : Oper} {ρ : Operand → Option A} {t t2 : TypeId} {x y : Operand} {k : IntKind} {i j c : Int} (hc : k.wrap (BitVec.ofInt k.bits i &&& BitVec.ofInt k.bits j).toNat = c) (ho : o.op = .binOp .and t x y t2) (hx : ρ x = some (.t (.v (.int k i)))) (hy : ρ y = some (.t (.v (.int k j)))) : PureOp P bx ow o ρ (.t (.v (.int k c))) := by
  subst hc; exact po_and ho hx hy
theorem po_shr4u {P : Program} {bx : List (Nat × List A)} {ow : List (Nat × Own)} {o : Oper} {ρ : Operand → Option A} {t t2 : TypeId} {x y : Operand} {m q : Nat} (hq : m / 16 = q) (ho : o.op = .binOp .shr t x y t2) (hx : ρ x = some (.t (.v (.int .u8 (m : Int))))) (hy : ρ y = some (.t (.v (.int .u64 4)))) : PureOp P bx ow o ρ (.t (.v (.int .u8 (q : Int)))) := by
  subst hq
  exact po_ex2 ho hx hy (.v _) (.v _) (by
    intro w a b
    have : (m : Int).fdiv 16 = ((m / 16 : Nat) : Int) := by
      rw [show (16 : Int) = ((16 : Nat) : Int) from rfl, ← Int.ofNat_fdiv]
    simp [eqGuard, binOp, Op.shift, IntKind.bits, this])
theorem hexS_slice {m : Nat} (h : m < 16) : (⟨#[48, 49, 50, 51, 52, 53, 54, 55, 56, 57, 65, 66, 67, 68, 69, 70]⟩ : ByteArray).extract m (m + 1) = bs [hexU (m : Int)] := by
  have hs : ∀ j : Fin 16, (⟨#[48, 49, 50, 51, 52, 53, 54, 55, 56, 57, 65, 66, 67, 68, 69, 70]⟩ : ByteArray).extract j.1 (j.1 + 1) = bs [hexU (j.1 : Int)] := by decide
  exact hs ⟨m, h⟩
def letB (n : Nat) : Bool := decide (48 ≤ n ∧ n ≤ 57) || decide (65 ≤ n ∧ n ≤ 90) || decide (97 ≤ n ∧ n ≤ 122)
theorem plain_nat (c : UInt8) : plainB c = (letB c.toNat || decide (c.toNat = 45) || decide (c.toNat = 46) || decide (c.toNat = 95) || decide (c.toNat = 126)) := by
  have e : ([45, 46, 95, 126] : L8).any (· == c) = (decide (c.toNat = 45) || decide (c.toNat = 46) || decide (c.toNat = 95) || decide (c.toNat = 126)) := by
    have h : ∀ d : UInt8, (d == c) = decide (c.toNat = d.toNat) := fun d => by
      rw [Bool.eq_iff_iff]; simp only [beq_iff_eq, decide_eq_true_eq]
      exact ⟨fun e => by rw [e], fun e => (UInt8.toNat_inj.1 e).symm⟩
    simp only [List.any_cons, List.any_nil, h, Bool.or_false, Bool.or_assoc]; rfl
  unfold plainB letB
  rw [e]
  generalize c.toNat = n
  rw [Bool.eq_iff_iff]
  simp only [Bool.or_eq_true, Bool.and_eq_true, decide_eq_true_eq]
  omega
def badR (road : Bool) (c : UInt8) : Bool := road && hiddenB c
theorem bs_snoc1 (l : L8) (b : UInt8) : bs l ++ bs [b] = bs (l ++ [b]) := bs_inj (by rw [toList_append, bs_toList, bs_toList, bs_toList])
theorem ext_one (s : ByteArray) {k : Nat} (h : k < s.size) : s.extract k (k + 1) = bs [s[k]] := by
  have := ext_bs s.toList k (k + 1)
  rw [toList_bs] at this
  rw [this, List.drop_take, tl_drop s h]; simp
def fR (id : Nat) : Code → Option Code
  | .region i l b => if i = id then some (.region i l b) else none
  | .seq x y => match fR id x with
    | some c => some c
    | none => fR id y
  | .block _ c => fR id c
  | .loop c => fR id c
  | .scope c => fR id c
  | .cond _ x y => match fR id x with
    | some c => some c
    | none => fR id y
  | _ => none
def isR (id : Nat) : Code → Bool
  | .region i _ _ => Nat.beq i id
  | _ => false
def fS (id : Nat) : Code → Option Code
  | .seq x y => if isR id x then some (.seq x y) else match fS id x with
    | some c => some c
    | none => fS id y
  | .block _ c => fS id c
  | .loop c => fS id c
  | .scope c => fS id c
  | .cond _ x y => match fS id x with
    | some c => some c
    | none => fS id y
  | _ => none
def bodyOf (f : Func) : Code := f.body.getD .skip
theorem vws_eq {ow : List (Nat × Own)} {x y : T} (h : x = y) : VwS ow (.t x) y := by subst h; exact .t _
theorem str_eq {a b : ByteArray} (h : a = b) : A.t (T.v (Value.string a)) = A.t (T.v (Value.string b)) := by rw [h]
abbrev R5 (s : ByteArray) (road : Bool) (out : ByteArray) (k n : Nat) : St := ⟨[(0, .t (.v (.string s))), (1, .t (.v (.bool road))), (6, .t (.v (.string out))), (7, .t (.v (.int .i64 (k : Int)))), (8, .t (.v (.int .u8 (n : Int))))], [], []⟩
abbrev R6 (s : ByteArray) (road : Bool) (out : ByteArray) (k n : Nat) (lb : Bool) : St := ⟨[(0, .t (.v (.string s))), (1, .t (.v (.bool road))), (6, .t (.v (.string out))), (7, .t (.v (.int .i64 (k : Int)))), (8, .t (.v (.int .u8 (n : Int)))), (9, .t (.v (.bool lb)))], [], []⟩
set_option maxRecDepth 100000 in
set_option maxHeartbeats 1000000 in
theorem r8_ {c : Code} (hc : fR 8 (bodyOf Tryz.f112) = some c) {Q : Exit → St → Prop} (s : ByteArray) (road : Bool) (out : ByteArray) (k n : Nat) (h : Q .normal (R6 s road out k n (letB n))) : SWp Tryz.prog 120 c Q (R5 s road out k n) := by
  obtain rfl := Option.some.inj hc
  clear hc
  refine swp_joinQ _ ?_ h
  clear h
  rcases let_ways n with h | h | h | h | h | h | h
  all_goals
    repeat' (first | refine gc ?_ | refine join_go (weak_sub (.cons rfl (by rfl) rfl (.cons rfl (by rfl) rfl (.cons rfl (by rfl) rfl (.cons rfl (by rfl) rfl (.cons rfl (by rfl) rfl (.cons rfl (by first | rfl | (exact congrArg (fun b => A.t (T.v (Value.bool b))) (by unfold letB; rw [Bool.eq_iff_iff]; first | (simp; done) | (simp; omega)))) rfl .nil)))))) .nil .nil) | (refine rg 8 ?_; refine oMv ?_; refine oCm ?_; refine oMv ?_; (first | refine oMv ?_ | refine oK ?_) <;> (first | refine oCm ?_ | refine oK ?_) <;> (first | refine oPt ?_ | refine oPf ?_) <;> refine oMv ?_ <;> (first | refine oMv ?_ | refine oK ?_) <;> (first | refine oCm ?_ | refine oK ?_) <;> (first | refine oMv ?_ | refine oK ?_) <;> (first | refine oMv ?_ | refine oK ?_) <;> (first | refine oCm ?_ | refine oK ?_) <;> (first | refine oPt ?_ | refine oPf ?_ | refine oK ?_) <;> (first | refine oPt ?_ | refine oPf ?_) <;> refine oMv ?_ <;> (first | refine oMv ?_ | refine oK ?_) <;> (first | refine oCm ?_ | refine oK ?_) <;> (first | refine oMv ?_ | refine oK ?_) <;> (first | refine oMv ?_ | refine oK ?_) <;> (first | refine oCm ?_ | refine oK ?_) <;> (first | refine oPt ?_ | refine oPf ?_ | refine oK ?_) <;> (first | refine oPt ?_ | refine oPf ?_) <;> refine oAs ?_ <;> refine oN ?_))
set_option maxRecDepth 100000 in
set_option maxHeartbeats 1000000 in
theorem r9_ {c : Code} (hc : fS 9 (bodyOf Tryz.f112) = some c) {Q : Exit → St → Prop} (s : ByteArray) (road : Bool) (out : ByteArray) (k n : Nat) (lb : Bool) (hb : road = false ∨ ¬ (n < 32 ∨ n = 127 ∨ n = 47 ∨ n = 92)) (h : Q .normal (R6 s road out k n lb)) : SWp Tryz.prog 120 c Q (R6 s road out k n lb) := by
  obtain rfl := Option.some.inj hc
  clear hc
  refine swp_joinQ _ ?_ h
  clear h
  cases road with
  | false =>
    clear hb
    repeat' (first | refine gc ?_ | refine join_go (weak_sub (.cons rfl rfl rfl (.cons rfl rfl rfl (.cons rfl rfl rfl (.cons rfl rfl rfl (.cons rfl rfl rfl (.cons rfl rfl rfl .nil)))))) .nil .nil) | (refine rg 9 ?_; refine oMv ?_; refine oMv ?_; (first | refine oMv ?_ | refine oK ?_) <;> (first | refine oCm ?_ | refine oK ?_) <;> (first | refine oMv ?_ | refine oK ?_) <;> (first | refine oMv ?_ | refine oK ?_) <;> (first | refine oCm ?_ | refine oK ?_) <;> (first | refine oPt ?_ | refine oPf ?_ | refine oK ?_) <;> (first | refine oMv ?_ | refine oK ?_) <;> (first | refine oMv ?_ | refine oK ?_) <;> (first | refine oCm ?_ | refine oK ?_) <;> (first | refine oPt ?_ | refine oPf ?_ | refine oK ?_) <;> (first | refine oMv ?_ | refine oK ?_) <;> (first | refine oMv ?_ | refine oK ?_) <;> (first | refine oCm ?_ | refine oK ?_) <;> (first | refine oPt ?_ | refine oPf ?_ | refine oK ?_) <;> (first | refine oPt ?_ | refine oPf ?_) <;> refine oN ?_) | refine ct ?_ | refine cf ?_)
  | true =>
    have h1 : ¬ n < 32 := fun e => by rcases hb with h | h; cases h; omega
    have h2 : n ≠ 127 := fun e => by rcases hb with h | h; cases h; omega
    have h3 : n ≠ 47 := fun e => by rcases hb with h | h; cases h; omega
    have h4 : n ≠ 92 := fun e => by rcases hb with h | h; cases h; omega
    clear hb
    repeat' (first | refine gc ?_ | refine join_go (weak_sub (.cons rfl rfl rfl (.cons rfl rfl rfl (.cons rfl rfl rfl (.cons rfl rfl rfl (.cons rfl rfl rfl (.cons rfl rfl rfl .nil)))))) .nil .nil) | (refine rg 9 ?_; refine oMv ?_; refine oMv ?_; refine oMv ?_ <;> refine oCm ?_ <;> refine oMv ?_ <;> refine oMv ?_ <;> refine oCm ?_ <;> (first | refine oPt ?_ | refine oPf ?_) <;> refine oMv ?_ <;> refine oMv ?_ <;> refine oCm ?_ <;> (first | refine oPt ?_ | refine oPf ?_) <;> refine oMv ?_ <;> refine oMv ?_ <;> refine oCm ?_ <;> (first | refine oPt ?_ | refine oPf ?_) <;> refine oPt ?_ <;> refine oN ?_) | refine ct ?_ | refine cf ?_)
set_option maxRecDepth 100000 in
set_option maxHeartbeats 1000000 in
theorem r9_bad {c : Code} (hc : fS 9 (bodyOf Tryz.f112) = some c) {Q : Exit → St → Prop} (s : ByteArray) (out : ByteArray) (k n : Nat) (lb : Bool) (hb : n < 32 ∨ n = 127 ∨ n = 47 ∨ n = 92) (h : Q .ret ⟨[(4, .t (.v (.string ⟨#[]⟩))), (5, .t (.v (.bool false)))], [], []⟩) : SWp Tryz.prog 120 c Q (R6 s true out k n lb) := by
  obtain rfl := Option.some.inj hc
  clear hc
  have hh' : n < 32 ∨ (¬ n < 32 ∧ n = 127) ∨ (¬ n < 32 ∧ n ≠ 127 ∧ n = 47) ∨ (¬ n < 32 ∧ n ≠ 127 ∧ n ≠ 47 ∧ n = 92) := by omega
  clear hb
  rcases hh' with g1 | ⟨g1, g2⟩ | ⟨g1, g2, g3⟩ | ⟨g1, g2, g3, g4⟩
  all_goals
    repeat' (first | refine swp_ret_weak (weak_sub (.cons rfl rfl rfl (.cons rfl rfl rfl .nil)) .nil .nil) h | refine then_go ?_ | refine swp_seq ?_ | (refine rg 9 ?_; refine oMv ?_; refine oMv ?_; refine oMv ?_ <;> refine oCm ?_ <;> refine oMv ?_ <;> (first | refine oMv ?_ | refine oK ?_) <;> (first | refine oCm ?_ | refine oK ?_) <;> (first | refine oPt ?_ | refine oPf ?_) <;> refine oMv ?_ <;> (first | refine oMv ?_ | refine oK ?_) <;> (first | refine oCm ?_ | refine oK ?_) <;> (first | refine oPt ?_ | refine oPf ?_) <;> refine oMv ?_ <;> (first | refine oMv ?_ | refine oK ?_) <;> (first | refine oCm ?_ | refine oK ?_) <;> (first | refine oPt ?_ | refine oPf ?_) <;> refine oPt ?_ <;> refine oN ?_) | refine rg 10 (aq49 ?_) | refine swp_ret ?_ | refine swp_skip ?_ | refine swp_block ?_ | refine swp_exit ?_ | refine block_go ?_ | refine block_exit ?_ | refine block_far rfl ?_ | refine block_ret ?_ | refine then_ret ?_ | refine then_exit ?_ | refine for_ret ?_ | refine for_exit ?_ | refine ct ?_)
set_option maxRecDepth 100000 in
set_option maxHeartbeats 1000000 in
theorem r11_plain {cd : Code} (hc : fS 11 (bodyOf Tryz.f112) = some cd) {Q : Exit → St → Prop} (s : ByteArray) (road : Bool) (out : L8) (k : Nat) (c : UInt8) (ho : out.length ≤ 100000) (hp : plainB c = true) (h : Q .normal (R5 s road (bs (out ++ [c])) k c.toNat)) : SWp Tryz.prog 120 cd Q (R6 s road (bs out) k c.toNat (letB c.toNat)) := by
  obtain rfl := Option.some.inj hc
  clear hc
  refine swp_joinQ _ ?_ h
  clear h
  rw [plain_nat] at hp
  have hcat : bs out ++ bs [c] = bs (out ++ [c]) := bs_snoc1 out c
  have hb1' : T.sl 1 [[T.v (.int .u8 (c.toNat : Int))]] = T.sl 1 ([c].map byteT) := rfl
  have hq : (bs out).size + (bs [c]).size ≤ 9223372036854775807 := by rw [bs_size]; show _ + 1 ≤ _; omega
  have hq' : (bs out).size + (bs [c]).size ≤ maxLen := by unfold maxLen; exact hq
  generalize c.toNat = n at *
  have hpw : letB n = true ∨ (letB n = false ∧ n = 45) ∨ (letB n = false ∧ n ≠ 45 ∧ n = 46) ∨ (letB n = false ∧ n ≠ 45 ∧ n ≠ 46 ∧ n = 95) ∨ (letB n = false ∧ n ≠ 45 ∧ n ≠ 46 ∧ n ≠ 95 ∧ n = 126) := by
    cases hl : letB n with
    | true => exact .inl rfl
    | false =>
      rw [hl] at hp
      have : n = 45 ∨ n = 46 ∨ n = 95 ∨ n = 126 := by simpa [or_assoc] using hp
      refine .inr ?_
      simp only [true_and]
      omega
  clear hp
  generalize letB n = lb at *
  rcases hpw with rfl | ⟨rfl, g1⟩ | ⟨rfl, g1, g2⟩ | ⟨rfl, g1, g2, g3⟩ | ⟨rfl, g1, g2, g3, g4⟩
  all_goals
    repeat' (first | refine gc ?_ | refine join_go (weak_sub (.cons rfl (by rfl) rfl (.cons rfl (by rfl) rfl (.cons rfl (by rfl) rfl (.cons rfl (by rfl) rfl (.cons rfl (by rfl) rfl .nil))))) .nil .nil) | (refine rg 11 ?_; refine oMv ?_; refine oMv ?_; (first | refine oMv ?_ | refine oK ?_) <;> (first | refine oCm ?_ | refine oK ?_) <;> (first | refine oPt ?_ | refine oPf ?_) <;> refine oMv ?_ <;> (first | refine oMv ?_ | refine oK ?_) <;> (first | refine oCm ?_ | refine oK ?_) <;> (first | refine oPt ?_ | refine oPf ?_) <;> refine oMv ?_ <;> (first | refine oMv ?_ | refine oK ?_) <;> (first | refine oCm ?_ | refine oK ?_) <;> (first | refine oPt ?_ | refine oPf ?_) <;> refine oMv ?_ <;> (first | refine oMv ?_ | refine oK ?_) <;> (first | refine oCm ?_ | refine oK ?_) <;> (first | refine oPt ?_ | refine oPf ?_) <;> refine oN ?_) | (refine rg 12 ?_; refine oMv ?_; refine oMv ?_; refine sp (po_buildSlice rfl (tyE rfl) (dc (.nil _)) rfl rfl rfl) ?_; refine sp (po_bytes_str (l := [c]) rfl rfl (vws_eq hb1') byt23 (tyR rfl)) ?_; refine aq117 ?_) | refine ct ?_)
set_option maxRecDepth 100000 in
set_option maxHeartbeats 1000000 in
theorem r11_hex {cd : Code} (hc : fS 11 (bodyOf Tryz.f112) = some cd) {Q : Exit → St → Prop} (s : ByteArray) (road : Bool) (out : L8) (k n na nb : Nat) (ho : out.length ≤ 100000) (hn : n = 16 * na + nb) (ha : na < 16) (hb : nb < 16) (h1 : letB n = false) (h2 : n ≠ 45 ∧ n ≠ 46 ∧ n ≠ 95 ∧ n ≠ 126) (h : Q .normal (R5 s road (bs (out ++ [37, hexU (na : Int), hexU (nb : Int)])) k n)) : SWp Tryz.prog 120 cd Q (R6 s road (bs out) k n (letB n)) := by
  obtain rfl := Option.some.inj hc
  clear hc
  refine swp_joinQ _ ?_ h
  clear h
  rw [h1]
  obtain ⟨h3, h4, h5, h6⟩ := h2
  have ha15 := and15u (k := n) (by omega)
  have hda : n / 16 = na := by omega
  have hmb : n % 16 = nb := by omega
  rw [hmb] at ha15
  have hq2 : (⟨#[37]⟩ : ByteArray).size = 1 := rfl
  have hq0 : (bs out).size ≤ 100000 := by rw [bs_size]; exact ho
  have hq16 : (⟨#[48, 49, 50, 51, 52, 53, 54, 55, 56, 57, 65, 66, 67, 68, 69, 70]⟩ : ByteArray).size = 16 := rfl
  have hsl1 := hexS_slice ha
  have hsl2 := hexS_slice hb
  have hq5 : ((⟨#[48, 49, 50, 51, 52, 53, 54, 55, 56, 57, 65, 66, 67, 68, 69, 70]⟩ : ByteArray).extract na (na + 1)).size = 1 := by rw [hsl1]; rfl
  have hq6 : ((⟨#[48, 49, 50, 51, 52, 53, 54, 55, 56, 57, 65, 66, 67, 68, 69, 70]⟩ : ByteArray).extract nb (nb + 1)).size = 1 := by rw [hsl2]; rfl
  have hq3 : (bs out ++ (⟨#[37]⟩ : ByteArray)).size = (bs out).size + 1 := by rw [ByteArray.size_append, hq2]
  have hq4 : (bs out ++ (⟨#[37]⟩ : ByteArray) ++ (⟨#[48, 49, 50, 51, 52, 53, 54, 55, 56, 57, 65, 66, 67, 68, 69, 70]⟩ : ByteArray).extract na (na + 1)).size = (bs out).size + 2 := by rw [ByteArray.size_append, hq5, hq3]
  have hcat : bs out ++ (⟨#[37]⟩ : ByteArray) ++ (⟨#[48, 49, 50, 51, 52, 53, 54, 55, 56, 57, 65, 66, 67, 68, 69, 70]⟩ : ByteArray).extract na (na + 1) ++ (⟨#[48, 49, 50, 51, 52, 53, 54, 55, 56, 57, 65, 66, 67, 68, 69, 70]⟩ : ByteArray).extract nb (nb + 1) = bs (out ++ [37, hexU (na : Int), hexU (nb : Int)]) := by
    rw [hsl1, hsl2]
    exact bs_inj (by rw [toList_append, toList_append, toList_append, bs_toList, bs_toList, bs_toList, bs_toList, show (⟨#[37]⟩ : ByteArray).toList = [37] from bs_toList [37]]; simp)
  clear hsl1 hsl2 hmb
  repeat' (first | (refine rg 11 ?_; refine oMv ?_; refine oMv ?_; refine oMv ?_ <;> refine oCm ?_ <;> (first | refine oPt ?_ | refine oPf ?_) <;> refine oMv ?_ <;> refine oMv ?_ <;> refine oCm ?_ <;> (first | refine oPt ?_ | refine oPf ?_) <;> refine oMv ?_ <;> refine oMv ?_ <;> refine oCm ?_ <;> (first | refine oPt ?_ | refine oPf ?_) <;> refine oMv ?_ <;> refine oMv ?_ <;> refine oCm ?_ <;> (first | refine oPt ?_ | refine oPf ?_) <;> refine oN ?_) | refine gc ?_ | refine ct ?_ | refine cf ?_ | refine sc ?_ ?_ <;> intro hc | refine rq rfl (rt (rt .nil)) ?_)
  refine swp_draw (id := 13) 16 mixed (by kernel_rfl) (by kernel_rfl) ?_
  refine dMv ?_
  first | refine dp (po_arith (c := ((na + 1 : Nat) : Int)) rfl rfl rfl (ar_add (wrap_u8 (by omega)) (by rfl))) ?_ | refine dp (po_arith (c := ((nb + 1 : Nat) : Int)) rfl rfl rfl (ar_add (wrap_u8 (by omega)) (by rfl))) ?_ | refine dp (po_cat rfl rfl rfl (by omega)) ?_
  refine dMv ?_
  refine dp (po_shr4u hda rfl rfl rfl) ?_
  refine dMv ?_
  refine dp (po_shr4u hda rfl rfl rfl) ?_
  first | refine dp (po_arith (c := ((na + 1 : Nat) : Int)) rfl rfl rfl (ar_add (wrap_u8 (by omega)) (by rfl))) ?_ | refine dp (po_arith (c := ((nb + 1 : Nat) : Int)) rfl rfl rfl (ar_add (wrap_u8 (by omega)) (by rfl))) ?_ | refine dp (xinc rfl) ?_ | refine dp (xadd rfl) ?_
  first | refine dp (po_slice_str (l := na) (h' := na + 1) rfl rfl (tyR rfl) ⟨_, rfl⟩ ⟨_, rfl⟩ (by omega) (by omega)) ?_ | refine dp (po_slice_str (l := nb) (h' := nb + 1) rfl rfl (tyR rfl) ⟨_, rfl⟩ ⟨_, rfl⟩ (by omega) (by omega)) ?_ | refine dp (po_slice_str rfl rfl (tyR rfl) (by first | rfl | exact ⟨_, rfl⟩) (by first | rfl | exact ⟨_, rfl⟩) (by omega) (by omega)) ?_
  first | refine dp (po_arith (c := ((na + 1 : Nat) : Int)) rfl rfl rfl (ar_add (wrap_u8 (by omega)) (by rfl))) ?_ | refine dp (po_arith (c := ((nb + 1 : Nat) : Int)) rfl rfl rfl (ar_add (wrap_u8 (by omega)) (by rfl))) ?_ | refine dp (po_cat rfl rfl rfl (by omega)) ?_
  refine dMv ?_
  first | refine dp (po_andu ha15 rfl rfl rfl) ?_ | refine dp (po_and rfl rfl rfl) ?_
  refine dMv ?_
  first | refine dp (po_andu ha15 rfl rfl rfl) ?_ | refine dp (po_and rfl rfl rfl) ?_
  first | refine dp (po_arith (c := ((na + 1 : Nat) : Int)) rfl rfl rfl (ar_add (wrap_u8 (by omega)) (by rfl))) ?_ | refine dp (po_arith (c := ((nb + 1 : Nat) : Int)) rfl rfl rfl (ar_add (wrap_u8 (by omega)) (by rfl))) ?_ | refine dp (xinc rfl) ?_ | refine dp (xadd rfl) ?_
  first | refine dp (po_slice_str (l := na) (h' := na + 1) rfl rfl (tyR rfl) ⟨_, rfl⟩ ⟨_, rfl⟩ (by omega) (by omega)) ?_ | refine dp (po_slice_str (l := nb) (h' := nb + 1) rfl rfl (tyR rfl) ⟨_, rfl⟩ ⟨_, rfl⟩ (by omega) (by omega)) ?_ | refine dp (po_slice_str rfl rfl (tyR rfl) (by first | rfl | exact ⟨_, rfl⟩) (by first | rfl | exact ⟨_, rfl⟩) (by omega) (by omega)) ?_
  first | refine dp (po_arith (c := ((na + 1 : Nat) : Int)) rfl rfl rfl (ar_add (wrap_u8 (by omega)) (by rfl))) ?_ | refine dp (po_arith (c := ((nb + 1 : Nat) : Int)) rfl rfl rfl (ar_add (wrap_u8 (by omega)) (by rfl))) ?_ | refine dp (po_cat rfl rfl rfl (by omega)) ?_
  refine sdraw_nil ?_
  refine oAs ?_
  refine sops_nil ?_
  exact join_go (weak_sub (.cons rfl (by first | rfl | (exact str_eq hcat)) rfl (.cons rfl (by first | rfl | (exact str_eq hcat)) rfl (.cons rfl (by first | rfl | (exact str_eq hcat)) rfl (.cons rfl (by first | rfl | (exact str_eq hcat)) rfl (.cons rfl (by first | rfl | (exact str_eq hcat)) rfl .nil))))) .nil .nil)
end Go.Proofs.YtpncekdhigappaaGreatDoor.Pth

/- Targets: the document's answer, what is said by %: walk. -/
namespace Go.Proofs.YtpncekdhigappaaGreatDoor.Pth
set_option linter.unusedVariables false
set_option linter.unusedSimpArgs false
open Go.RowKit Mem Sim Opn Str Hd
def RSt (s : ByteArray) (road : Bool) (x : L8 × Nat) : St := ⟨[(0, .t (.v (.string s))), (1, .t (.v (.bool road))), (6, .t (.v (.string (bs x.1)))), (7, .t (.v (.int .i64 (x.2 : Int))))], [], []⟩
def refSaidT (x : L8 × Bool) : T := if x.2 then .tup [.v (.string (bs x.1)), .v (.bool true)] else .tup [.v (.string ⟨#[]⟩), .v (.bool false)]
set_option maxRecDepth 100000 in
set_option maxHeartbeats 2000000 in
theorem refSaid_ (road : Bool) (s : ByteArray) (hs : s.size ≤ 100000) (hok : okL s.toList = true) :
    PCalls Tryz.prog 112 [.v (.string s), .v (.bool road)] (refSaidT (saidL (badR road) s.toList)) := by
  have hsz : s.toList.length = s.size := toList_len s
  refine pcalls_of Tryz.func112 rfl rfl Tryz.ntmps112 rfl ?_
  repeat' (first | refine rg 0 (aq49 ?_) | refine rg 1 (aq0 ?_) | refine rg 2 (aq0 ?_) | refine gc ?_ | refine ct ?_ | refine cf ?_ | refine sc ?_ ?_ <;> intro hc | refine rq rfl (rt (rt .nil)) ?_)
  refine swp_fam (RSt s road) (fun x => x.2 ≤ s.size ∧ x.1.length ≤ x.2 ∧ okL (s.toList.drop x.2) = true ∧ saidL (badR road) s.toList = (x.1 ++ (saidL (badR road) (s.toList.drop x.2)).1, (saidL (badR road) (s.toList.drop x.2)).2)) (fun x => s.size - x.2) ([], 0) (weak_sub (.cons rfl rfl rfl (.cons rfl rfl rfl (.cons rfl rfl rfl (.cons rfl rfl rfl .nil)))) .nil .nil) ⟨by simp, by simp, hok, rfl⟩ ?_
  rintro ⟨out, k⟩ ⟨h1, h2, h3, h4⟩
  unfold RSt
  dsimp only at h1 h2 h3 h4 ⊢
  have ho : (bs out).size = out.length := bs_size out
  by_cases hlt : k < s.size
  · have e1 := tl_drop s hlt
    by_cases hp : s[k].toNat = 37
    · have hp' : s[k] = 37 := UInt8.toNat_inj.1 hp
      rw [e1, hp'] at h3 h4
      have hpc := okL_pct h3
      rw [pct_at] at hpc
      by_cases h5 : k + 2 < s.size
      · rw [dif_pos h5] at hpc
        rw [tl_drop s (by omega : k + 1 < s.size), tl_drop s h5] at h3 h4
        have h6 := okL_tail (okL_tail (okL_tail h3))
        have ca := refHex_ s[k + 1]
        have cb := refHex_ s[k + 2]
        rw [Bool.and_eq_true, decide_eq_true_eq, decide_eq_true_eq] at hpc
        have hn := num2_nat hpc.1 hpc.2
        have r1 := dig_rng s[k + 1]
        have r2 := dig_rng s[k + 2]
        have hu : (num2 s[k + 1] s[k + 2]).toNat < 256 := UInt8.toNat_lt _
        have h8 : IntKind.u8.wrap (dig s[k + 1] * 16 + dig s[k + 2]) = ((num2 s[k + 1] s[k + 2]).toNat : Int) := by rw [Int.mul_comm, ← hn]; exact wrap_u8 (by omega)
        rw [saidL_pct] at h4
        obtain ⟨na, hna⟩ := Int.eq_ofNat_of_zero_le hpc.1
        obtain ⟨nb, hnb⟩ := Int.eq_ofNat_of_zero_le hpc.2
        have hhd : badR road (num2 s[k + 1] s[k + 2]) = (road && hiddenB (num2 s[k + 1] s[k + 2])) := rfl
        unfold hiddenB at hhd
        repeat' (first | refine rg 3 (aq24 ?_) | refine rg 5 (aq127 ?_) | (refine rd 7 ?_; refine dMv ?_; refine dMv ?_; refine dp (xinc rfl) ?_; refine dp (xist rfl) ?_; refine dC (ca) rfl (ac .nil) ?_; refine dp (po_arith rfl rfl rfl (ar_mul (by first | rfl | (refine wrap_i64 ?_; omega)) rfl)) ?_; refine aq114 ?_; (first | refine dC (ca) rfl (ac .nil) ?_ | refine dC (cb) rfl (ac .nil) ?_); (first | refine dp (xinc rfl) ?_ | refine dp (xadd rfl) ?_); refine dp (po_conv_int rfl rfl (tyK rfl) (tyK rfl) h8) ?_; refine dAs ?_; refine dN ?_; refine oN ?_) | refine gc ?_ | refine ct ?_ | refine cf ?_ | refine sc ?_ ?_ <;> intro hc | refine rq rfl (rt (rt .nil)) ?_)
        rw [hna, hnb] at h4 hn
        rw [hna] at r1
        rw [hnb] at r2
        generalize num2 s[k + 1] s[k + 2] = c at *
        refine swp_weak (st' := R5 s road (bs out) k c.toNat) (weak_sub (.cons rfl rfl rfl (.cons rfl rfl rfl (.cons rfl rfl rfl (.cons rfl rfl rfl (.cons rfl rfl rfl .nil))))) .nil .nil) ?_
        refine r8_ rfl s road (bs out) k c.toNat ?_
        refine then_go ?_
        refine swp_seq ?_
        cases hbd : badR road c with
        | true =>
          rw [hbd] at hhd h4
          rw [if_pos rfl] at h4
          rw [h4, List.append_nil]
          have hrd : road = true := by cases road with | true => rfl | false => cases hhd
          subst hrd
          refine r9_bad rfl s (bs out) k c.toNat _ (by simpa [or_assoc] using hhd.symm) ?_
          repeat' (first | refine fam_ret ?_ | refine gc ?_ | refine ct ?_ | refine cf ?_ | refine sc ?_ ?_ <;> intro hc | refine rq rfl (rt (rt .nil)) ?_)
          rfl
        | false =>
          rw [hbd] at hhd h4
          rw [if_neg (by simp)] at h4
          refine r9_ rfl s road (bs out) k c.toNat _ (by
            cases road with
            | false => exact .inl rfl
            | true => exact .inr (by simpa [or_assoc, and_assoc] using hhd.symm)) ?_
          refine then_go ?_
          refine swp_seq ?_
          cases hpb : plainB c with
          | true =>
            rw [hpb, if_pos rfl] at h4
            refine r11_plain rfl s road out k c (by omega) hpb ?_
            clear hhd hn ca cb h8 r1 r2 hna hnb
            generalize c.toNat = n at *
            repeat' (first | refine fam_next (out ++ [c], k + 3) (by simp only; omega) (weak_sub (.cons rfl (by rfl) rfl (.cons rfl (by rfl) rfl (.cons rfl (by rfl) rfl (.cons rfl (by rfl) rfl .nil)))) .nil .nil) ⟨by simp only; omega, by simp; omega, h6, by rw [h4]; simp⟩ | refine rg 14 (aq56 ?_) | refine rg 4 (aq56 ?_) | refine gc ?_)
          | false =>
            rw [hpb, if_neg (by simp)] at h4
            rw [plain_nat] at hpb
            have hpw : letB c.toNat = false ∧ c.toNat ≠ 45 ∧ c.toNat ≠ 46 ∧ c.toNat ≠ 95 ∧ c.toNat ≠ 126 := by simpa [and_assoc] using hpb
            refine r11_hex rfl s road out k c.toNat na nb (by omega) (by omega) (by omega) (by omega) hpw.1 hpw.2 ?_
            clear hhd hn ca cb h8 r1 r2 hna hnb hpw hpb
            generalize c.toNat = n at *
            repeat' (first | refine fam_next (out ++ [37, hexU (na : Int), hexU (nb : Int)], k + 3) (by simp only; omega) (weak_sub (.cons rfl (by rfl) rfl (.cons rfl (by rfl) rfl (.cons rfl (by rfl) rfl (.cons rfl (by rfl) rfl .nil)))) .nil .nil) ⟨by simp only; omega, by simp; omega, h6, by rw [h4]; simp⟩ | refine rg 14 (aq56 ?_) | refine rg 4 (aq56 ?_) | refine gc ?_)
      · rw [dif_neg h5] at hpc; cases hpc
    · have hp' : s[k] ≠ 37 := fun e => hp (by rw [e]; rfl)
      rw [e1] at h3 h4
      rw [saidL_cons hp'] at h4
      have h37 : (!decide (((s[k].toNat : Nat) : Int) = 37)) = true := by rw [decide_eq_false (by omega)]; rfl
      have hcat : bs out ++ s.extract k (k + 1) = bs (out ++ [s[k]]) := by rw [ext_one s hlt]; exact bs_snoc1 _ _
      have hes : (s.extract k (k + 1)).size = 1 := by rw [ext_one s hlt]; rfl
      repeat' (first | refine fam_next (out ++ [s[k]], k + 1) (by simp only; omega) (weak_sub (.cons rfl (by rfl) rfl (.cons rfl (by rfl) rfl (.cons rfl (by first | rfl | (exact str_eq hcat)) rfl (.cons rfl (by rfl) rfl .nil)))) .nil .nil) ⟨by simp only; omega, by simp; omega, okL_tail h3, by rw [h4]; simp⟩ | refine rg 3 (aq24 ?_) | refine rg 5 (aq127 ?_) | (refine rg 6 ?_; refine oMv ?_; refine oMv ?_; refine oMv ?_; refine oMv ?_; refine sp (xinc rfl) ?_; refine sp (po_slice_str rfl rfl (tyR rfl) (by first | rfl | exact ⟨_, rfl⟩) (by first | rfl | exact ⟨_, rfl⟩) (by omega) (by omega)) ?_; refine sp (po_cat rfl rfl rfl (by omega)) ?_; refine oAs ?_; refine oN ?_) | refine rg 4 (aq3 ?_) | refine gc ?_ | refine ct ?_)
  · obtain rfl : k = s.size := by omega
    have e1 : s.toList.drop s.size = [] := List.drop_eq_nil_of_le (by omega)
    rw [e1] at h4
    rw [h4]
    repeat' (first | refine fam_ret ?_ | refine fam_exit ?_ | refine rg 3 (aq24 ?_) | refine rg 15 (aq52 ?_) | refine gc ?_ | refine ct ?_ | refine cf ?_ | refine sc ?_ ?_ <;> intro hc | refine rq rfl (rt (rt .nil)) ?_)
    show T.tup [T.v (.string (bs (out ++ []))), T.v (.bool true)] = _
    rw [List.append_nil]; rfl
end Go.Proofs.YtpncekdhigappaaGreatDoor.Pth

/- Targets' paths: the document's ways, in plain Lean. -/
namespace Go.Proofs.YtpncekdhigappaaGreatDoor.Pth
set_option linter.unusedVariables false
set_option linter.unusedSimpArgs false
open Mem
def keptG : List L8 → List L8 → Option (List L8)
  | left, [] => some left
  | left, s :: l => match keep1 left s with
    | none => none
    | some left' => keptG left' l
theorem keptG_cons (left : List L8) (s : L8) (l : List L8) : keptG left (s :: l) = match keep1 left s with
    | none => none
    | some left' => keptG left' l := rfl
theorem keptF_G : ∀ (l left : List L8) (dir : Bool), keptF left dir l = (keptG left l).map fun x => (x, (l.getLast?.map dotB).getD dir)
  | [], left, dir => rfl
  | s :: l, left, dir => by
    rw [keptG_cons]
    unfold keptF
    cases hk : keep1 left s with
    | none => rfl
    | some left' =>
      dsimp only
      rw [keptF_G l left' (dotB s)]
      cases l with
      | nil => rfl
      | cons a l =>
        rw [List.getLast?_cons_cons]
        have : ∃ z, (a :: l).getLast? = some z := Option.isSome_iff_exists.1 (by simp)
        obtain ⟨z, hz⟩ := this
        rw [hz]; rfl
theorem keptL_G (s : L8) : keptL s = (keptG [] (splL (s.drop 1))).map fun x => (x, ((splL (s.drop 1)).getLast?.map dotB).getD false && decide (x ≠ [])) := by
  unfold keptL
  rw [keptF_G, Option.map_map]; rfl
theorem splL_pre : ∀ (a b : L8), (∀ x ∈ a, x ≠ 47) → splL (a ++ 47 :: b) = a :: splL b
  | [], b, _ => by rw [List.nil_append, splL_cons, if_pos rfl]
  | c :: a, b, h => by
    rw [List.cons_append, splL_cons, if_neg (h c (by simp)), splL_pre a b fun x hx => h x (by simp [hx])]
theorem splL_all : ∀ (a : L8), (∀ x ∈ a, x ≠ 47) → splL a = [a]
  | [], _ => rfl
  | c :: a, h => by
    rw [splL_cons, if_neg (h c (by simp)), splL_all a fun x hx => h x (by simp [hx])]
def joinR (dir : Bool) (l : List L8) : L8 := l.flatMap (fun s => 47 :: s) ++ (if l = [] ∨ dir = true then [47] else [])
theorem inter_flat : ∀ (x : L8) (l : List L8), 47 :: ([47] : L8).intercalate (x :: l) = (x :: l).flatMap (fun s => 47 :: s)
  | x, [] => by simp [List.intercalate]
  | x, y :: l => by
    have ih := inter_flat y l
    rw [List.flatMap_cons, ← ih]
    simp [List.intercalate]
theorem joinL_R (dir : Bool) (l : List L8) : joinL dir l = joinR dir l := by
  unfold joinL joinR
  cases l with
  | nil => simp [List.intercalate]
  | cons x l =>
    rw [inter_flat]
    cases dir <;> simp
theorem take_flat_len (l : List L8) (k : Nat) : ((l.take k).flatMap (fun s => 47 :: s)).length ≤ tot l := by
  induction l generalizing k with
  | nil => simp
  | cons x l ih =>
    cases k with
    | zero => simp
    | succ k =>
      have := ih k
      rw [List.take_succ_cons, List.flatMap_cons, List.length_append, tot_cons, List.length_cons]; omega
end Go.Proofs.YtpncekdhigappaaGreatDoor.Pth

/- Targets: the document's answer: rows of segments: walks. -/
namespace Go.Proofs.YtpncekdhigappaaGreatDoor.Pth
set_option linter.unusedVariables false
set_option linter.unusedSimpArgs false
open Go.RowKit Mem Sim Opn Str
def refKeptT (x : Option (List L8)) : T := match x with
  | some out => .tup [.sl 1 (out.map strT), .v (.bool true)]
  | none => .tup [.sl 1 [], .v (.bool false)]
def KSt (l : List L8) (x : List L8 × Nat) : St := ⟨[(0, .t (.sl 1 (l.map strT))), (4, .own 104 (x.1.map strT).length), (5, .t (.v (.int .i64 (x.2 : Int))))], [], [(104, ⟨9, 1, x.1.map strT⟩)]⟩
theorem drop_at (l : List L8) {k : Nat} (h : k < l.length) : l.drop k = l[k] :: l.drop (k + 1) := List.drop_eq_getElem_cons h
set_option maxRecDepth 100000 in
set_option maxHeartbeats 1000000 in
theorem refKept_ (l : List L8) (hn : l.length ≤ 100000) : PCalls Tryz.prog 114 [.sl 1 (l.map strT)] (refKeptT (keptG [] l)) := by
  have hml : (l.map strT).length = l.length := List.length_map _
  refine pcalls_of Tryz.func114 rfl rfl Tryz.ntmps114 rfl ?_
  repeat' (first | refine rg 0 (aq49 ?_) | refine rg 1 (aq0 ?_) | refine rg 2 (aq0 ?_) | refine gc ?_ | refine ct ?_ | refine cf ?_ | refine sc ?_ ?_ <;> intro hc | refine rq rfl (rt (rt .nil)) ?_)
  refine swp_fam (KSt l) (fun x => x.2 ≤ l.length ∧ x.1.length ≤ x.2 ∧ keptG [] l = keptG x.1 (l.drop x.2)) (fun x => l.length - x.2) ([], 0) ?_ ⟨by simp, by simp, rfl⟩ ?_
  · refine Weak.trans (weak_own0 (i := 104) 9 1 (s := 4) rfl rfl) ?_
    exact (weak_sub (.cons rfl rfl rfl (.cons rfl rfl rfl (.cons rfl rfl rfl .nil))) .nil (.cons rfl rfl .nil))
  rintro ⟨out, k⟩ ⟨h1, h2, h3⟩
  unfold KSt
  dsimp only at h1 h2 h3 ⊢
  have hm : (out.map strT).length = out.length := List.length_map _
  by_cases hlt : k < l.length
  · have hrow := strs_at hlt
    rw [drop_at l hlt, keptG_cons] at h3
    have g0 : decide (bs l[k] = ⟨#[]⟩) = decide (l[k] = []) := bs_dec _ []
    have g1 : decide (bs l[k] = ⟨#[46]⟩) = decide (l[k] = [46]) := bs_dec _ [46]
    have g2 : (!decide (bs l[k] = ⟨#[46, 46]⟩)) = !decide (l[k] = [46, 46]) := by rw [show decide (bs l[k] = ⟨#[46, 46]⟩) = decide (l[k] = [46, 46]) from bs_dec _ [46, 46]]
    generalize l[k] = seg at *
    by_cases hs0 : seg = []
    · have g0' := g0.trans (decide_eq_true hs0)
      have hk : keep1 out seg = some out := by subst hs0; rfl
      rw [hk] at h3
      clear g0 g1 g2
      repeat' (first | refine fam_next (out, k + 1) (by simp only; omega) (weak_sub (.cons rfl rfl rfl (.cons rfl rfl rfl (.cons rfl rfl rfl .nil))) .nil (.cons rfl rfl .nil)) ⟨by simp only; omega, by simp only; omega, h3⟩ | refine rg 3 (aq1 ?_) | (refine rg 5 ?_; refine oMv ?_; refine oMv ?_; refine sp (pix rfl (tyS rfl)) ?_; (first | refine oLb ?_ | refine oLd ?_); refine sp (po_str rfl rfl rfl rfl) ?_; refine oMv ?_; (first | refine oMv ?_ | refine oK ?_) <;> (first | refine oMv ?_ | refine oK ?_) <;> (first | refine sp (pix rfl (tyS rfl)) ?_ | refine oK ?_) <;> (first | refine oLb ?_ | refine oLd ?_ | refine oK ?_) <;> (first | refine sp (po_str rfl rfl rfl rfl) ?_ | refine oK ?_) <;> refine oPt ?_ <;> refine oN ?_) | refine rg 4 (aq3 ?_) | refine gc ?_ | refine ct ?_)
    by_cases hs1 : seg = [46]
    · have g0' := g0.trans (decide_eq_false hs0)
      have g1' := g1.trans (decide_eq_true hs1)
      have hk : keep1 out seg = some out := by subst hs1; rfl
      rw [hk] at h3
      clear g0 g1 g2
      repeat' (first | refine fam_next (out, k + 1) (by simp only; omega) (weak_sub (.cons rfl rfl rfl (.cons rfl rfl rfl (.cons rfl rfl rfl .nil))) .nil (.cons rfl rfl .nil)) ⟨by simp only; omega, by simp only; omega, h3⟩ | refine rg 3 (aq1 ?_) | refine rg 5 (aq128 ?_) | refine rg 4 (aq3 ?_) | refine gc ?_ | refine ct ?_)
    have g0' := g0.trans (decide_eq_false hs0)
    have g1' := g1.trans (decide_eq_false hs1)
    by_cases hs2 : seg = [46, 46]
    · have g2' : (!decide (bs seg = ⟨#[46, 46]⟩)) = false := by rw [g2, decide_eq_true hs2]; rfl
      clear g0 g1 g2
      by_cases ho : out = []
      · have hk : keep1 out seg = none := by unfold keep1; rw [if_pos hs2, if_pos ho]
        rw [hk] at h3
        rw [h3]
        subst ho
        repeat' (first | refine gc ?_ | refine fam_ret ?_ | refine rq rfl (.tmp rfl (.nil 1) (rt .nil)) ?_ | refine rg 3 (aq1 ?_) | refine rg 5 (aq128 ?_) | refine rg 6 (aq129 ?_) | refine rg 8 (aq10 ?_) | refine rg 9 (aq49 ?_) | refine ct ?_ | refine cf ?_ | refine sc ?_ ?_ <;> intro hc | refine rq rfl (rt (rt .nil)) ?_)
        rfl
      · have hop : 1 ≤ out.length := by cases out with | nil => exact absurd rfl ho | cons _ _ => simp
        have hk : keep1 out seg = some out.dropLast := by unfold keep1; rw [if_pos hs2, if_neg ho]
        rw [hk] at h3
        have hz : decide ((((out.map strT).length : Nat) : Int) = 0) = false := decide_eq_false (by omega)
        have hr : (out.map strT).take ((out.map strT).length - 1) = out.dropLast.map strT := by rw [List.length_map, ← List.map_take, List.dropLast_eq_take]
        have hdl : out.dropLast.length = out.length - 1 := List.length_dropLast
        have hr' : [] ++ List.drop 0 ((out.map strT).take ((out.map strT).length - 1)) = out.dropLast.map strT := by rw [hr]; rfl
        repeat' (first | refine rg 3 (aq1 ?_) | refine rg 5 (aq128 ?_) | refine rg 6 (aq129 ?_) | refine rg 8 (aq10 ?_) | (refine rg 10 ?_; refine sops_build0 (.free rfl rfl) rfl rfl rfl (tyE rfl) rfl ?_; refine oMv ?_; refine oMv ?_; refine sp (pln rfl (tyS rfl)) ?_; refine sp (po_dec rfl rfl rfl (by omega)) ?_; refine sp (po_slice rfl rfl (by first | exact .t _ | exact .own rfl (by rfl)) (tyS rfl) (by rfl) (by first | rfl | exact ⟨_, rfl⟩) (by omega) (by omega)) ?_; refine sap rfl (tyE rfl) ?_; refine oAs ?_; refine oN ?_) | refine rg 4 (aq3 ?_) | refine gc ?_ | refine ct ?_ | refine cf ?_ | refine sc ?_ ?_ <;> intro hc | refine rq rfl (rt (rt .nil)) ?_)
        refine fam_next (out.dropLast, k + 1) (by simp only; omega) (Weak.trans (b := ⟨[(0, .t (.sl 1 (l.map strT))), (4, .own 39 (out.dropLast.map strT).length), (5, .t (.v (.int .i64 ((k + 1 : Nat) : Int))))], [], [(39, ⟨9, 1, out.dropLast.map strT⟩)]⟩) (weak_sub (.cons rfl (by first | rfl | (((try dsimp only); rw [hr']; try rfl))) rfl (.cons rfl (by first | rfl | (((try dsimp only); rw [hr']; try rfl))) rfl (.cons rfl (by first | rfl | (((try dsimp only); rw [hr']; try rfl))) rfl .nil))) .nil (.cons rfl (by first | rfl | (((try dsimp only); rw [hr']; try rfl))) .nil)) (weak_renv 39 104 rfl rfl rfl rfl rfl rfl rfl)) ⟨by simp only; omega, by simp only; omega, h3⟩
    · have g2' : (!decide (bs seg = ⟨#[46, 46]⟩)) = true := by rw [g2, decide_eq_false hs2]; rfl
      have hk : keep1 out seg = some (out ++ [seg]) := by
        unfold keep1
        rw [if_neg hs2, show dotB seg = false by unfold dotB; rw [decide_eq_false hs0, decide_eq_false hs1, decide_eq_false hs2]; rfl]; rfl
      rw [hk] at h3
      have ha : (out ++ [seg]).map strT = out.map strT ++ [[T.v (.string (bs seg))]] := by rw [List.map_append]; rfl
      have hb1 : ((out.map strT).length + 1) * 64 ≤ 140737488355328 := by omega
      have hb2 : (out.map strT).length + 1 ≤ maxLen := by unfold maxLen; omega
      clear g0 g1 g2
      repeat' (first | refine fam_next (out ++ [seg], k + 1) (by simp only; omega) (weak_sub (.cons rfl (by rfl) rfl (.cons rfl (by first | rfl | ((dsimp only; rw [ha]; try rfl))) rfl (.cons rfl (by rfl) rfl .nil))) .nil (.cons rfl (by first | rfl | ((dsimp only; rw [ha]; try rfl))) .nil)) ⟨by simp only; omega, by simp; omega, h3⟩ | refine rg 3 (aq1 ?_) | refine rg 5 (aq128 ?_) | refine rg 6 (aq129 ?_) | (refine rg 7 ?_; refine oMv ?_; refine oMv ?_; refine oMv ?_; refine sp (pix rfl (tyS rfl)) ?_; (first | refine oLb ?_ | refine oLd ?_); refine sp (po_buildSlice rfl (tyE rfl) (dc (.nil _)) rfl rfl rfl) ?_; refine sap rfl (tyE rfl) ?_; refine oAs ?_; refine oN ?_) | refine rg 4 (aq3 ?_) | refine gc ?_ | refine ct ?_ | refine cf ?_)
  · obtain rfl : k = l.length := by omega
    have e1 : l.drop l.length = [] := List.drop_eq_nil_of_le (by omega)
    rw [e1] at h3
    rw [h3]
    repeat' (first | refine fam_ret ?_ | refine fam_exit ?_ | refine rg 3 (aq1 ?_) | refine rg 11 (aq52 ?_) | refine gc ?_ | refine ct ?_ | refine cf ?_ | refine sc ?_ ?_ <;> intro hc | refine rq rfl (rt (rt .nil)) ?_)
    rfl
end Go.Proofs.YtpncekdhigappaaGreatDoor.Pth
