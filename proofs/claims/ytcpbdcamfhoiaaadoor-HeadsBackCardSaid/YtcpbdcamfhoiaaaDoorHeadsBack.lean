/- The law HeadsBack: a walk. -/
import Derived.Test.YtcpbdcamfhoiaaaDoorHdC2
namespace Go.Proofs.YtcpbdcamfhoiaaaDoor.HeadsBack
set_option linter.unusedVariables false
set_option linter.unusedSimpArgs false
open Go.RowKit Mem Sim Opn Hd Str
theorem and1s : (List.range 21).all (fun k => decide (IntKind.i64.wrap ((BitVec.ofInt IntKind.i64.bits (k : Int) &&& BitVec.ofInt IntKind.i64.bits 1).toNat : Int) = ((k % 2 : Nat) : Int))) = true := by kernel_rfl
theorem and1 {k : Nat} (h : k ≤ 20) : IntKind.i64.wrap ((BitVec.ofInt IntKind.i64.bits (k : Int) &&& BitVec.ofInt IntKind.i64.bits 1).toNat : Int) = ((k % 2 : Nat) : Int) :=
  of_decide_eq_true ((List.all_eq_true.1 and1s) k (List.mem_range.2 (by omega)))
theorem po_andc {P : Program} {bx : List (Nat × List A)} {ow : List (Nat × Own)} {o : Oper} {ρ : Operand → Option A} {t t2 : TypeId} {x y : Operand} {k : IntKind} {i j c : Int} (hc : k.wrap (BitVec.ofInt k.bits i &&& BitVec.ofInt k.bits j).toNat = c) (ho : o.op = .binOp .and t x y t2) (hx : ρ x = some (.t (.v (.int k i)))) (hy : ρ y = some (.t (.v (.int k j)))) : PureOp P bx ow o ρ (.t (.v (.int k c))) := by
  subst hc; exact po_and ho hx hy
theorem bs_snoc (l : List UInt8) (b : UInt8) : bs l ++ (⟨#[b]⟩ : ByteArray) = bs (l ++ [b]) := by
  refine bs_inj ?_
  rw [toList_append, bs_toList, bs_toList, show (⟨#[b]⟩ : ByteArray).toList = [b] from bs_toList [b]]
theorem bs_app (a b : List UInt8) : bs a ++ bs b = bs (a ++ b) := by
  refine bs_inj ?_
  rw [toList_append, bs_toList, bs_toList, bs_toList]
set_option maxRecDepth 100000 in
theorem blanks_ (n : Nat) (hn : n ≤ 20) : PCalls Tryd.prog 32 [.v (.int .i64 (n : Int))] (.v (.string (bs (blanksL n)))) := by
  refine pcalls_of Tryd.func32 rfl rfl Tryd.ntmps32 rfl ?_
  repeat' (first
    | refine then_go ?_
    | refine swp_seq ?_
    | ((refine swp_region (id := 0) ?_) <;> (refine sops_pure (.free rfl rfl) rfl rfl (po_assign rfl rfl) ?_) <;> (refine sops_nil ?_))
    | ((refine swp_region (id := 1) ?_) <;> (refine sops_pure (.free rfl rfl) rfl rfl (po_assign rfl rfl) ?_) <;> (refine sops_nil ?_))
    | ((refine swp_region (id := 2) ?_) <;> (refine sops_pure (.free rfl rfl) rfl rfl (po_assign rfl rfl) ?_) <;> (refine sops_nil ?_))
    | refine swp_ret ?_
    | refine swp_skip ?_
    | refine swp_block ?_
    | refine swp_exit ?_
    | refine block_go ?_
    | refine block_exit ?_
    | refine block_far rfl ?_
    | refine block_ret ?_
    | refine then_ret ?_
    | refine then_exit ?_
    | refine for_ret ?_
    | refine for_exit ?_
    | refine ct ?_
    | refine cf ?_
    | refine swp_cond rfl (fun hc => ?_) (fun hc => ?_)
    | refine retq (by first | exact .inr rfl | exact .inl rfl) rfl (.tmp rfl (by first | exact .t _ | exact .own rfl (by first | rfl | assumption | (simp; done) | (simp; omega)) | exact .nil _ | exact .emp _ | exact .fn _) .nil) ?_)
  refine swp_for (fun k => ⟨[(0, .t (.v (.int .i64 (n : Int)))), (3, .t (.v (.string (bs (blanksL k))))), (4, .t (.v (.int .i64 (k : Int))))], [], []⟩) (fun _ => True) n (weak_sub (.cons rfl rfl rfl (.cons rfl rfl rfl (.cons rfl rfl rfl .nil))) .nil .nil) trivial ?_
  intro k hk _
  by_cases hlt : k < n
  · have ha := and1 (k := k) (by omega)
    have hsz : (bs (blanksL k)).size = k := by rw [bs_size, blanksL_len]
    have s1 : (⟨#[32]⟩ : ByteArray).size = 1 := rfl
    have s9 : (⟨#[9]⟩ : ByteArray).size = 1 := rfl
    have hnx := blanksL_next k
    by_cases h2 : k % 2 = 0
    · rw [if_pos h2] at hnx
      have hx : bs (blanksL k) ++ (⟨#[32]⟩ : ByteArray) = bs (blanksL (k + 1)) := by rw [bs_snoc, hnx]
      repeat' (first
        | refine then_go ?_
        | refine swp_seq ?_
        | refine for_next hlt (weak_sub (.cons rfl (by first | rfl | (exact congrArg (fun s => A.t (T.v (Value.string s))) hx)) rfl (.cons rfl (by first | rfl | (exact congrArg (fun s => A.t (T.v (Value.string s))) hx)) rfl (.cons rfl (by first | rfl | (exact congrArg (fun s => A.t (T.v (Value.string s))) hx)) rfl .nil))) .nil .nil) trivial
        | ((refine swp_region (id := 3) ?_) <;> (first | refine sops_pure (.free rfl rfl) rfl rfl (po_andc ha rfl rfl rfl) ?_ | refine sops_pure (.free rfl rfl) rfl rfl (po_move rfl rfl) ?_) <;> (first | refine sops_pure (.free rfl rfl) rfl rfl (po_andc ha rfl rfl rfl) ?_ | refine sops_pure (.free rfl rfl) rfl rfl (po_move rfl rfl) ?_) <;> (first | refine sops_pure (.free rfl rfl) rfl rfl (po_andc ha rfl rfl rfl) ?_ | refine sops_pure (.free rfl rfl) rfl rfl (po_cmp rfl rfl rfl rfl) ?_) <;> (refine sops_nil ?_))
        | ((refine swp_region (id := 5) ?_) <;> (first | refine sops_pure (.free rfl rfl) rfl rfl (po_andc ha rfl rfl rfl) ?_ | refine sops_pure (.free rfl rfl) rfl rfl (po_move rfl rfl) ?_) <;> (first | refine sops_pure (.free rfl rfl) rfl rfl (po_andc ha rfl rfl rfl) ?_ | refine sops_pure (.free rfl rfl) rfl rfl (po_and rfl rfl rfl) ?_) <;> (first | refine sops_pure (.free rfl rfl) rfl rfl (po_andc ha rfl rfl rfl) ?_ | refine sops_pure (.free rfl rfl) rfl rfl (po_cmp rfl rfl rfl rfl) ?_) <;> (refine sops_nil ?_))
        | ((refine swp_region (id := 6) ?_) <;> (first | refine sops_pure (.free rfl rfl) rfl rfl (po_andc ha rfl rfl rfl) ?_ | refine sops_pure (.free rfl rfl) rfl rfl (po_move rfl rfl) ?_) <;> (first | refine sops_pure (.free rfl rfl) rfl rfl (po_andc ha rfl rfl rfl) ?_ | refine sops_pure (.free rfl rfl) rfl rfl (po_cat rfl rfl rfl (by omega)) ?_) <;> (first | refine sops_pure (.free rfl rfl) rfl rfl (po_andc ha rfl rfl rfl) ?_ | refine sops_pure (.free rfl rfl) rfl rfl (po_assign rfl rfl) ?_) <;> (refine sops_nil ?_))
        | ((refine swp_region (id := 4) ?_) <;> (first | refine sops_pure (.free rfl rfl) rfl rfl (po_andc ha rfl rfl rfl) ?_ | refine sops_pure (.free rfl rfl) rfl rfl (po_move rfl rfl) ?_) <;> (first | refine sops_pure (.free rfl rfl) rfl rfl (po_andc ha rfl rfl rfl) ?_ | refine sops_pure (.free rfl rfl) rfl rfl (po_inc rfl rfl rfl (by omega)) ?_ | refine sops_pure (.free rfl rfl) rfl rfl (po_arith rfl rfl rfl (ar_add (by first | rfl | (refine wrap_i64 ?_; omega)) rfl)) ?_) <;> (first | refine sops_pure (.free rfl rfl) rfl rfl (po_andc ha rfl rfl rfl) ?_ | refine sops_pure (.free rfl rfl) rfl rfl (po_assign rfl rfl) ?_) <;> (refine sops_nil ?_))
        | refine swp_ret ?_
        | refine swp_skip ?_
        | refine swp_block ?_
        | refine swp_exit ?_
        | refine block_go ?_
        | refine block_exit ?_
        | refine block_far rfl ?_
        | refine block_ret ?_
        | refine then_ret ?_
        | refine then_exit ?_
        | refine for_ret ?_
        | refine for_exit ?_
        | refine ct ?_
        | refine cf ?_
        | refine swp_cond rfl (fun hc => ?_) (fun hc => ?_)
        | refine retq (by first | exact .inr rfl | exact .inl rfl) rfl (.tmp rfl (by first | exact .t _ | exact .own rfl (by first | rfl | assumption | (simp; done) | (simp; omega)) | exact .nil _ | exact .emp _ | exact .fn _) .nil) ?_)
    · rw [if_neg h2] at hnx
      have hx : bs (blanksL k) ++ (⟨#[9]⟩ : ByteArray) = bs (blanksL (k + 1)) := by rw [bs_snoc, hnx]
      repeat' (first
        | refine then_go ?_
        | refine swp_seq ?_
        | refine for_next hlt (weak_sub (.cons rfl (by first | rfl | (exact congrArg (fun s => A.t (T.v (Value.string s))) hx)) rfl (.cons rfl (by first | rfl | (exact congrArg (fun s => A.t (T.v (Value.string s))) hx)) rfl (.cons rfl (by first | rfl | (exact congrArg (fun s => A.t (T.v (Value.string s))) hx)) rfl .nil))) .nil .nil) trivial
        | ((refine swp_region (id := 3) ?_) <;> (first | refine sops_pure (.free rfl rfl) rfl rfl (po_andc ha rfl rfl rfl) ?_ | refine sops_pure (.free rfl rfl) rfl rfl (po_move rfl rfl) ?_) <;> (first | refine sops_pure (.free rfl rfl) rfl rfl (po_andc ha rfl rfl rfl) ?_ | refine sops_pure (.free rfl rfl) rfl rfl (po_move rfl rfl) ?_) <;> (first | refine sops_pure (.free rfl rfl) rfl rfl (po_andc ha rfl rfl rfl) ?_ | refine sops_pure (.free rfl rfl) rfl rfl (po_cmp rfl rfl rfl rfl) ?_) <;> (refine sops_nil ?_))
        | ((refine swp_region (id := 5) ?_) <;> (first | refine sops_pure (.free rfl rfl) rfl rfl (po_andc ha rfl rfl rfl) ?_ | refine sops_pure (.free rfl rfl) rfl rfl (po_move rfl rfl) ?_) <;> (first | refine sops_pure (.free rfl rfl) rfl rfl (po_andc ha rfl rfl rfl) ?_ | refine sops_pure (.free rfl rfl) rfl rfl (po_and rfl rfl rfl) ?_) <;> (first | refine sops_pure (.free rfl rfl) rfl rfl (po_andc ha rfl rfl rfl) ?_ | refine sops_pure (.free rfl rfl) rfl rfl (po_cmp rfl rfl rfl rfl) ?_) <;> (refine sops_nil ?_))
        | ((refine swp_region (id := 7) ?_) <;> (first | refine sops_pure (.free rfl rfl) rfl rfl (po_andc ha rfl rfl rfl) ?_ | refine sops_pure (.free rfl rfl) rfl rfl (po_move rfl rfl) ?_) <;> (first | refine sops_pure (.free rfl rfl) rfl rfl (po_andc ha rfl rfl rfl) ?_ | refine sops_pure (.free rfl rfl) rfl rfl (po_cat rfl rfl rfl (by omega)) ?_) <;> (first | refine sops_pure (.free rfl rfl) rfl rfl (po_andc ha rfl rfl rfl) ?_ | refine sops_pure (.free rfl rfl) rfl rfl (po_assign rfl rfl) ?_) <;> (refine sops_nil ?_))
        | ((refine swp_region (id := 4) ?_) <;> (first | refine sops_pure (.free rfl rfl) rfl rfl (po_andc ha rfl rfl rfl) ?_ | refine sops_pure (.free rfl rfl) rfl rfl (po_move rfl rfl) ?_) <;> (first | refine sops_pure (.free rfl rfl) rfl rfl (po_andc ha rfl rfl rfl) ?_ | refine sops_pure (.free rfl rfl) rfl rfl (po_inc rfl rfl rfl (by omega)) ?_ | refine sops_pure (.free rfl rfl) rfl rfl (po_arith rfl rfl rfl (ar_add (by first | rfl | (refine wrap_i64 ?_; omega)) rfl)) ?_) <;> (first | refine sops_pure (.free rfl rfl) rfl rfl (po_andc ha rfl rfl rfl) ?_ | refine sops_pure (.free rfl rfl) rfl rfl (po_assign rfl rfl) ?_) <;> (refine sops_nil ?_))
        | refine swp_ret ?_
        | refine swp_skip ?_
        | refine swp_block ?_
        | refine swp_exit ?_
        | refine block_go ?_
        | refine block_exit ?_
        | refine block_far rfl ?_
        | refine block_ret ?_
        | refine then_ret ?_
        | refine then_exit ?_
        | refine for_ret ?_
        | refine for_exit ?_
        | refine ct ?_
        | refine cf ?_
        | refine swp_cond rfl (fun hc => ?_) (fun hc => ?_)
        | refine retq (by first | exact .inr rfl | exact .inl rfl) rfl (.tmp rfl (by first | exact .t _ | exact .own rfl (by first | rfl | assumption | (simp; done) | (simp; omega)) | exact .nil _ | exact .emp _ | exact .fn _) .nil) ?_)
  · obtain rfl : k = n := by omega
    repeat' (first
      | refine then_go ?_
      | refine swp_seq ?_
      | ((refine swp_region (id := 3) ?_) <;> (refine sops_pure (.free rfl rfl) rfl rfl (po_move rfl rfl) ?_) <;> (refine sops_pure (.free rfl rfl) rfl rfl (po_move rfl rfl) ?_) <;> (refine sops_pure (.free rfl rfl) rfl rfl (po_cmp rfl rfl rfl rfl) ?_) <;> (refine sops_nil ?_))
      | ((refine swp_region (id := 8) ?_) <;> (refine sops_pure (.free rfl rfl) rfl rfl (po_move rfl rfl) ?_) <;> (refine sops_pure (.free rfl rfl) rfl rfl (po_assign rfl rfl) ?_) <;> (refine sops_nil ?_))
      | refine swp_ret ?_
      | refine swp_skip ?_
      | refine swp_block ?_
      | refine swp_exit ?_
      | refine block_go ?_
      | refine block_exit ?_
      | refine block_far rfl ?_
      | refine block_ret ?_
      | refine then_ret ?_
      | refine then_exit ?_
      | refine for_ret ?_
      | refine for_exit ?_
      | refine ct ?_
      | refine cf ?_
      | refine swp_cond rfl (fun hc => ?_) (fun hc => ?_)
      | refine retq (by first | exact .inr rfl | exact .inl rfl) rfl (.tmp rfl (by first | exact .t _ | exact .own rfl (by first | rfl | assumption | (simp; done) | (simp; omega)) | exact .nil _ | exact .emp _ | exact .fn _) .nil) ?_)
    rfl
/-- the first k letters turned -/
def mixG (f : UInt8 → UInt8) (l : List UInt8) (k : Nat) : List UInt8 := (l.take k).map f ++ l.drop k
def mixGR (f : UInt8 → UInt8) (l : List UInt8) (k : Nat) : List (List T) := (mixG f l k).map byteT
theorem mixG_len (f : UInt8 → UInt8) (l : List UInt8) (k : Nat) : (mixG f l k).length = l.length := by simp [mixG]; omega
theorem mixGR_len (f : UInt8 → UInt8) (l : List UInt8) (k : Nat) : (mixGR f l k).length = l.length := by unfold mixGR; rw [List.length_map, mixG_len]
theorem mixG_at (f : UInt8 → UInt8) (l : List UInt8) {k : Nat} (h : k < l.length) : (mixG f l k)[k]? = some l[k] := by
  unfold mixG
  rw [List.getElem?_append_right (by simp; omega)]
  simp [Nat.min_eq_left (Nat.le_of_lt h), h]
theorem mixGR_at (f : UInt8 → UInt8) (l : List UInt8) {k : Nat} (h : k < l.length) : (mixGR f l k)[k]? = some (byteT l[k]) := by
  unfold mixGR; rw [List.getElem?_map, mixG_at f l h]; rfl
theorem mixG_next (f : UInt8 → UInt8) (l : List UInt8) {k : Nat} (h : k < l.length) : mixG f l (k + 1) = (mixG f l k).set k (f l[k]) := by
  unfold mixG
  rw [List.set_append_right _ _ (by simp; omega)]
  simp only [List.length_map, List.length_take, Nat.min_eq_left (Nat.le_of_lt h), Nat.sub_self]
  rw [List.drop_eq_getElem_cons h, List.set_cons_zero, List.take_succ_eq_append_getElem h, List.map_append, List.append_assoc]; rfl
theorem mixG0 (f : UInt8 → UInt8) (l : List UInt8) : mixG f l 0 = l := by simp [mixG]
theorem mixG_all (f : UInt8 → UInt8) (l : List UInt8) : mixG f l l.length = l.map f := by unfold mixG; simp
theorem up_dn {b : UInt8} (h : 97 ≤ b.toNat ∧ b.toNat ≤ 122) : ((upU b).toNat : Int) = (b.toNat : Int) - 32 := by
  unfold upU; rw [if_pos h, UInt8.toNat_sub]
  have : (32 : UInt8).toNat = 32 := rfl
  omega
theorem up_no {b : UInt8} (h : ¬ (97 ≤ b.toNat ∧ b.toNat ≤ 122)) : upU b = b := by unfold upU; rw [if_neg h]
theorem mixGR_up (l : List UInt8) {k : Nat} (h : k < l.length) (hb : 97 ≤ l[k].toNat ∧ l[k].toNat ≤ 122) : (mixGR upU l k).set k [T.v (.int .u8 ((l[k].toNat : Int) - 32))] = mixGR upU l (k + 1) := by
  unfold mixGR; rw [mixG_next upU l h, List.map_set]; unfold byteT; rw [up_dn hb]
theorem mixGR_no (l : List UInt8) {k : Nat} (h : k < l.length) (hb : ¬ (97 ≤ l[k].toNat ∧ l[k].toNat ≤ 122)) : mixGR upU l k = mixGR upU l (k + 1) := by
  unfold mixGR; rw [mixG_next upU l h, up_no hb]
  congr 1
  exact (set_self (mixG_at upU l h)).symm
theorem dn3 (n : Nat) : (97 ≤ n ∧ n ≤ 122) ∨ n < 97 ∨ 122 < n := by omega
theorem good_ok {h : Pl.Head} (hg : good h = true) : okHead h := by
  have := good_size hg
  unfold okHead maxLen; omega
theorem cellsS (s : ByteArray) : (⟨5, 1, s.toList.map byteT⟩ : Own) = ⟨5, 1, mixGR upU s.toList 0⟩ := by unfold mixGR; rw [mixG0]
theorem back_text (h : Pl.Head) (M : List UInt8) (a b : Nat) : bs M ++ (⟨#[58]⟩ : ByteArray) ++ bs (blanksL a) ++ h.value ++ bs (blanksL b) = bs (M ++ 58 :: (blanksL a ++ h.value.toList ++ blanksL b)) := by
  refine bs_inj ?_
  rw [toList_append, toList_append, toList_append, bs_snoc, bs_toList, bs_toList, bs_toList, bs_toList]; simp
set_option maxRecDepth 100000 in
set_option maxHeartbeats 8000000 in
theorem law_ (h : Pl.Head) (hh : okHead h) (s : ByteArray) (hs : s.size ≤ maxLen) (a b : Int) (large : Bool) : PCalls Tryd.prog 9 [.agg (headT h), .v (.string s), .v (.int .i64 a), .v (.int .i64 b), .v (.bool large)] (.v (.bool true)) := by
  have c1 := long_ [h]
  have ca := awake_
  refine pcalls_of Tryd.func9 rfl rfl Tryd.ntmps9 rfl ?_
  cases h1 : longH [h] with
  | true =>
    rw [h1] at c1
    repeat' (first
      | refine then_go ?_
      | refine swp_seq ?_
      | ((refine swp_region (id := 0) ?_) <;> (refine sops_box (.free rfl rfl) rfl rfl rfl rfl rfl rfl ?_) <;> (refine sops_pure (.free rfl rfl) rfl rfl (po_assign rfl rfl) ?_) <;> (refine sops_nil ?_))
      | ((refine swp_region (id := 1) ?_) <;> (first | refine sops_pure (.free rfl rfl) rfl rfl (po_load_bx_agg rfl rfl (tyT rfl) rfl (vc (vc .nil)) rfl) ?_ | refine sops_pure (.free rfl rfl) rfl rfl (po_load_agg rfl rfl (tyT rfl) rfl rfl) ?_) <;> (refine sops_pure (.free rfl rfl) rfl rfl (po_buildSlice rfl (tyE rfl) (dc (.nil _)) rfl rfl rfl) ?_) <;> (first | refine sops_pure (.free rfl rfl) rfl rfl (po_call (c1) rfl (ac .nil)) ?_ | refine sops_pure (.free rfl rfl) rfl rfl (po_call (ca) rfl (ac .nil)) ?_) <;> (refine sops_pure (.free rfl rfl) rfl rfl (po_move rfl rfl) ?_) <;> (first | refine sops_pure gy rfl rfl (po_move rfl rfl) ?_ | refine sops_skip gn0 rfl rfl ?_ | ((refine sops_split rfl rfl rfl (fun hc => ?_) (fun hc => ?_)) <;> (first | refine sops_pure gy rfl rfl (po_move rfl rfl) ?_ | refine sops_skip gn0 rfl rfl ?_))) <;> (first | refine sops_pure gy rfl rfl (po_len_str rfl rfl (tyR rfl)) ?_ | refine sops_skip gn0 rfl rfl ?_) <;> (first | refine sops_pure gy rfl rfl (po_cmp rfl rfl rfl rfl) ?_ | refine sops_skip gn0 rfl rfl ?_) <;> (first | refine sops_pure (.free rfl rfl) rfl rfl (pkt rfl) ?_ | refine sops_pure (.free rfl rfl) rfl rfl (pkf rfl) ?_) <;> (refine sops_pure (.free rfl rfl) rfl rfl (po_move rfl rfl) ?_) <;> (first | refine sops_pure gy rfl rfl (po_move rfl rfl) ?_ | refine sops_skip gn0 rfl rfl ?_ | ((refine sops_split rfl rfl rfl (fun hc => ?_) (fun hc => ?_)) <;> (first | refine sops_pure gy rfl rfl (po_move rfl rfl) ?_ | refine sops_skip gn0 rfl rfl ?_))) <;> (first | refine sops_pure gy rfl rfl (po_cmp rfl rfl rfl rfl) ?_ | refine sops_skip gn0 rfl rfl ?_) <;> (first | refine sops_pure (.free rfl rfl) rfl rfl (pkt rfl) ?_ | refine sops_pure (.free rfl rfl) rfl rfl (pkf rfl) ?_) <;> (refine sops_pure (.free rfl rfl) rfl rfl (po_move rfl rfl) ?_) <;> (first | refine sops_pure gy rfl rfl (po_move rfl rfl) ?_ | refine sops_skip gn0 rfl rfl ?_ | ((refine sops_split rfl rfl rfl (fun hc => ?_) (fun hc => ?_)) <;> (first | refine sops_pure gy rfl rfl (po_move rfl rfl) ?_ | refine sops_skip gn0 rfl rfl ?_))) <;> (first | refine sops_pure gy rfl rfl (po_cmp rfl rfl rfl rfl) ?_ | refine sops_skip gn0 rfl rfl ?_) <;> (first | refine sops_pure (.free rfl rfl) rfl rfl (pkt rfl) ?_ | refine sops_pure (.free rfl rfl) rfl rfl (pkf rfl) ?_) <;> (refine sops_pure (.free rfl rfl) rfl rfl (po_move rfl rfl) ?_) <;> (first | refine sops_pure gy rfl rfl (po_move rfl rfl) ?_ | refine sops_skip gn0 rfl rfl ?_ | ((refine sops_split rfl rfl rfl (fun hc => ?_) (fun hc => ?_)) <;> (first | refine sops_pure gy rfl rfl (po_move rfl rfl) ?_ | refine sops_skip gn0 rfl rfl ?_))) <;> (first | refine sops_pure gy rfl rfl (po_cmp rfl rfl rfl rfl) ?_ | refine sops_skip gn0 rfl rfl ?_) <;> (first | refine sops_pure (.free rfl rfl) rfl rfl (pkt rfl) ?_ | refine sops_pure (.free rfl rfl) rfl rfl (pkf rfl) ?_) <;> (refine sops_pure (.free rfl rfl) rfl rfl (po_move rfl rfl) ?_) <;> (first | refine sops_pure gy rfl rfl (po_move rfl rfl) ?_ | refine sops_skip gn0 rfl rfl ?_ | ((refine sops_split rfl rfl rfl (fun hc => ?_) (fun hc => ?_)) <;> (first | refine sops_pure gy rfl rfl (po_move rfl rfl) ?_ | refine sops_skip gn0 rfl rfl ?_))) <;> (first | refine sops_pure gy rfl rfl (po_cmp rfl rfl rfl rfl) ?_ | refine sops_skip gn0 rfl rfl ?_) <;> (first | refine sops_pure (.free rfl rfl) rfl rfl (pkt rfl) ?_ | refine sops_pure (.free rfl rfl) rfl rfl (pkf rfl) ?_) <;> (refine sops_nil ?_))
      | ((refine swp_region (id := 2) ?_) <;> (first | refine sops_pure (.free rfl rfl) rfl rfl (po_call (c1) rfl .nil) ?_ | refine sops_pure (.free rfl rfl) rfl rfl (po_call (ca) rfl .nil) ?_) <;> (refine sops_pure (.free rfl rfl) rfl rfl (po_assign rfl rfl) ?_) <;> (refine sops_nil ?_))
      | refine swp_ret ?_
      | refine swp_skip ?_
      | refine swp_block ?_
      | refine swp_exit ?_
      | refine block_go ?_
      | refine block_exit ?_
      | refine block_far rfl ?_
      | refine block_ret ?_
      | refine then_ret ?_
      | refine then_exit ?_
      | refine for_ret ?_
      | refine for_exit ?_
      | refine ct ?_
      | refine cf ?_
      | refine swp_cond rfl (fun hc => ?_) (fun hc => ?_)
      | refine retq (by first | exact .inr rfl | exact .inl rfl) rfl (.tmp rfl (by first | exact .t _ | exact .own rfl (by first | rfl | assumption | (simp; done) | (simp; omega)) | exact .nil _ | exact .emp _ | exact .fn _) .nil) ?_)
    rfl
  | false =>
  rw [h1] at c1
  by_cases hbad : s.size ≤ 2000 ∧ 0 ≤ a ∧ a ≤ 20 ∧ 0 ≤ b ∧ b ≤ 20
  · obtain ⟨h2, ha0, ha1, hb0, hb1⟩ := hbad
    obtain ⟨an, rfl⟩ : ∃ n : Nat, a = (n : Int) := ⟨a.toNat, by omega⟩
    obtain ⟨bn, rfl⟩ : ∃ n : Nat, b = (n : Int) := ⟨b.toNat, by omega⟩
    obtain ⟨ln, e, li, hcase⟩ : ∃ (ln : ByteArray) (e : Int), PCalls Tryd.prog 30 [.agg (headT h)] (.tup [.v (.string ln), .v (.int .i64 e)]) ∧ ((e = 0 ∧ good h = true ∧ ln = lineS h) ∨ e = 1) := by
      have li := line_ h hh
      cases hg : good h with
      | true => rw [hg, if_pos rfl] at li; exact ⟨_, _, li, .inl ⟨rfl, rfl, rfl⟩⟩
      | false => rw [hg, if_neg (by simp)] at li; exact ⟨_, _, li, .inr rfl⟩
    repeat' (first
      | refine then_go ?_
      | refine swp_seq ?_
      | refine swp_join_if (s := 57) ⟨[(1, .t (.v (.string s)))], [], []⟩ ?_ ?_
      | ((refine swp_region (id := 0) ?_) <;> (refine sops_box (.free rfl rfl) rfl rfl rfl rfl rfl rfl ?_) <;> (refine sops_pure (.free rfl rfl) rfl rfl (po_assign rfl rfl) ?_) <;> (refine sops_nil ?_))
      | ((refine swp_region (id := 1) ?_) <;> (first | refine sops_pure (.free rfl rfl) rfl rfl (po_load_bx_agg rfl rfl (tyT rfl) rfl (vc (vc .nil)) rfl) ?_ | refine sops_pure (.free rfl rfl) rfl rfl (po_load_agg rfl rfl (tyT rfl) rfl rfl) ?_) <;> (refine sops_pure (.free rfl rfl) rfl rfl (po_buildSlice rfl (tyE rfl) (dc (.nil _)) rfl rfl rfl) ?_) <;> (first | refine sops_pure (.free rfl rfl) rfl rfl (po_call (c1) rfl (ac .nil)) ?_ | refine sops_pure (.free rfl rfl) rfl rfl (po_call (li) rfl (ac .nil)) ?_) <;> (refine sops_pure (.free rfl rfl) rfl rfl (po_move rfl rfl) ?_) <;> (first | refine sops_pure gy rfl rfl (po_move rfl rfl) ?_ | refine sops_skip gn0 rfl rfl ?_ | ((refine sops_split rfl rfl rfl (fun hc => ?_) (fun hc => ?_)) <;> (first | refine sops_pure gy rfl rfl (po_move rfl rfl) ?_ | refine sops_skip gn0 rfl rfl ?_))) <;> (first | refine sops_pure gy rfl rfl (po_len_str rfl rfl (tyR rfl)) ?_ | refine sops_skip gn0 rfl rfl ?_) <;> (first | refine sops_pure gy rfl rfl (po_cmp rfl rfl rfl rfl) ?_ | refine sops_skip gn0 rfl rfl ?_) <;> (first | refine sops_pure (.free rfl rfl) rfl rfl (pkt rfl) ?_ | refine sops_pure (.free rfl rfl) rfl rfl (pkf rfl) ?_) <;> (refine sops_pure (.free rfl rfl) rfl rfl (po_move rfl rfl) ?_) <;> (first | refine sops_pure gy rfl rfl (po_move rfl rfl) ?_ | refine sops_skip gn0 rfl rfl ?_ | ((refine sops_split rfl rfl rfl (fun hc => ?_) (fun hc => ?_)) <;> (first | refine sops_pure gy rfl rfl (po_move rfl rfl) ?_ | refine sops_skip gn0 rfl rfl ?_))) <;> (first | refine sops_pure gy rfl rfl (po_cmp rfl rfl rfl rfl) ?_ | refine sops_skip gn0 rfl rfl ?_) <;> (first | refine sops_pure (.free rfl rfl) rfl rfl (pkt rfl) ?_ | refine sops_pure (.free rfl rfl) rfl rfl (pkf rfl) ?_) <;> (refine sops_pure (.free rfl rfl) rfl rfl (po_move rfl rfl) ?_) <;> (first | refine sops_pure gy rfl rfl (po_move rfl rfl) ?_ | refine sops_skip gn0 rfl rfl ?_ | ((refine sops_split rfl rfl rfl (fun hc => ?_) (fun hc => ?_)) <;> (first | refine sops_pure gy rfl rfl (po_move rfl rfl) ?_ | refine sops_skip gn0 rfl rfl ?_))) <;> (first | refine sops_pure gy rfl rfl (po_cmp rfl rfl rfl rfl) ?_ | refine sops_skip gn0 rfl rfl ?_) <;> (first | refine sops_pure (.free rfl rfl) rfl rfl (pkt rfl) ?_ | refine sops_pure (.free rfl rfl) rfl rfl (pkf rfl) ?_) <;> (refine sops_pure (.free rfl rfl) rfl rfl (po_move rfl rfl) ?_) <;> (first | refine sops_pure gy rfl rfl (po_move rfl rfl) ?_ | refine sops_skip gn0 rfl rfl ?_ | ((refine sops_split rfl rfl rfl (fun hc => ?_) (fun hc => ?_)) <;> (first | refine sops_pure gy rfl rfl (po_move rfl rfl) ?_ | refine sops_skip gn0 rfl rfl ?_))) <;> (first | refine sops_pure gy rfl rfl (po_cmp rfl rfl rfl rfl) ?_ | refine sops_skip gn0 rfl rfl ?_) <;> (first | refine sops_pure (.free rfl rfl) rfl rfl (pkt rfl) ?_ | refine sops_pure (.free rfl rfl) rfl rfl (pkf rfl) ?_) <;> (refine sops_pure (.free rfl rfl) rfl rfl (po_move rfl rfl) ?_) <;> (first | refine sops_pure gy rfl rfl (po_move rfl rfl) ?_ | refine sops_skip gn0 rfl rfl ?_ | ((refine sops_split rfl rfl rfl (fun hc => ?_) (fun hc => ?_)) <;> (first | refine sops_pure gy rfl rfl (po_move rfl rfl) ?_ | refine sops_skip gn0 rfl rfl ?_))) <;> (first | refine sops_pure gy rfl rfl (po_cmp rfl rfl rfl rfl) ?_ | refine sops_skip gn0 rfl rfl ?_) <;> (first | refine sops_pure (.free rfl rfl) rfl rfl (pkt rfl) ?_ | refine sops_pure (.free rfl rfl) rfl rfl (pkf rfl) ?_) <;> (refine sops_nil ?_))
      | ((refine swp_region (id := 3) ?_) <;> (first | refine sops_pure (.free rfl rfl) rfl rfl (po_load_bx_agg rfl rfl (tyT rfl) rfl (vc (vc .nil)) rfl) ?_ | refine sops_pure (.free rfl rfl) rfl rfl (po_load_agg rfl rfl (tyT rfl) rfl rfl) ?_) <;> (first | refine sops_pure (.free rfl rfl) rfl rfl (po_call (c1) rfl (ac .nil)) ?_ | refine sops_pure (.free rfl rfl) rfl rfl (po_call (li) rfl (ac .nil)) ?_) <;> (refine sops_pure (.free rfl rfl) rfl rfl (po_move rfl rfl) ?_) <;> (refine sops_pure (.free rfl rfl) rfl rfl (po_extract rfl rfl rfl) ?_) <;> (refine sops_pure (.free rfl rfl) rfl rfl (po_extract rfl rfl rfl) ?_) <;> (refine sops_pure (.free rfl rfl) rfl rfl (po_assign rfl rfl) ?_) <;> (refine sops_pure (.free rfl rfl) rfl rfl (po_assign rfl rfl) ?_) <;> (refine sops_nil ?_))
      | ((refine swp_region (id := 4) ?_) <;> (refine sops_pure (.free rfl rfl) rfl rfl (po_move rfl rfl) ?_) <;> (refine sops_pure (.free rfl rfl) rfl rfl (po_cmp rfl rfl rfl rfl) ?_) <;> (refine sops_nil ?_))
      | refine swp_ret ?_
      | refine swp_skip ?_
      | refine swp_block ?_
      | refine swp_exit ?_
      | refine block_go ?_
      | refine block_exit ?_
      | refine block_far rfl ?_
      | refine block_ret ?_
      | refine then_ret ?_
      | refine then_exit ?_
      | refine for_ret ?_
      | refine for_exit ?_
      | refine ct ?_
      | refine cf ?_
      | refine swp_cond rfl (fun hc => ?_) (fun hc => ?_)
      | refine retq (by first | exact .inr rfl | exact .inl rfl) rfl (.tmp rfl (by first | exact .t _ | exact .own rfl (by first | rfl | assumption | (simp; done) | (simp; omega)) | exact .nil _ | exact .emp _ | exact .fn _) .nil) ?_)
    · refine Hold.mk ?_
      rcases hcase with ⟨rfl, hg, rfl⟩ | rfl
      · have rb := read_back hg
        have hz := good_size hg
        have hls : (lineS h).size ≤ maxLen := by
          unfold lineS maxLen; rw [ByteArray.size_append, ByteArray.size_append]; have := sz2; omega
        have c3 := read_ (lineS h) hls
        rw [rb] at c3
        replace c3 : PCalls Tryd.prog 31 _ (.tup [.agg (headT h), .v (.int .i64 0)]) := c3
        have q0 : (!heqB h h) = false := by rw [(heqB_iff _ _).2 rfl]; rfl
        have hname := hh.1
        have hl := toList_len h.name
        have hbl : (h.name.toList.map byteT).length = h.name.toList.length := List.length_map _
        obtain ⟨hnL, hvL⟩ := good_lists hg
        obtain ⟨l1, l2, l3, l4⟩ := low_names hnL
        have ba := blanks_ an (by omega)
        have bb := blanks_ bn (by omega)
        have s58 : (⟨#[58]⟩ : ByteArray).size = 1 := rfl
        have lx : ∀ n, (bs (blanksL n)).size = n := fun n => by rw [bs_size, blanksL_len]
        have lx1 := lx an
        have lx2 := lx bn
        have fin : ∀ M : List UInt8, M.length = h.name.toList.length → M.map lowU = h.name.toList → (∀ x ∈ M, x ≠ 58) → (bs M ++ (⟨#[58]⟩ : ByteArray) ++ bs (blanksL an) ++ h.value ++ bs (blanksL bn)).size ≤ 1000 ∧ ((bs M ++ (⟨#[58]⟩ : ByteArray) ++ bs (blanksL an) ++ h.value ++ bs (blanksL bn)).size ≤ 578 → readH (bs M ++ (⟨#[58]⟩ : ByteArray) ++ bs (blanksL an) ++ h.value ++ bs (blanksL bn)) = (h, 0)) := fun M hM h1 h2 => by
          refine ⟨by simp only [ByteArray.size_append, bs_size, blanksL_len, s58]; omega, fun hsz => ?_⟩
          rw [back_text, bs_size] at hsz
          rw [back_text, readH_bs, read_line h1 h2 hnL hvL (blanks_ws an) (blanks_ws bn) hsz, toList_bs, toList_bs]
        repeat' (first
          | refine then_go ?_
          | refine swp_seq ?_
          | ((refine swp_region (id := 5) ?_) <;> (refine sops_pure (.free rfl rfl) rfl rfl (po_move rfl rfl) ?_) <;> (refine sops_pure (.free rfl rfl) rfl rfl (po_call (c3) rfl (ac .nil)) ?_) <;> (refine sops_pure (.free rfl rfl) rfl rfl (po_move rfl rfl) ?_) <;> (refine sops_pure (.free rfl rfl) rfl rfl (po_extract rfl rfl rfl) ?_) <;> (refine sops_pure (.free rfl rfl) rfl rfl (po_extract rfl rfl rfl) ?_) <;> (refine sops_allocS str53 (.free rfl rfl) rfl rfl rfl rfl ?_) <;> (refine sops_store (.free rfl rfl) rfl rfl rfl rfl rfl rfl (tyT rfl) rfl rfl ?_) <;> (refine sops_pure (.free rfl rfl) rfl rfl (po_assign rfl rfl) ?_) <;> (refine sops_nil ?_))
          | ((refine swp_region (id := 6) ?_) <;> (refine sops_pure (.free rfl rfl) rfl rfl (po_move rfl rfl) ?_) <;> (first | refine sops_pure (.free rfl rfl) rfl rfl (po_ex2 rfl rfl rfl (head_Ex h) (head_Ex h) (hne_run false _ _ q0)) ?_ | refine sops_pure (.free rfl rfl) rfl rfl (po_cmp rfl rfl rfl rfl) ?_) <;> (refine sops_pure (.free rfl rfl) rfl rfl (po_move rfl rfl) ?_) <;> (first | refine sops_pure gy rfl rfl (po_load_bx_agg rfl rfl (tyT rfl) rfl (vc (vc .nil)) rfl) ?_ | refine sops_pure gy rfl rfl (po_load_agg rfl rfl (tyT rfl) rfl rfl) ?_ | refine sops_skip gn0 rfl rfl ?_ | ((refine sops_split rfl rfl rfl (fun hc => ?_) (fun hc => ?_)) <;> (first | refine sops_pure gy rfl rfl (po_load_bx_agg rfl rfl (tyT rfl) rfl (vc (vc .nil)) rfl) ?_ | refine sops_pure gy rfl rfl (po_load_agg rfl rfl (tyT rfl) rfl rfl) ?_ | refine sops_skip gn0 rfl rfl ?_))) <;> (first | refine sops_pure gy rfl rfl (po_load_bx_agg rfl rfl (tyT rfl) rfl (vc (vc .nil)) rfl) ?_ | refine sops_pure gy rfl rfl (po_load_agg rfl rfl (tyT rfl) rfl rfl) ?_ | refine sops_skip gn0 rfl rfl ?_) <;> (first | refine sops_pure gy rfl rfl (po_ex2 rfl rfl rfl (head_Ex h) (head_Ex h) (hne_run false _ _ q0)) ?_ | refine sops_pure gy rfl rfl (po_boolq rfl rfl rfl (by kernel_rfl) (by first | exact .inl rfl | exact .inr rfl)) ?_ | refine sops_skip gn0 rfl rfl ?_) <;> (first | refine sops_pure (.free rfl rfl) rfl rfl (pkt rfl) ?_ | refine sops_pure (.free rfl rfl) rfl rfl (pkf rfl) ?_) <;> (refine sops_nil ?_))
          | ((refine swp_region (id := 8) ?_) <;> (first | refine sops_pure (.free rfl rfl) rfl rfl (po_field_bx rfl rfl (tyF rfl)) ?_ | refine sops_pure (.free rfl rfl) rfl rfl (po_field rfl rfl (tyF rfl)) ?_) <;> (first | refine sops_pure (.free rfl rfl) rfl rfl (po_load_bx rfl rfl (tyT rfl) rfl rfl) ?_ | refine sops_pure (.free rfl rfl) rfl rfl (po_load rfl rfl (tyT rfl) rfl) ?_) <;> (refine sops_str_bytes 1000 (.free rfl rfl) rfl rfl rfl rfl (tyR rfl) byt59 (by first | assumption | (simp [maxLen] at *; omega)) rfl ?_) <;> (refine sops_pure (.free rfl rfl) rfl rfl (po_assign rfl rfl) ?_) <;> (refine sops_nil ?_))
          | ((refine swp_region (id := 9) ?_) <;> (refine sops_pure (.free rfl rfl) rfl rfl (po_assign rfl rfl) ?_) <;> (refine sops_nil ?_))
          | refine swp_ret ?_
          | refine swp_skip ?_
          | refine swp_block ?_
          | refine swp_exit ?_
          | refine block_go ?_
          | refine block_exit ?_
          | refine block_far rfl ?_
          | refine block_ret ?_
          | refine then_ret ?_
          | refine then_exit ?_
          | refine for_ret ?_
          | refine for_exit ?_
          | refine ct ?_
          | refine cf ?_
          | refine swp_cond rfl (fun hc => ?_) (fun hc => ?_)
          | refine retq (by first | exact .inr rfl | exact .inl rfl) rfl (.tmp rfl (by first | exact .t _ | exact .own rfl (by first | rfl | assumption | (simp; done) | (simp; omega)) | exact .nil _ | exact .emp _ | exact .fn _) .nil) ?_)
        cases large with
        | false =>
          refine swp_for (fun k => ⟨[(1, .t (.v (.string s))), (2, .t (.v (.int .i64 (an : Int)))), (3, .t (.v (.int .i64 (bn : Int)))), (4, .t (.v (.bool false))), (5, .bp 5 0), (15, .own 1000 (h.name.toList.map byteT).length), (16, .t (.v (.int .i64 (k : Int))))], [(5, (headT h).map A.t)], [(1000, ⟨5, 1, h.name.toList.map byteT⟩)]⟩) (fun _ => True) 0 (weak_sub (.cons rfl rfl rfl (.cons rfl rfl rfl (.cons rfl rfl rfl (.cons rfl rfl rfl (.cons rfl rfl rfl (.cons rfl rfl rfl (.cons rfl rfl rfl .nil))))))) (.cons rfl rfl rfl .nil) (.cons rfl rfl .nil)) trivial ?_
          intro k hk _
          obtain rfl : k = 0 := by omega
          obtain ⟨f1, f2⟩ := fin h.name.toList rfl l1 l3
          have hsM : (bs h.name.toList).size = h.name.size := by rw [bs_size, hl]
          have hs1 : (bs h.name.toList ++ (⟨#[58]⟩ : ByteArray)).size = h.name.size + 1 := by rw [ByteArray.size_append, hsM]; rfl
          have hs2 : (bs h.name.toList ++ (⟨#[58]⟩ : ByteArray) ++ bs (blanksL an)).size = h.name.size + 1 + an := by rw [ByteArray.size_append, hs1, lx1]
          have hs3 : (bs h.name.toList ++ (⟨#[58]⟩ : ByteArray) ++ bs (blanksL an) ++ h.value).size = h.name.size + 1 + an + h.value.size := by rw [ByteArray.size_append, hs2]
          have c5 := read_ (bs h.name.toList ++ (⟨#[58]⟩ : ByteArray) ++ bs (blanksL an) ++ h.value ++ bs (blanksL bn)) (by unfold maxLen; omega)
          by_cases hp : h.name.toList.length = 0
          · exfalso; omega
          by_cases hsz : (bs h.name.toList ++ (⟨#[58]⟩ : ByteArray) ++ bs (blanksL an) ++ h.value ++ bs (blanksL bn)).size ≤ 578
          · rw [f2 hsz] at c5
            replace c5 : PCalls Tryd.prog 31 _ (.tup [.agg (headT h), .v (.int .i64 0)]) := c5
            repeat' (first
              | refine then_go ?_
              | refine swp_seq ?_
              | refine join_go (weak_sub (.cons rfl rfl rfl .nil) .nil .nil)
              | ((refine swp_region (id := 10) ?_) <;> (refine sops_pure (.free rfl rfl) rfl rfl (po_move rfl rfl) ?_) <;> (refine sops_pure (.free rfl rfl) rfl rfl (po_move rfl rfl) ?_) <;> (first | refine sops_pure (.free rfl rfl) rfl rfl (po_len_own rfl rfl (tyS rfl)) ?_ | refine sops_pure (.free rfl rfl) rfl rfl (pln rfl (tyS rfl)) ?_) <;> (first | refine sops_pure (.free rfl rfl) rfl rfl (po_ex2 rfl rfl rfl (head_Ex h) (head_Ex h) (hne_run false _ _ q0)) ?_ | refine sops_pure (.free rfl rfl) rfl rfl (po_cmp rfl rfl rfl rfl) ?_) <;> (refine sops_pure (.free rfl rfl) rfl rfl (po_move rfl rfl) ?_) <;> (first | refine sops_pure gy rfl rfl (po_move rfl rfl) ?_ | refine sops_skip gn1 rfl rfl ?_ | ((refine sops_split rfl rfl rfl (fun hc => ?_) (fun hc => ?_)) <;> (first | refine sops_pure gy rfl rfl (po_move rfl rfl) ?_ | refine sops_skip gn1 rfl rfl ?_))) <;> (first | refine sops_pure (.free rfl rfl) rfl rfl (pkt rfl) ?_ | refine sops_pure (.free rfl rfl) rfl rfl (pkf rfl) ?_) <;> (refine sops_nil ?_))
              | ((refine swp_draw_all (id := 14) mixed (by kernel_rfl) (by kernel_rfl) ?_) <;> (refine sdraw_pure (.free rfl rfl) rfl (po_move rfl rfl) ?_) <;> (refine sdraw_pure (.free rfl rfl) rfl (po_bytes_str rfl rfl (by first | exact .t _ | exact .own rfl (by first | rfl | assumption | omega | (simp; done) | (simp; omega) | (simp at *; omega)) | exact .nil _ | exact .emp _) byt59 (tyR rfl)) ?_) <;> (refine sdraw_pure (.free rfl rfl) rfl (po_cat rfl rfl rfl (by omega)) ?_) <;> (refine sdraw_pure (.free rfl rfl) rfl (po_move rfl rfl) ?_) <;> (first | refine sdraw_pure (.free rfl rfl) rfl (po_call (ba) rfl (ac .nil)) ?_ | refine sdraw_pure (.free rfl rfl) rfl (po_call (bb) rfl (ac .nil)) ?_ | refine sdraw_pure (.free rfl rfl) rfl (po_call (c5) rfl (ac .nil)) ?_) <;> (refine sdraw_pure (.free rfl rfl) rfl (po_cat rfl rfl rfl (by omega)) ?_) <;> (first | refine sdraw_pure (.free rfl rfl) rfl (po_field_bx rfl rfl (tyF rfl)) ?_ | refine sdraw_pure (.free rfl rfl) rfl (po_field rfl rfl (tyF rfl)) ?_ | refine sdraw_pure (.free rfl rfl) rfl (po_field_own rfl rfl rfl (by first | rfl | assumption | omega | (simp; done) | (simp; omega) | (simp at *; omega)) (tyF rfl)) ?_) <;> (first | refine sdraw_pure (.free rfl rfl) rfl (po_load_bx rfl rfl (tyT rfl) rfl rfl) ?_ | refine sdraw_pure (.free rfl rfl) rfl (po_load rfl rfl (tyT rfl) rfl) ?_ | refine sdraw_pure (.free rfl rfl) rfl (po_load_own rfl rfl rfl (by first | rfl | assumption | omega | (simp; done) | (simp; omega) | (simp at *; omega)) (tyT rfl) (by first | rfl | assumption | exact map_at (by first | assumption | omega)) rfl) ?_) <;> (refine sdraw_pure (.free rfl rfl) rfl (po_cat rfl rfl rfl (by omega)) ?_) <;> (refine sdraw_pure (.free rfl rfl) rfl (po_move rfl rfl) ?_) <;> (first | refine sdraw_pure (.free rfl rfl) rfl (po_call (ba) rfl (ac .nil)) ?_ | refine sdraw_pure (.free rfl rfl) rfl (po_call (bb) rfl (ac .nil)) ?_ | refine sdraw_pure (.free rfl rfl) rfl (po_call (c5) rfl (ac .nil)) ?_) <;> (refine sdraw_pure (.free rfl rfl) rfl (po_cat rfl rfl rfl (by omega)) ?_) <;> (refine sdraw_pure (.free rfl rfl) rfl (po_assign rfl rfl) ?_) <;> (refine sdraw_nil ?_) <;> (refine sops_nil ?_))
              | ((refine swp_region (id := 15) ?_) <;> (refine sops_pure (.free rfl rfl) rfl rfl (po_move rfl rfl) ?_) <;> (first | refine sops_pure (.free rfl rfl) rfl rfl (po_call (ba) rfl (ac .nil)) ?_ | refine sops_pure (.free rfl rfl) rfl rfl (po_call (bb) rfl (ac .nil)) ?_ | refine sops_pure (.free rfl rfl) rfl rfl (po_call (c5) rfl (ac .nil)) ?_) <;> (refine sops_pure (.free rfl rfl) rfl rfl (po_move rfl rfl) ?_) <;> (first | refine sops_pure (.free rfl rfl) rfl rfl (po_extract rfl rfl rfl) ?_ | refine sops_pure (.free rfl rfl) rfl rfl (po_extract_tu rfl rfl rfl) ?_) <;> (first | refine sops_pure (.free rfl rfl) rfl rfl (po_extract rfl rfl rfl) ?_ | refine sops_pure (.free rfl rfl) rfl rfl (po_extract_tu rfl rfl rfl) ?_) <;> (refine sops_allocS str53 (.free rfl rfl) rfl rfl rfl rfl ?_) <;> (first | refine sops_store (.free rfl rfl) rfl rfl rfl rfl rfl rfl (tyT rfl) rfl rfl ?_ | refine sops_store_own (by rfl) (.free rfl rfl) rfl rfl rfl rfl (by first | rfl | assumption | omega | (simp; done) | (simp; omega) | (simp at *; omega)) rfl (by first | exact .t _ | exact .own rfl (by first | rfl | assumption | (simp; done) | (simp; omega)) | exact .nil _ | exact .emp _ | exact .fn _) rfl rfl (tyT rfl) rfl (by first | rfl | assumption | exact map_at (by first | assumption | omega)) rfl ?_) <;> (refine sops_pure (.free rfl rfl) rfl rfl (po_assign rfl rfl) ?_) <;> (refine sops_nil ?_))
              | ((refine swp_region (id := 16) ?_) <;> (refine sops_pure (.free rfl rfl) rfl rfl (po_move rfl rfl) ?_) <;> (first | refine sops_pure (.free rfl rfl) rfl rfl (po_len_own rfl rfl (tyS rfl)) ?_ | refine sops_pure (.free rfl rfl) rfl rfl (po_len_str rfl rfl (tyR rfl)) ?_) <;> (first | refine sops_pure (.free rfl rfl) rfl rfl (po_ex2 rfl rfl rfl (head_Ex h) (head_Ex h) (hne_run false _ _ q0)) ?_ | refine sops_pure (.free rfl rfl) rfl rfl (po_cmp rfl rfl rfl rfl) ?_) <;> (refine sops_pure (.free rfl rfl) rfl rfl (po_move rfl rfl) ?_) <;> (first | refine sops_pure gy rfl rfl (po_move rfl rfl) ?_ | refine sops_skip gn1 rfl rfl ?_ | ((refine sops_split rfl rfl rfl (fun hc => ?_) (fun hc => ?_)) <;> (first | refine sops_pure gy rfl rfl (po_move rfl rfl) ?_ | refine sops_skip gn1 rfl rfl ?_))) <;> (first | refine sops_pure gy rfl rfl (po_ex2 rfl rfl rfl (head_Ex h) (head_Ex h) (hne_run false _ _ q0)) ?_ | refine sops_pure gy rfl rfl (po_cmp rfl rfl rfl rfl) ?_ | refine sops_skip gn1 rfl rfl ?_) <;> (first | refine sops_pure gy rfl rfl (po_move rfl rfl) ?_ | refine sops_skip gn1 rfl rfl ?_) <;> (first | refine sops_pure gy rfl rfl (po_load_bx_agg rfl rfl (tyT rfl) rfl (vc (vc .nil)) rfl) ?_ | refine sops_pure gy rfl rfl (po_load_agg rfl rfl (tyT rfl) rfl rfl) ?_ | refine sops_pure gy rfl rfl (po_load_own_agg rfl rfl rfl (by first | rfl | assumption | omega | (simp; done) | (simp; omega) | (simp at *; omega)) (tyT rfl) (by first | rfl | assumption | exact map_at (by first | assumption | omega)) rfl rfl) ?_ | refine sops_pure gy rfl rfl (po_load_bx_ag rfl rfl (tyT rfl) rfl rfl rfl rfl) ?_ | refine sops_skip gn0 rfl rfl ?_ | refine sops_skip (.nou rfl rfl rfl) rfl rfl ?_ | ((refine sops_split rfl rfl rfl (fun hc => ?_) (fun hc => ?_)) <;> (first | refine sops_pure gy rfl rfl (po_load_bx_agg rfl rfl (tyT rfl) rfl (vc (vc .nil)) rfl) ?_ | refine sops_pure gy rfl rfl (po_load_agg rfl rfl (tyT rfl) rfl rfl) ?_ | refine sops_pure gy rfl rfl (po_load_own_agg rfl rfl rfl (by first | rfl | assumption | omega | (simp; done) | (simp; omega) | (simp at *; omega)) (tyT rfl) (by first | rfl | assumption | exact map_at (by first | assumption | omega)) rfl rfl) ?_ | refine sops_pure gy rfl rfl (po_load_bx_ag rfl rfl (tyT rfl) rfl rfl rfl rfl) ?_ | refine sops_skip gn0 rfl rfl ?_ | refine sops_skip (.nou rfl rfl rfl) rfl rfl ?_))) <;> (first | refine sops_pure gy rfl rfl (po_load_bx_agg rfl rfl (tyT rfl) rfl (vc (vc .nil)) rfl) ?_ | refine sops_pure gy rfl rfl (po_load_agg rfl rfl (tyT rfl) rfl rfl) ?_ | refine sops_pure gy rfl rfl (po_load_own_agg rfl rfl rfl (by first | rfl | assumption | omega | (simp; done) | (simp; omega) | (simp at *; omega)) (tyT rfl) (by first | rfl | assumption | exact map_at (by first | assumption | omega)) rfl rfl) ?_ | refine sops_pure gy rfl rfl (po_load_bx_ag rfl rfl (tyT rfl) rfl rfl rfl rfl) ?_ | refine sops_skip gn0 rfl rfl ?_ | refine sops_skip (.nou rfl rfl rfl) rfl rfl ?_) <;> (first | refine sops_pure gy rfl rfl (po_ex2 rfl rfl rfl (head_Ex h) (head_Ex h) (hne_run false _ _ q0)) ?_ | refine sops_pure gy rfl rfl (po_boolq rfl rfl rfl (by kernel_rfl) (by first | exact .inl rfl | exact .inr rfl)) ?_ | refine sops_skip gn0 rfl rfl ?_ | refine sops_skip (.nou rfl rfl rfl) rfl rfl ?_) <;> (first | refine sops_pure gy rfl rfl (pkt rfl) ?_ | refine sops_pure gy rfl rfl (pkf rfl) ?_ | refine sops_skip gn1 rfl rfl ?_) <;> (first | refine sops_pure (.free rfl rfl) rfl rfl (pkt rfl) ?_ | refine sops_pure (.free rfl rfl) rfl rfl (pkf rfl) ?_) <;> (refine sops_nil ?_))
              | refine swp_ret ?_
              | refine swp_skip ?_
              | refine swp_block ?_
              | refine swp_exit ?_
              | refine block_go ?_
              | refine block_exit ?_
              | refine block_far rfl ?_
              | refine block_ret ?_
              | refine then_ret ?_
              | refine then_exit ?_
              | refine for_ret ?_
              | refine for_exit ?_
              | refine ct ?_
              | refine cf ?_
              | refine swp_cond rfl (fun hc => ?_) (fun hc => ?_)
              | refine retq (by first | exact .inr rfl | exact .inl rfl) rfl (.tmp rfl (by first | exact .t _ | exact .own rfl (by first | rfl | assumption | (simp; done) | (simp; omega)) | exact .nil _ | exact .emp _ | exact .fn _) .nil) ?_)
          · repeat' (first
              | refine then_go ?_
              | refine swp_seq ?_
              | refine join_go (weak_sub (.cons rfl rfl rfl .nil) .nil .nil)
              | ((refine swp_region (id := 10) ?_) <;> (refine sops_pure (.free rfl rfl) rfl rfl (po_move rfl rfl) ?_) <;> (refine sops_pure (.free rfl rfl) rfl rfl (po_move rfl rfl) ?_) <;> (first | refine sops_pure (.free rfl rfl) rfl rfl (po_len_own rfl rfl (tyS rfl)) ?_ | refine sops_pure (.free rfl rfl) rfl rfl (pln rfl (tyS rfl)) ?_) <;> (refine sops_pure (.free rfl rfl) rfl rfl (po_cmp rfl rfl rfl rfl) ?_) <;> (refine sops_pure (.free rfl rfl) rfl rfl (po_move rfl rfl) ?_) <;> (first | refine sops_pure gy rfl rfl (po_move rfl rfl) ?_ | refine sops_skip gn1 rfl rfl ?_ | ((refine sops_split rfl rfl rfl (fun hc => ?_) (fun hc => ?_)) <;> (first | refine sops_pure gy rfl rfl (po_move rfl rfl) ?_ | refine sops_skip gn1 rfl rfl ?_))) <;> (first | refine sops_pure (.free rfl rfl) rfl rfl (pkt rfl) ?_ | refine sops_pure (.free rfl rfl) rfl rfl (pkf rfl) ?_) <;> (refine sops_nil ?_))
              | ((refine swp_draw_all (id := 14) mixed (by kernel_rfl) (by kernel_rfl) ?_) <;> (refine sdraw_pure (.free rfl rfl) rfl (po_move rfl rfl) ?_) <;> (refine sdraw_pure (.free rfl rfl) rfl (po_bytes_str rfl rfl (by first | exact .t _ | exact .own rfl (by first | rfl | assumption | omega | (simp; done) | (simp; omega) | (simp at *; omega)) | exact .nil _ | exact .emp _) byt59 (tyR rfl)) ?_) <;> (refine sdraw_pure (.free rfl rfl) rfl (po_cat rfl rfl rfl (by omega)) ?_) <;> (refine sdraw_pure (.free rfl rfl) rfl (po_move rfl rfl) ?_) <;> (first | refine sdraw_pure (.free rfl rfl) rfl (po_call (ba) rfl (ac .nil)) ?_ | refine sdraw_pure (.free rfl rfl) rfl (po_call (bb) rfl (ac .nil)) ?_ | refine sdraw_pure (.free rfl rfl) rfl (po_call (c5) rfl (ac .nil)) ?_) <;> (refine sdraw_pure (.free rfl rfl) rfl (po_cat rfl rfl rfl (by omega)) ?_) <;> (first | refine sdraw_pure (.free rfl rfl) rfl (po_field_bx rfl rfl (tyF rfl)) ?_ | refine sdraw_pure (.free rfl rfl) rfl (po_field rfl rfl (tyF rfl)) ?_ | refine sdraw_pure (.free rfl rfl) rfl (po_field_own rfl rfl rfl (by first | rfl | assumption | omega | (simp; done) | (simp; omega) | (simp at *; omega)) (tyF rfl)) ?_) <;> (first | refine sdraw_pure (.free rfl rfl) rfl (po_load_bx rfl rfl (tyT rfl) rfl rfl) ?_ | refine sdraw_pure (.free rfl rfl) rfl (po_load rfl rfl (tyT rfl) rfl) ?_ | refine sdraw_pure (.free rfl rfl) rfl (po_load_own rfl rfl rfl (by first | rfl | assumption | omega | (simp; done) | (simp; omega) | (simp at *; omega)) (tyT rfl) (by first | rfl | assumption | exact map_at (by first | assumption | omega)) rfl) ?_) <;> (refine sdraw_pure (.free rfl rfl) rfl (po_cat rfl rfl rfl (by omega)) ?_) <;> (refine sdraw_pure (.free rfl rfl) rfl (po_move rfl rfl) ?_) <;> (first | refine sdraw_pure (.free rfl rfl) rfl (po_call (ba) rfl (ac .nil)) ?_ | refine sdraw_pure (.free rfl rfl) rfl (po_call (bb) rfl (ac .nil)) ?_ | refine sdraw_pure (.free rfl rfl) rfl (po_call (c5) rfl (ac .nil)) ?_) <;> (refine sdraw_pure (.free rfl rfl) rfl (po_cat rfl rfl rfl (by omega)) ?_) <;> (refine sdraw_pure (.free rfl rfl) rfl (po_assign rfl rfl) ?_) <;> (refine sdraw_nil ?_) <;> (refine sops_nil ?_))
              | ((refine swp_region (id := 15) ?_) <;> (refine sops_pure (.free rfl rfl) rfl rfl (po_move rfl rfl) ?_) <;> (first | refine sops_pure (.free rfl rfl) rfl rfl (po_call (ba) rfl (ac .nil)) ?_ | refine sops_pure (.free rfl rfl) rfl rfl (po_call (bb) rfl (ac .nil)) ?_ | refine sops_pure (.free rfl rfl) rfl rfl (po_call (c5) rfl (ac .nil)) ?_) <;> (refine sops_pure (.free rfl rfl) rfl rfl (po_move rfl rfl) ?_) <;> (first | refine sops_pure (.free rfl rfl) rfl rfl (po_extract rfl rfl rfl) ?_ | refine sops_pure (.free rfl rfl) rfl rfl (po_extract_tu rfl rfl rfl) ?_) <;> (first | refine sops_pure (.free rfl rfl) rfl rfl (po_extract rfl rfl rfl) ?_ | refine sops_pure (.free rfl rfl) rfl rfl (po_extract_tu rfl rfl rfl) ?_) <;> (refine sops_allocS str53 (.free rfl rfl) rfl rfl rfl rfl ?_) <;> (first | refine sops_store (.free rfl rfl) rfl rfl rfl rfl rfl rfl (tyT rfl) rfl rfl ?_ | refine sops_store_own (by rfl) (.free rfl rfl) rfl rfl rfl rfl (by first | rfl | assumption | omega | (simp; done) | (simp; omega) | (simp at *; omega)) rfl (by first | exact .t _ | exact .own rfl (by first | rfl | assumption | (simp; done) | (simp; omega)) | exact .nil _ | exact .emp _ | exact .fn _) rfl rfl (tyT rfl) rfl (by first | rfl | assumption | exact map_at (by first | assumption | omega)) rfl ?_) <;> (refine sops_pure (.free rfl rfl) rfl rfl (po_assign rfl rfl) ?_) <;> (refine sops_nil ?_))
              | ((refine swp_region (id := 16) ?_) <;> (refine sops_pure (.free rfl rfl) rfl rfl (po_move rfl rfl) ?_) <;> (first | refine sops_pure (.free rfl rfl) rfl rfl (po_len_own rfl rfl (tyS rfl)) ?_ | refine sops_pure (.free rfl rfl) rfl rfl (po_len_str rfl rfl (tyR rfl)) ?_) <;> (refine sops_pure (.free rfl rfl) rfl rfl (po_cmp rfl rfl rfl rfl) ?_) <;> (refine sops_pure (.free rfl rfl) rfl rfl (po_move rfl rfl) ?_) <;> (first | refine sops_pure gy rfl rfl (po_move rfl rfl) ?_ | refine sops_skip gn1 rfl rfl ?_ | ((refine sops_split rfl rfl rfl (fun hc => ?_) (fun hc => ?_)) <;> (first | refine sops_pure gy rfl rfl (po_move rfl rfl) ?_ | refine sops_skip gn1 rfl rfl ?_))) <;> (first | refine sops_pure gy rfl rfl (po_cmp rfl rfl rfl rfl) ?_ | refine sops_skip gn1 rfl rfl ?_) <;> (first | refine sops_pure gy rfl rfl (po_move rfl rfl) ?_ | refine sops_skip gn1 rfl rfl ?_) <;> (first | refine sops_pure gy rfl rfl (po_load_bx_agg rfl rfl (tyT rfl) rfl (vc (vc .nil)) rfl) ?_ | refine sops_pure gy rfl rfl (po_load_agg rfl rfl (tyT rfl) rfl rfl) ?_ | refine sops_pure gy rfl rfl (po_load_own_agg rfl rfl rfl (by first | rfl | assumption | omega | (simp; done) | (simp; omega) | (simp at *; omega)) (tyT rfl) (by first | rfl | assumption | exact map_at (by first | assumption | omega)) rfl rfl) ?_ | refine sops_pure gy rfl rfl (po_load_bx_ag rfl rfl (tyT rfl) rfl rfl rfl rfl) ?_ | refine sops_skip gn0 rfl rfl ?_ | refine sops_skip (.nou rfl rfl rfl) rfl rfl ?_ | ((refine sops_split rfl rfl rfl (fun hc => ?_) (fun hc => ?_)) <;> (first | refine sops_pure gy rfl rfl (po_load_bx_agg rfl rfl (tyT rfl) rfl (vc (vc .nil)) rfl) ?_ | refine sops_pure gy rfl rfl (po_load_agg rfl rfl (tyT rfl) rfl rfl) ?_ | refine sops_pure gy rfl rfl (po_load_own_agg rfl rfl rfl (by first | rfl | assumption | omega | (simp; done) | (simp; omega) | (simp at *; omega)) (tyT rfl) (by first | rfl | assumption | exact map_at (by first | assumption | omega)) rfl rfl) ?_ | refine sops_pure gy rfl rfl (po_load_bx_ag rfl rfl (tyT rfl) rfl rfl rfl rfl) ?_ | refine sops_skip gn0 rfl rfl ?_ | refine sops_skip (.nou rfl rfl rfl) rfl rfl ?_))) <;> (first | refine sops_pure gy rfl rfl (po_load_bx_agg rfl rfl (tyT rfl) rfl (vc (vc .nil)) rfl) ?_ | refine sops_pure gy rfl rfl (po_load_agg rfl rfl (tyT rfl) rfl rfl) ?_ | refine sops_pure gy rfl rfl (po_load_own_agg rfl rfl rfl (by first | rfl | assumption | omega | (simp; done) | (simp; omega) | (simp at *; omega)) (tyT rfl) (by first | rfl | assumption | exact map_at (by first | assumption | omega)) rfl rfl) ?_ | refine sops_pure gy rfl rfl (po_load_bx_ag rfl rfl (tyT rfl) rfl rfl rfl rfl) ?_ | refine sops_skip gn0 rfl rfl ?_ | refine sops_skip (.nou rfl rfl rfl) rfl rfl ?_) <;> (first | refine sops_pure gy rfl rfl (po_boolq rfl rfl rfl (by kernel_rfl) (by first | exact .inl rfl | exact .inr rfl)) ?_ | refine sops_skip gn0 rfl rfl ?_ | refine sops_skip (.nou rfl rfl rfl) rfl rfl ?_) <;> (first | refine sops_pure gy rfl rfl (pkt rfl) ?_ | refine sops_pure gy rfl rfl (pkf rfl) ?_ | refine sops_skip gn1 rfl rfl ?_) <;> (first | refine sops_pure (.free rfl rfl) rfl rfl (pkt rfl) ?_ | refine sops_pure (.free rfl rfl) rfl rfl (pkf rfl) ?_) <;> (refine sops_nil ?_))
              | refine swp_ret ?_
              | refine swp_skip ?_
              | refine swp_block ?_
              | refine swp_exit ?_
              | refine block_go ?_
              | refine block_exit ?_
              | refine block_far rfl ?_
              | refine block_ret ?_
              | refine then_ret ?_
              | refine then_exit ?_
              | refine for_ret ?_
              | refine for_exit ?_
              | refine ct ?_
              | refine cf ?_
              | refine swp_cond rfl (fun hc => ?_) (fun hc => ?_)
              | refine retq (by first | exact .inr rfl | exact .inl rfl) rfl (.tmp rfl (by first | exact .t _ | exact .own rfl (by first | rfl | assumption | (simp; done) | (simp; omega)) | exact .nil _ | exact .emp _ | exact .fn _) .nil) ?_)
        | true =>
          refine swp_for (fun k => ⟨[(1, .t (.v (.string s))), (2, .t (.v (.int .i64 (an : Int)))), (3, .t (.v (.int .i64 (bn : Int)))), (4, .t (.v (.bool true))), (5, .bp 5 0), (15, .own 1000 h.name.toList.length), (16, .t (.v (.int .i64 (k : Int))))], [(5, (headT h).map A.t)], [(1000, ⟨5, 1, mixGR upU h.name.toList k⟩)]⟩) (fun _ => True) h.name.toList.length (weak_sub (.cons rfl (by first | rfl | (first | rw [hbl] | exact cellsS h.name)) rfl (.cons rfl (by first | rfl | (first | rw [hbl] | exact cellsS h.name)) rfl (.cons rfl (by first | rfl | (first | rw [hbl] | exact cellsS h.name)) rfl (.cons rfl (by first | rfl | (first | rw [hbl] | exact cellsS h.name)) rfl (.cons rfl (by first | rfl | (first | rw [hbl] | exact cellsS h.name)) rfl (.cons rfl (by first | rfl | (first | rw [hbl] | exact cellsS h.name)) rfl (.cons rfl (by first | rfl | (first | rw [hbl] | exact cellsS h.name)) rfl .nil))))))) (.cons rfl (by first | rfl | (first | rw [hbl] | exact cellsS h.name)) rfl .nil) (.cons rfl (by first | rfl | (first | rw [hbl] | exact cellsS h.name)) .nil)) trivial ?_
          intro k hk _
          have hq := mixGR_len upU h.name.toList k
          have hq' := hq.symm
          by_cases hlt : k < h.name.toList.length
          · have hrow := mixGR_at upU h.name.toList hlt
            rcases dn3 h.name.toList[k].toNat with h3 | h3 | h3
            · have hn := mixGR_up h.name.toList hlt h3
              repeat' (first
                | refine then_go ?_
                | refine swp_seq ?_
                | refine for_next hlt (weak_sub (.cons rfl (by first | rfl | (exact congrArg (Own.mk _ 1) hn)) rfl (.cons rfl (by first | rfl | (exact congrArg (Own.mk _ 1) hn)) rfl (.cons rfl (by first | rfl | (exact congrArg (Own.mk _ 1) hn)) rfl (.cons rfl (by first | rfl | (exact congrArg (Own.mk _ 1) hn)) rfl (.cons rfl (by first | rfl | (exact congrArg (Own.mk _ 1) hn)) rfl (.cons rfl (by first | rfl | (exact congrArg (Own.mk _ 1) hn)) rfl (.cons rfl (by first | rfl | (exact congrArg (Own.mk _ 1) hn)) rfl .nil))))))) (.cons rfl (by first | rfl | (exact congrArg (Own.mk _ 1) hn)) rfl .nil) (.cons rfl (by first | rfl | (exact congrArg (Own.mk _ 1) hn)) .nil)) trivial
                | ((refine swp_region (id := 10) ?_) <;> (refine sops_pure (.free rfl rfl) rfl rfl (po_move rfl rfl) ?_) <;> (refine sops_pure (.free rfl rfl) rfl rfl (po_move rfl rfl) ?_) <;> (first | refine sops_pure (.free rfl rfl) rfl rfl (po_len_own rfl rfl (tyS rfl)) ?_ | refine sops_pure (.free rfl rfl) rfl rfl (pln rfl (tyS rfl)) ?_) <;> (refine sops_pure (.free rfl rfl) rfl rfl (po_cmp rfl rfl rfl rfl) ?_) <;> (refine sops_pure (.free rfl rfl) rfl rfl (po_move rfl rfl) ?_) <;> (first | refine sops_pure gy rfl rfl (po_move rfl rfl) ?_ | refine sops_skip gn1 rfl rfl ?_ | ((refine sops_split rfl rfl rfl (fun hc => ?_) (fun hc => ?_)) <;> (first | refine sops_pure gy rfl rfl (po_move rfl rfl) ?_ | refine sops_skip gn1 rfl rfl ?_))) <;> (first | refine sops_pure (.free rfl rfl) rfl rfl (pkt rfl) ?_ | refine sops_pure (.free rfl rfl) rfl rfl (pkf rfl) ?_) <;> (refine sops_nil ?_))
                | ((refine swp_region (id := 12) ?_) <;> (refine sops_pure (.free rfl rfl) rfl rfl (po_move rfl rfl) ?_) <;> (refine sops_pure (.free rfl rfl) rfl rfl (po_move rfl rfl) ?_) <;> (first | refine sops_pure (.free rfl rfl) rfl rfl (po_index_own rfl rfl rfl (by first | rfl | assumption | omega | (simp; done) | (simp; omega) | (simp at *; omega)) rfl (tyS rfl) (by first | rfl | omega) (by first | assumption | omega)) ?_ | refine sops_pure (.free rfl rfl) rfl rfl (pix rfl (tyS rfl)) ?_) <;> (first | refine sops_pure (.free rfl rfl) rfl rfl (po_load_bx rfl rfl (tyT rfl) rfl rfl) ?_ | refine sops_pure (.free rfl rfl) rfl rfl (po_load rfl rfl (tyT rfl) rfl) ?_ | refine sops_pure (.free rfl rfl) rfl rfl (po_load_own rfl rfl rfl (by first | rfl | assumption | omega | (simp; done) | (simp; omega) | (simp at *; omega)) (tyT rfl) (by first | rfl | assumption | exact map_at (by first | assumption | omega)) rfl) ?_) <;> (refine sops_pure (.free rfl rfl) rfl rfl (po_cmp rfl rfl rfl rfl) ?_) <;> (refine sops_pure (.free rfl rfl) rfl rfl (po_move rfl rfl) ?_) <;> (first | refine sops_pure gy rfl rfl (po_move rfl rfl) ?_ | refine sops_skip gn1 rfl rfl ?_ | ((refine sops_split rfl rfl rfl (fun hc => ?_) (fun hc => ?_)) <;> (first | refine sops_pure gy rfl rfl (po_move rfl rfl) ?_ | refine sops_skip gn1 rfl rfl ?_))) <;> (first | refine sops_pure gy rfl rfl (po_move rfl rfl) ?_ | refine sops_skip gn1 rfl rfl ?_) <;> (first | refine sops_pure gy rfl rfl (po_index_own rfl rfl rfl (by first | rfl | assumption | omega | (simp; done) | (simp; omega) | (simp at *; omega)) rfl (tyS rfl) (by first | rfl | omega) (by first | assumption | omega)) ?_ | refine sops_pure gy rfl rfl (pix rfl (tyS rfl)) ?_ | refine sops_skip gn1 rfl rfl ?_) <;> (first | refine sops_pure gy rfl rfl (po_load_bx rfl rfl (tyT rfl) rfl rfl) ?_ | refine sops_pure gy rfl rfl (po_load rfl rfl (tyT rfl) rfl) ?_ | refine sops_pure gy rfl rfl (po_load_own rfl rfl rfl (by first | rfl | assumption | omega | (simp; done) | (simp; omega) | (simp at *; omega)) (tyT rfl) (by first | rfl | assumption | exact map_at (by first | assumption | omega)) rfl) ?_ | refine sops_skip gn1 rfl rfl ?_) <;> (first | refine sops_pure gy rfl rfl (po_cmp rfl rfl rfl rfl) ?_ | refine sops_skip gn1 rfl rfl ?_) <;> (first | refine sops_pure (.free rfl rfl) rfl rfl (pkt rfl) ?_ | refine sops_pure (.free rfl rfl) rfl rfl (pkf rfl) ?_) <;> (refine sops_nil ?_))
                | ((refine swp_region (id := 13) ?_) <;> (refine sops_pure (.free rfl rfl) rfl rfl (po_move rfl rfl) ?_) <;> (refine sops_pure (.free rfl rfl) rfl rfl (po_move rfl rfl) ?_) <;> (refine sops_pure (.free rfl rfl) rfl rfl (po_move rfl rfl) ?_) <;> (refine sops_pure (.free rfl rfl) rfl rfl (po_move rfl rfl) ?_) <;> (first | refine sops_pure (.free rfl rfl) rfl rfl (po_index_own rfl rfl rfl (by first | rfl | assumption | omega | (simp; done) | (simp; omega) | (simp at *; omega)) rfl (tyS rfl) (by first | rfl | omega) (by first | assumption | omega)) ?_ | refine sops_pure (.free rfl rfl) rfl rfl (pix rfl (tyS rfl)) ?_) <;> (first | refine sops_pure (.free rfl rfl) rfl rfl (po_load_bx rfl rfl (tyT rfl) rfl rfl) ?_ | refine sops_pure (.free rfl rfl) rfl rfl (po_load rfl rfl (tyT rfl) rfl) ?_ | refine sops_pure (.free rfl rfl) rfl rfl (po_load_own rfl rfl rfl (by first | rfl | assumption | omega | (simp; done) | (simp; omega) | (simp at *; omega)) (tyT rfl) (by first | rfl | assumption | exact map_at (by first | assumption | omega)) rfl) ?_) <;> (first | refine sops_pure (.free rfl rfl) rfl rfl (po_dec rfl rfl rfl (by omega)) ?_ | refine sops_pure (.free rfl rfl) rfl rfl (po_arith rfl rfl rfl (ar_sub (by first | rfl | (refine wrap_i64 ?_; omega) | (refine wrap_u8 ?_; omega)) rfl)) ?_) <;> (first | refine sops_pure (.free rfl rfl) rfl rfl (po_index_own rfl rfl rfl (by first | rfl | assumption | omega | (simp; done) | (simp; omega) | (simp at *; omega)) rfl (tyS rfl) (by first | rfl | omega) (by first | assumption | omega)) ?_ | refine sops_pure (.free rfl rfl) rfl rfl (pix rfl (tyS rfl)) ?_) <;> (first | refine sops_store (.free rfl rfl) rfl rfl rfl rfl rfl rfl (tyT rfl) rfl rfl ?_ | refine sops_store_own (by rfl) (.free rfl rfl) rfl rfl rfl rfl (by first | rfl | assumption | omega | (simp; done) | (simp; omega) | (simp at *; omega)) rfl (by first | exact .t _ | exact .own rfl (by first | rfl | assumption | (simp; done) | (simp; omega)) | exact .nil _ | exact .emp _ | exact .fn _) rfl rfl (tyT rfl) rfl (by first | rfl | assumption | exact map_at (by first | assumption | omega)) rfl ?_) <;> (refine sops_nil ?_))
                | ((refine swp_region (id := 11) ?_) <;> (refine sops_pure (.free rfl rfl) rfl rfl (po_move rfl rfl) ?_) <;> (first | refine sops_pure (.free rfl rfl) rfl rfl (po_inc rfl rfl rfl (by omega)) ?_ | refine sops_pure (.free rfl rfl) rfl rfl (po_arith rfl rfl rfl (ar_add (by first | rfl | (refine wrap_i64 ?_; omega) | (refine wrap_u8 ?_; omega)) rfl)) ?_) <;> (refine sops_pure (.free rfl rfl) rfl rfl (po_assign rfl rfl) ?_) <;> (refine sops_nil ?_))
                | refine swp_ret ?_
                | refine swp_skip ?_
                | refine swp_block ?_
                | refine swp_exit ?_
                | refine block_go ?_
                | refine block_exit ?_
                | refine block_far rfl ?_
                | refine block_ret ?_
                | refine then_ret ?_
                | refine then_exit ?_
                | refine for_ret ?_
                | refine for_exit ?_
                | refine ct ?_
                | refine cf ?_
                | refine swp_cond rfl (fun hc => ?_) (fun hc => ?_)
                | refine retq (by first | exact .inr rfl | exact .inl rfl) rfl (.tmp rfl (by first | exact .t _ | exact .own rfl (by first | rfl | assumption | (simp; done) | (simp; omega)) | exact .nil _ | exact .emp _ | exact .fn _) .nil) ?_)
            all_goals
              have hn := mixGR_no h.name.toList hlt (fun h => by omega)
              repeat' (first
                | refine then_go ?_
                | refine swp_seq ?_
                | refine for_next hlt (weak_sub (.cons rfl (by first | rfl | (exact congrArg (Own.mk _ 1) hn)) rfl (.cons rfl (by first | rfl | (exact congrArg (Own.mk _ 1) hn)) rfl (.cons rfl (by first | rfl | (exact congrArg (Own.mk _ 1) hn)) rfl (.cons rfl (by first | rfl | (exact congrArg (Own.mk _ 1) hn)) rfl (.cons rfl (by first | rfl | (exact congrArg (Own.mk _ 1) hn)) rfl (.cons rfl (by first | rfl | (exact congrArg (Own.mk _ 1) hn)) rfl (.cons rfl (by first | rfl | (exact congrArg (Own.mk _ 1) hn)) rfl .nil))))))) (.cons rfl (by first | rfl | (exact congrArg (Own.mk _ 1) hn)) rfl .nil) (.cons rfl (by first | rfl | (exact congrArg (Own.mk _ 1) hn)) .nil)) trivial
                | ((refine swp_region (id := 10) ?_) <;> (refine sops_pure (.free rfl rfl) rfl rfl (po_move rfl rfl) ?_) <;> (refine sops_pure (.free rfl rfl) rfl rfl (po_move rfl rfl) ?_) <;> (first | refine sops_pure (.free rfl rfl) rfl rfl (po_len_own rfl rfl (tyS rfl)) ?_ | refine sops_pure (.free rfl rfl) rfl rfl (pln rfl (tyS rfl)) ?_) <;> (refine sops_pure (.free rfl rfl) rfl rfl (po_cmp rfl rfl rfl rfl) ?_) <;> (refine sops_pure (.free rfl rfl) rfl rfl (po_move rfl rfl) ?_) <;> (first | refine sops_pure gy rfl rfl (po_move rfl rfl) ?_ | refine sops_skip gn1 rfl rfl ?_ | ((refine sops_split rfl rfl rfl (fun hc => ?_) (fun hc => ?_)) <;> (first | refine sops_pure gy rfl rfl (po_move rfl rfl) ?_ | refine sops_skip gn1 rfl rfl ?_))) <;> (first | refine sops_pure (.free rfl rfl) rfl rfl (pkt rfl) ?_ | refine sops_pure (.free rfl rfl) rfl rfl (pkf rfl) ?_) <;> (refine sops_nil ?_))
                | ((refine swp_region (id := 12) ?_) <;> (refine sops_pure (.free rfl rfl) rfl rfl (po_move rfl rfl) ?_) <;> (refine sops_pure (.free rfl rfl) rfl rfl (po_move rfl rfl) ?_) <;> (first | refine sops_pure (.free rfl rfl) rfl rfl (po_index_own rfl rfl rfl (by first | rfl | assumption | omega | (simp; done) | (simp; omega) | (simp at *; omega)) rfl (tyS rfl) (by first | rfl | omega) (by first | assumption | omega)) ?_ | refine sops_pure (.free rfl rfl) rfl rfl (pix rfl (tyS rfl)) ?_) <;> (first | refine sops_pure (.free rfl rfl) rfl rfl (po_load_bx rfl rfl (tyT rfl) rfl rfl) ?_ | refine sops_pure (.free rfl rfl) rfl rfl (po_load rfl rfl (tyT rfl) rfl) ?_ | refine sops_pure (.free rfl rfl) rfl rfl (po_load_own rfl rfl rfl (by first | rfl | assumption | omega | (simp; done) | (simp; omega) | (simp at *; omega)) (tyT rfl) (by first | rfl | assumption | exact map_at (by first | assumption | omega)) rfl) ?_) <;> (refine sops_pure (.free rfl rfl) rfl rfl (po_cmp rfl rfl rfl rfl) ?_) <;> (refine sops_pure (.free rfl rfl) rfl rfl (po_move rfl rfl) ?_) <;> (first | refine sops_pure gy rfl rfl (po_move rfl rfl) ?_ | refine sops_skip gn1 rfl rfl ?_ | ((refine sops_split rfl rfl rfl (fun hc => ?_) (fun hc => ?_)) <;> (first | refine sops_pure gy rfl rfl (po_move rfl rfl) ?_ | refine sops_skip gn1 rfl rfl ?_))) <;> (first | refine sops_pure gy rfl rfl (po_move rfl rfl) ?_ | refine sops_skip gn1 rfl rfl ?_) <;> (first | refine sops_pure gy rfl rfl (po_index_own rfl rfl rfl (by first | rfl | assumption | omega | (simp; done) | (simp; omega) | (simp at *; omega)) rfl (tyS rfl) (by first | rfl | omega) (by first | assumption | omega)) ?_ | refine sops_pure gy rfl rfl (pix rfl (tyS rfl)) ?_ | refine sops_skip gn1 rfl rfl ?_) <;> (first | refine sops_pure gy rfl rfl (po_load_bx rfl rfl (tyT rfl) rfl rfl) ?_ | refine sops_pure gy rfl rfl (po_load rfl rfl (tyT rfl) rfl) ?_ | refine sops_pure gy rfl rfl (po_load_own rfl rfl rfl (by first | rfl | assumption | omega | (simp; done) | (simp; omega) | (simp at *; omega)) (tyT rfl) (by first | rfl | assumption | exact map_at (by first | assumption | omega)) rfl) ?_ | refine sops_skip gn1 rfl rfl ?_) <;> (first | refine sops_pure gy rfl rfl (po_cmp rfl rfl rfl rfl) ?_ | refine sops_skip gn1 rfl rfl ?_) <;> (first | refine sops_pure (.free rfl rfl) rfl rfl (pkt rfl) ?_ | refine sops_pure (.free rfl rfl) rfl rfl (pkf rfl) ?_) <;> (refine sops_nil ?_))
                | ((refine swp_region (id := 11) ?_) <;> (refine sops_pure (.free rfl rfl) rfl rfl (po_move rfl rfl) ?_) <;> (first | refine sops_pure (.free rfl rfl) rfl rfl (po_inc rfl rfl rfl (by omega)) ?_ | refine sops_pure (.free rfl rfl) rfl rfl (po_arith rfl rfl rfl (ar_add (by first | rfl | (refine wrap_i64 ?_; omega)) rfl)) ?_) <;> (refine sops_pure (.free rfl rfl) rfl rfl (po_assign rfl rfl) ?_) <;> (refine sops_nil ?_))
                | refine swp_ret ?_
                | refine swp_skip ?_
                | refine swp_block ?_
                | refine swp_exit ?_
                | refine block_go ?_
                | refine block_exit ?_
                | refine block_far rfl ?_
                | refine block_ret ?_
                | refine then_ret ?_
                | refine then_exit ?_
                | refine for_ret ?_
                | refine for_exit ?_
                | refine ct ?_
                | refine cf ?_
                | refine swp_cond rfl (fun hc => ?_) (fun hc => ?_)
                | refine retq (by first | exact .inr rfl | exact .inl rfl) rfl (.tmp rfl (by first | exact .t _ | exact .own rfl (by first | rfl | assumption | (simp; done) | (simp; omega)) | exact .nil _ | exact .emp _ | exact .fn _) .nil) ?_)
          · obtain rfl : k = h.name.toList.length := by omega
            have hr : mixGR upU h.name.toList h.name.toList.length = (h.name.toList.map upU).map byteT := by unfold mixGR; rw [mixG_all]
            have hqM : h.name.toList.length = ((h.name.toList.map upU).map byteT).length := by simp
            rw [hr]
            obtain ⟨f1, f2⟩ := fin (h.name.toList.map upU) (by simp) l2 l4
            have hsM : (bs (h.name.toList.map upU)).size = h.name.size := by rw [bs_size, List.length_map, hl]
            have hs1 : (bs (h.name.toList.map upU) ++ (⟨#[58]⟩ : ByteArray)).size = h.name.size + 1 := by rw [ByteArray.size_append, hsM]; rfl
            have hs2 : (bs (h.name.toList.map upU) ++ (⟨#[58]⟩ : ByteArray) ++ bs (blanksL an)).size = h.name.size + 1 + an := by rw [ByteArray.size_append, hs1, lx1]
            have hs3 : (bs (h.name.toList.map upU) ++ (⟨#[58]⟩ : ByteArray) ++ bs (blanksL an) ++ h.value).size = h.name.size + 1 + an + h.value.size := by rw [ByteArray.size_append, hs2]
            have c5 := read_ (bs (h.name.toList.map upU) ++ (⟨#[58]⟩ : ByteArray) ++ bs (blanksL an) ++ h.value ++ bs (blanksL bn)) (by unfold maxLen; omega)
            by_cases hsz : (bs (h.name.toList.map upU) ++ (⟨#[58]⟩ : ByteArray) ++ bs (blanksL an) ++ h.value ++ bs (blanksL bn)).size ≤ 578
            · rw [f2 hsz] at c5
              replace c5 : PCalls Tryd.prog 31 _ (.tup [.agg (headT h), .v (.int .i64 0)]) := c5
              repeat' (first
                | refine then_go ?_
                | refine swp_seq ?_
                | refine join_go (weak_sub (.cons rfl rfl rfl .nil) .nil .nil)
                | ((refine swp_region (id := 10) ?_) <;> (refine sops_pure (.free rfl rfl) rfl rfl (po_move rfl rfl) ?_) <;> (refine sops_pure (.free rfl rfl) rfl rfl (po_move rfl rfl) ?_) <;> (first | refine sops_pure (.free rfl rfl) rfl rfl (po_len_own rfl rfl (tyS rfl)) ?_ | refine sops_pure (.free rfl rfl) rfl rfl (pln rfl (tyS rfl)) ?_) <;> (first | refine sops_pure (.free rfl rfl) rfl rfl (po_ex2 rfl rfl rfl (head_Ex h) (head_Ex h) (hne_run false _ _ q0)) ?_ | refine sops_pure (.free rfl rfl) rfl rfl (po_cmp rfl rfl rfl rfl) ?_) <;> (refine sops_pure (.free rfl rfl) rfl rfl (po_move rfl rfl) ?_) <;> (first | refine sops_pure gy rfl rfl (po_move rfl rfl) ?_ | refine sops_skip gn1 rfl rfl ?_ | ((refine sops_split rfl rfl rfl (fun hc => ?_) (fun hc => ?_)) <;> (first | refine sops_pure gy rfl rfl (po_move rfl rfl) ?_ | refine sops_skip gn1 rfl rfl ?_))) <;> (first | refine sops_pure (.free rfl rfl) rfl rfl (pkt rfl) ?_ | refine sops_pure (.free rfl rfl) rfl rfl (pkf rfl) ?_) <;> (refine sops_nil ?_))
                | ((refine swp_draw_all (id := 14) mixed (by kernel_rfl) (by kernel_rfl) ?_) <;> (refine sdraw_pure (.free rfl rfl) rfl (po_move rfl rfl) ?_) <;> (refine sdraw_pure (.free rfl rfl) rfl (po_bytes_str rfl rfl (by first | exact .t _ | exact .own rfl (by first | rfl | assumption | omega | (simp; done) | (simp; omega) | (simp at *; omega)) | exact .nil _ | exact .emp _) byt59 (tyR rfl)) ?_) <;> (refine sdraw_pure (.free rfl rfl) rfl (po_cat rfl rfl rfl (by omega)) ?_) <;> (refine sdraw_pure (.free rfl rfl) rfl (po_move rfl rfl) ?_) <;> (first | refine sdraw_pure (.free rfl rfl) rfl (po_call (ba) rfl (ac .nil)) ?_ | refine sdraw_pure (.free rfl rfl) rfl (po_call (bb) rfl (ac .nil)) ?_ | refine sdraw_pure (.free rfl rfl) rfl (po_call (c5) rfl (ac .nil)) ?_) <;> (refine sdraw_pure (.free rfl rfl) rfl (po_cat rfl rfl rfl (by omega)) ?_) <;> (first | refine sdraw_pure (.free rfl rfl) rfl (po_field_bx rfl rfl (tyF rfl)) ?_ | refine sdraw_pure (.free rfl rfl) rfl (po_field rfl rfl (tyF rfl)) ?_ | refine sdraw_pure (.free rfl rfl) rfl (po_field_own rfl rfl rfl (by first | rfl | assumption | omega | (simp; done) | (simp; omega) | (simp at *; omega)) (tyF rfl)) ?_) <;> (first | refine sdraw_pure (.free rfl rfl) rfl (po_load_bx rfl rfl (tyT rfl) rfl rfl) ?_ | refine sdraw_pure (.free rfl rfl) rfl (po_load rfl rfl (tyT rfl) rfl) ?_ | refine sdraw_pure (.free rfl rfl) rfl (po_load_own rfl rfl rfl (by first | rfl | assumption | omega | (simp; done) | (simp; omega) | (simp at *; omega)) (tyT rfl) (by first | rfl | assumption | exact map_at (by first | assumption | omega)) rfl) ?_) <;> (refine sdraw_pure (.free rfl rfl) rfl (po_cat rfl rfl rfl (by omega)) ?_) <;> (refine sdraw_pure (.free rfl rfl) rfl (po_move rfl rfl) ?_) <;> (first | refine sdraw_pure (.free rfl rfl) rfl (po_call (ba) rfl (ac .nil)) ?_ | refine sdraw_pure (.free rfl rfl) rfl (po_call (bb) rfl (ac .nil)) ?_ | refine sdraw_pure (.free rfl rfl) rfl (po_call (c5) rfl (ac .nil)) ?_) <;> (refine sdraw_pure (.free rfl rfl) rfl (po_cat rfl rfl rfl (by omega)) ?_) <;> (refine sdraw_pure (.free rfl rfl) rfl (po_assign rfl rfl) ?_) <;> (refine sdraw_nil ?_) <;> (refine sops_nil ?_))
                | ((refine swp_region (id := 15) ?_) <;> (refine sops_pure (.free rfl rfl) rfl rfl (po_move rfl rfl) ?_) <;> (first | refine sops_pure (.free rfl rfl) rfl rfl (po_call (ba) rfl (ac .nil)) ?_ | refine sops_pure (.free rfl rfl) rfl rfl (po_call (bb) rfl (ac .nil)) ?_ | refine sops_pure (.free rfl rfl) rfl rfl (po_call (c5) rfl (ac .nil)) ?_) <;> (refine sops_pure (.free rfl rfl) rfl rfl (po_move rfl rfl) ?_) <;> (first | refine sops_pure (.free rfl rfl) rfl rfl (po_extract rfl rfl rfl) ?_ | refine sops_pure (.free rfl rfl) rfl rfl (po_extract_tu rfl rfl rfl) ?_) <;> (first | refine sops_pure (.free rfl rfl) rfl rfl (po_extract rfl rfl rfl) ?_ | refine sops_pure (.free rfl rfl) rfl rfl (po_extract_tu rfl rfl rfl) ?_) <;> (refine sops_allocS str53 (.free rfl rfl) rfl rfl rfl rfl ?_) <;> (first | refine sops_store (.free rfl rfl) rfl rfl rfl rfl rfl rfl (tyT rfl) rfl rfl ?_ | refine sops_store_own (by rfl) (.free rfl rfl) rfl rfl rfl rfl (by first | rfl | assumption | omega | (simp; done) | (simp; omega) | (simp at *; omega)) rfl (by first | exact .t _ | exact .own rfl (by first | rfl | assumption | (simp; done) | (simp; omega)) | exact .nil _ | exact .emp _ | exact .fn _) rfl rfl (tyT rfl) rfl (by first | rfl | assumption | exact map_at (by first | assumption | omega)) rfl ?_) <;> (refine sops_pure (.free rfl rfl) rfl rfl (po_assign rfl rfl) ?_) <;> (refine sops_nil ?_))
                | ((refine swp_region (id := 16) ?_) <;> (refine sops_pure (.free rfl rfl) rfl rfl (po_move rfl rfl) ?_) <;> (first | refine sops_pure (.free rfl rfl) rfl rfl (po_len_own rfl rfl (tyS rfl)) ?_ | refine sops_pure (.free rfl rfl) rfl rfl (po_len_str rfl rfl (tyR rfl)) ?_) <;> (first | refine sops_pure (.free rfl rfl) rfl rfl (po_ex2 rfl rfl rfl (head_Ex h) (head_Ex h) (hne_run false _ _ q0)) ?_ | refine sops_pure (.free rfl rfl) rfl rfl (po_cmp rfl rfl rfl rfl) ?_) <;> (refine sops_pure (.free rfl rfl) rfl rfl (po_move rfl rfl) ?_) <;> (first | refine sops_pure gy rfl rfl (po_move rfl rfl) ?_ | refine sops_skip gn1 rfl rfl ?_ | ((refine sops_split rfl rfl rfl (fun hc => ?_) (fun hc => ?_)) <;> (first | refine sops_pure gy rfl rfl (po_move rfl rfl) ?_ | refine sops_skip gn1 rfl rfl ?_))) <;> (first | refine sops_pure gy rfl rfl (po_ex2 rfl rfl rfl (head_Ex h) (head_Ex h) (hne_run false _ _ q0)) ?_ | refine sops_pure gy rfl rfl (po_cmp rfl rfl rfl rfl) ?_ | refine sops_skip gn1 rfl rfl ?_) <;> (first | refine sops_pure gy rfl rfl (po_move rfl rfl) ?_ | refine sops_skip gn1 rfl rfl ?_) <;> (first | refine sops_pure gy rfl rfl (po_load_bx_agg rfl rfl (tyT rfl) rfl (vc (vc .nil)) rfl) ?_ | refine sops_pure gy rfl rfl (po_load_agg rfl rfl (tyT rfl) rfl rfl) ?_ | refine sops_pure gy rfl rfl (po_load_own_agg rfl rfl rfl (by first | rfl | assumption | omega | (simp; done) | (simp; omega) | (simp at *; omega)) (tyT rfl) (by first | rfl | assumption | exact map_at (by first | assumption | omega)) rfl rfl) ?_ | refine sops_pure gy rfl rfl (po_load_bx_ag rfl rfl (tyT rfl) rfl rfl rfl rfl) ?_ | refine sops_skip gn0 rfl rfl ?_ | refine sops_skip (.nou rfl rfl rfl) rfl rfl ?_ | ((refine sops_split rfl rfl rfl (fun hc => ?_) (fun hc => ?_)) <;> (first | refine sops_pure gy rfl rfl (po_load_bx_agg rfl rfl (tyT rfl) rfl (vc (vc .nil)) rfl) ?_ | refine sops_pure gy rfl rfl (po_load_agg rfl rfl (tyT rfl) rfl rfl) ?_ | refine sops_pure gy rfl rfl (po_load_own_agg rfl rfl rfl (by first | rfl | assumption | omega | (simp; done) | (simp; omega) | (simp at *; omega)) (tyT rfl) (by first | rfl | assumption | exact map_at (by first | assumption | omega)) rfl rfl) ?_ | refine sops_pure gy rfl rfl (po_load_bx_ag rfl rfl (tyT rfl) rfl rfl rfl rfl) ?_ | refine sops_skip gn0 rfl rfl ?_ | refine sops_skip (.nou rfl rfl rfl) rfl rfl ?_))) <;> (first | refine sops_pure gy rfl rfl (po_load_bx_agg rfl rfl (tyT rfl) rfl (vc (vc .nil)) rfl) ?_ | refine sops_pure gy rfl rfl (po_load_agg rfl rfl (tyT rfl) rfl rfl) ?_ | refine sops_pure gy rfl rfl (po_load_own_agg rfl rfl rfl (by first | rfl | assumption | omega | (simp; done) | (simp; omega) | (simp at *; omega)) (tyT rfl) (by first | rfl | assumption | exact map_at (by first | assumption | omega)) rfl rfl) ?_ | refine sops_pure gy rfl rfl (po_load_bx_ag rfl rfl (tyT rfl) rfl rfl rfl rfl) ?_ | refine sops_skip gn0 rfl rfl ?_ | refine sops_skip (.nou rfl rfl rfl) rfl rfl ?_) <;> (first | refine sops_pure gy rfl rfl (po_ex2 rfl rfl rfl (head_Ex h) (head_Ex h) (hne_run false _ _ q0)) ?_ | refine sops_pure gy rfl rfl (po_boolq rfl rfl rfl (by kernel_rfl) (by first | exact .inl rfl | exact .inr rfl)) ?_ | refine sops_skip gn0 rfl rfl ?_ | refine sops_skip (.nou rfl rfl rfl) rfl rfl ?_) <;> (first | refine sops_pure gy rfl rfl (pkt rfl) ?_ | refine sops_pure gy rfl rfl (pkf rfl) ?_ | refine sops_skip gn1 rfl rfl ?_) <;> (first | refine sops_pure (.free rfl rfl) rfl rfl (pkt rfl) ?_ | refine sops_pure (.free rfl rfl) rfl rfl (pkf rfl) ?_) <;> (refine sops_nil ?_))
                | refine swp_ret ?_
                | refine swp_skip ?_
                | refine swp_block ?_
                | refine swp_exit ?_
                | refine block_go ?_
                | refine block_exit ?_
                | refine block_far rfl ?_
                | refine block_ret ?_
                | refine then_ret ?_
                | refine then_exit ?_
                | refine for_ret ?_
                | refine for_exit ?_
                | refine ct ?_
                | refine cf ?_
                | refine swp_cond rfl (fun hc => ?_) (fun hc => ?_)
                | refine retq (by first | exact .inr rfl | exact .inl rfl) rfl (.tmp rfl (by first | exact .t _ | exact .own rfl (by first | rfl | assumption | (simp; done) | (simp; omega)) | exact .nil _ | exact .emp _ | exact .fn _) .nil) ?_)
            · repeat' (first
                | refine then_go ?_
                | refine swp_seq ?_
                | refine join_go (weak_sub (.cons rfl rfl rfl .nil) .nil .nil)
                | ((refine swp_region (id := 10) ?_) <;> (refine sops_pure (.free rfl rfl) rfl rfl (po_move rfl rfl) ?_) <;> (refine sops_pure (.free rfl rfl) rfl rfl (po_move rfl rfl) ?_) <;> (first | refine sops_pure (.free rfl rfl) rfl rfl (po_len_own rfl rfl (tyS rfl)) ?_ | refine sops_pure (.free rfl rfl) rfl rfl (pln rfl (tyS rfl)) ?_) <;> (refine sops_pure (.free rfl rfl) rfl rfl (po_cmp rfl rfl rfl rfl) ?_) <;> (refine sops_pure (.free rfl rfl) rfl rfl (po_move rfl rfl) ?_) <;> (first | refine sops_pure gy rfl rfl (po_move rfl rfl) ?_ | refine sops_skip gn1 rfl rfl ?_ | ((refine sops_split rfl rfl rfl (fun hc => ?_) (fun hc => ?_)) <;> (first | refine sops_pure gy rfl rfl (po_move rfl rfl) ?_ | refine sops_skip gn1 rfl rfl ?_))) <;> (first | refine sops_pure (.free rfl rfl) rfl rfl (pkt rfl) ?_ | refine sops_pure (.free rfl rfl) rfl rfl (pkf rfl) ?_) <;> (refine sops_nil ?_))
                | ((refine swp_draw_all (id := 14) mixed (by kernel_rfl) (by kernel_rfl) ?_) <;> (refine sdraw_pure (.free rfl rfl) rfl (po_move rfl rfl) ?_) <;> (refine sdraw_pure (.free rfl rfl) rfl (po_bytes_str rfl rfl (by first | exact .t _ | exact .own rfl (by first | rfl | assumption | omega | (simp; done) | (simp; omega) | (simp at *; omega)) | exact .nil _ | exact .emp _) byt59 (tyR rfl)) ?_) <;> (refine sdraw_pure (.free rfl rfl) rfl (po_cat rfl rfl rfl (by omega)) ?_) <;> (refine sdraw_pure (.free rfl rfl) rfl (po_move rfl rfl) ?_) <;> (first | refine sdraw_pure (.free rfl rfl) rfl (po_call (ba) rfl (ac .nil)) ?_ | refine sdraw_pure (.free rfl rfl) rfl (po_call (bb) rfl (ac .nil)) ?_ | refine sdraw_pure (.free rfl rfl) rfl (po_call (c5) rfl (ac .nil)) ?_) <;> (refine sdraw_pure (.free rfl rfl) rfl (po_cat rfl rfl rfl (by omega)) ?_) <;> (first | refine sdraw_pure (.free rfl rfl) rfl (po_field_bx rfl rfl (tyF rfl)) ?_ | refine sdraw_pure (.free rfl rfl) rfl (po_field rfl rfl (tyF rfl)) ?_ | refine sdraw_pure (.free rfl rfl) rfl (po_field_own rfl rfl rfl (by first | rfl | assumption | omega | (simp; done) | (simp; omega) | (simp at *; omega)) (tyF rfl)) ?_) <;> (first | refine sdraw_pure (.free rfl rfl) rfl (po_load_bx rfl rfl (tyT rfl) rfl rfl) ?_ | refine sdraw_pure (.free rfl rfl) rfl (po_load rfl rfl (tyT rfl) rfl) ?_ | refine sdraw_pure (.free rfl rfl) rfl (po_load_own rfl rfl rfl (by first | rfl | assumption | omega | (simp; done) | (simp; omega) | (simp at *; omega)) (tyT rfl) (by first | rfl | assumption | exact map_at (by first | assumption | omega)) rfl) ?_) <;> (refine sdraw_pure (.free rfl rfl) rfl (po_cat rfl rfl rfl (by omega)) ?_) <;> (refine sdraw_pure (.free rfl rfl) rfl (po_move rfl rfl) ?_) <;> (first | refine sdraw_pure (.free rfl rfl) rfl (po_call (ba) rfl (ac .nil)) ?_ | refine sdraw_pure (.free rfl rfl) rfl (po_call (bb) rfl (ac .nil)) ?_ | refine sdraw_pure (.free rfl rfl) rfl (po_call (c5) rfl (ac .nil)) ?_) <;> (refine sdraw_pure (.free rfl rfl) rfl (po_cat rfl rfl rfl (by omega)) ?_) <;> (refine sdraw_pure (.free rfl rfl) rfl (po_assign rfl rfl) ?_) <;> (refine sdraw_nil ?_) <;> (refine sops_nil ?_))
                | ((refine swp_region (id := 15) ?_) <;> (refine sops_pure (.free rfl rfl) rfl rfl (po_move rfl rfl) ?_) <;> (first | refine sops_pure (.free rfl rfl) rfl rfl (po_call (ba) rfl (ac .nil)) ?_ | refine sops_pure (.free rfl rfl) rfl rfl (po_call (bb) rfl (ac .nil)) ?_ | refine sops_pure (.free rfl rfl) rfl rfl (po_call (c5) rfl (ac .nil)) ?_) <;> (refine sops_pure (.free rfl rfl) rfl rfl (po_move rfl rfl) ?_) <;> (first | refine sops_pure (.free rfl rfl) rfl rfl (po_extract rfl rfl rfl) ?_ | refine sops_pure (.free rfl rfl) rfl rfl (po_extract_tu rfl rfl rfl) ?_) <;> (first | refine sops_pure (.free rfl rfl) rfl rfl (po_extract rfl rfl rfl) ?_ | refine sops_pure (.free rfl rfl) rfl rfl (po_extract_tu rfl rfl rfl) ?_) <;> (refine sops_allocS str53 (.free rfl rfl) rfl rfl rfl rfl ?_) <;> (first | refine sops_store (.free rfl rfl) rfl rfl rfl rfl rfl rfl (tyT rfl) rfl rfl ?_ | refine sops_store_own (by rfl) (.free rfl rfl) rfl rfl rfl rfl (by first | rfl | assumption | omega | (simp; done) | (simp; omega) | (simp at *; omega)) rfl (by first | exact .t _ | exact .own rfl (by first | rfl | assumption | (simp; done) | (simp; omega)) | exact .nil _ | exact .emp _ | exact .fn _) rfl rfl (tyT rfl) rfl (by first | rfl | assumption | exact map_at (by first | assumption | omega)) rfl ?_) <;> (refine sops_pure (.free rfl rfl) rfl rfl (po_assign rfl rfl) ?_) <;> (refine sops_nil ?_))
                | ((refine swp_region (id := 16) ?_) <;> (refine sops_pure (.free rfl rfl) rfl rfl (po_move rfl rfl) ?_) <;> (first | refine sops_pure (.free rfl rfl) rfl rfl (po_len_own rfl rfl (tyS rfl)) ?_ | refine sops_pure (.free rfl rfl) rfl rfl (po_len_str rfl rfl (tyR rfl)) ?_) <;> (refine sops_pure (.free rfl rfl) rfl rfl (po_cmp rfl rfl rfl rfl) ?_) <;> (refine sops_pure (.free rfl rfl) rfl rfl (po_move rfl rfl) ?_) <;> (first | refine sops_pure gy rfl rfl (po_move rfl rfl) ?_ | refine sops_skip gn1 rfl rfl ?_ | ((refine sops_split rfl rfl rfl (fun hc => ?_) (fun hc => ?_)) <;> (first | refine sops_pure gy rfl rfl (po_move rfl rfl) ?_ | refine sops_skip gn1 rfl rfl ?_))) <;> (first | refine sops_pure gy rfl rfl (po_cmp rfl rfl rfl rfl) ?_ | refine sops_skip gn1 rfl rfl ?_) <;> (first | refine sops_pure gy rfl rfl (po_move rfl rfl) ?_ | refine sops_skip gn1 rfl rfl ?_) <;> (first | refine sops_pure gy rfl rfl (po_load_bx_agg rfl rfl (tyT rfl) rfl (vc (vc .nil)) rfl) ?_ | refine sops_pure gy rfl rfl (po_load_agg rfl rfl (tyT rfl) rfl rfl) ?_ | refine sops_pure gy rfl rfl (po_load_own_agg rfl rfl rfl (by first | rfl | assumption | omega | (simp; done) | (simp; omega) | (simp at *; omega)) (tyT rfl) (by first | rfl | assumption | exact map_at (by first | assumption | omega)) rfl rfl) ?_ | refine sops_pure gy rfl rfl (po_load_bx_ag rfl rfl (tyT rfl) rfl rfl rfl rfl) ?_ | refine sops_skip gn0 rfl rfl ?_ | refine sops_skip (.nou rfl rfl rfl) rfl rfl ?_ | ((refine sops_split rfl rfl rfl (fun hc => ?_) (fun hc => ?_)) <;> (first | refine sops_pure gy rfl rfl (po_load_bx_agg rfl rfl (tyT rfl) rfl (vc (vc .nil)) rfl) ?_ | refine sops_pure gy rfl rfl (po_load_agg rfl rfl (tyT rfl) rfl rfl) ?_ | refine sops_pure gy rfl rfl (po_load_own_agg rfl rfl rfl (by first | rfl | assumption | omega | (simp; done) | (simp; omega) | (simp at *; omega)) (tyT rfl) (by first | rfl | assumption | exact map_at (by first | assumption | omega)) rfl rfl) ?_ | refine sops_pure gy rfl rfl (po_load_bx_ag rfl rfl (tyT rfl) rfl rfl rfl rfl) ?_ | refine sops_skip gn0 rfl rfl ?_ | refine sops_skip (.nou rfl rfl rfl) rfl rfl ?_))) <;> (first | refine sops_pure gy rfl rfl (po_load_bx_agg rfl rfl (tyT rfl) rfl (vc (vc .nil)) rfl) ?_ | refine sops_pure gy rfl rfl (po_load_agg rfl rfl (tyT rfl) rfl rfl) ?_ | refine sops_pure gy rfl rfl (po_load_own_agg rfl rfl rfl (by first | rfl | assumption | omega | (simp; done) | (simp; omega) | (simp at *; omega)) (tyT rfl) (by first | rfl | assumption | exact map_at (by first | assumption | omega)) rfl rfl) ?_ | refine sops_pure gy rfl rfl (po_load_bx_ag rfl rfl (tyT rfl) rfl rfl rfl rfl) ?_ | refine sops_skip gn0 rfl rfl ?_ | refine sops_skip (.nou rfl rfl rfl) rfl rfl ?_) <;> (first | refine sops_pure gy rfl rfl (po_boolq rfl rfl rfl (by kernel_rfl) (by first | exact .inl rfl | exact .inr rfl)) ?_ | refine sops_skip gn0 rfl rfl ?_ | refine sops_skip (.nou rfl rfl rfl) rfl rfl ?_) <;> (first | refine sops_pure gy rfl rfl (pkt rfl) ?_ | refine sops_pure gy rfl rfl (pkf rfl) ?_ | refine sops_skip gn1 rfl rfl ?_) <;> (first | refine sops_pure (.free rfl rfl) rfl rfl (pkt rfl) ?_ | refine sops_pure (.free rfl rfl) rfl rfl (pkf rfl) ?_) <;> (refine sops_nil ?_))
                | refine swp_ret ?_
                | refine swp_skip ?_
                | refine swp_block ?_
                | refine swp_exit ?_
                | refine block_go ?_
                | refine block_exit ?_
                | refine block_far rfl ?_
                | refine block_ret ?_
                | refine then_ret ?_
                | refine then_exit ?_
                | refine for_ret ?_
                | refine for_exit ?_
                | refine ct ?_
                | refine cf ?_
                | refine swp_cond rfl (fun hc => ?_) (fun hc => ?_)
                | refine retq (by first | exact .inr rfl | exact .inl rfl) rfl (.tmp rfl (by first | exact .t _ | exact .own rfl (by first | rfl | assumption | (simp; done) | (simp; omega)) | exact .nil _ | exact .emp _ | exact .fn _) .nil) ?_)
      · repeat' (first
          | refine then_go ?_
          | refine swp_seq ?_
          | refine join_go (weak_sub (.cons rfl rfl rfl .nil) .nil .nil)
          | ((refine swp_region (id := 0) ?_) <;> (refine sops_box (.free rfl rfl) rfl rfl rfl rfl rfl rfl ?_) <;> (refine sops_pure (.free rfl rfl) rfl rfl (po_assign rfl rfl) ?_) <;> (refine sops_nil ?_))
          | refine swp_ret ?_
          | refine swp_skip ?_
          | refine swp_block ?_
          | refine swp_exit ?_
          | refine block_go ?_
          | refine block_exit ?_
          | refine block_far rfl ?_
          | refine block_ret ?_
          | refine then_ret ?_
          | refine then_exit ?_
          | refine for_ret ?_
          | refine for_exit ?_
          | refine ct ?_
          | refine cf ?_
          | refine swp_cond rfl (fun hc => ?_) (fun hc => ?_)
          | refine retq (by first | exact .inr rfl | exact .inl rfl) rfl (.tmp rfl (by first | exact .t _ | exact .own rfl (by first | rfl | assumption | (simp; done) | (simp; omega)) | exact .nil _ | exact .emp _ | exact .fn _) .nil) ?_)
    · have c6 := read_ s hs
      rcases readH_good s with ⟨r1, r2⟩ | ⟨r1, r2⟩
      · generalize readH s = r at *
        have ok := good_ok r2
        have li2 := line_ r.1 ok
        rw [r2, if_pos rfl] at li2
        have hz := good_size r2
        have hls : (lineS r.1).size ≤ maxLen := by
          unfold lineS maxLen; rw [ByteArray.size_append, ByteArray.size_append]; have := sz2; omega
        have c7 := read_ (lineS r.1) hls
        rw [read_back r2] at c7
        replace c7 : PCalls Tryd.prog 31 _ (.tup [.agg (headT r.1), .v (.int .i64 0)]) := c7
        have e0 : (!decide (r.2 = 0)) = false := by simp [r1]
        have q1 : heqB r.1 r.1 = true := (heqB_iff _ _).2 rfl
        repeat' (first
          | refine then_go ?_
          | refine swp_seq ?_
          | ((refine swp_region (id := 18) ?_) <;> (refine sops_pure (.free rfl rfl) rfl rfl (po_move rfl rfl) ?_) <;> (first | refine sops_pure (.free rfl rfl) rfl rfl (po_call (c6) rfl (ac .nil)) ?_ | refine sops_pure (.free rfl rfl) rfl rfl (po_call (li2) rfl (ac .nil)) ?_ | refine sops_pure (.free rfl rfl) rfl rfl (po_call (c7) rfl (ac .nil)) ?_ | refine sops_pure (.free rfl rfl) rfl rfl (po_call (ca) rfl (ac .nil)) ?_) <;> (refine sops_pure (.free rfl rfl) rfl rfl (po_move rfl rfl) ?_) <;> (refine sops_pure (.free rfl rfl) rfl rfl (po_extract rfl rfl rfl) ?_) <;> (refine sops_pure (.free rfl rfl) rfl rfl (po_extract rfl rfl rfl) ?_) <;> (refine sops_allocS str53 (.free rfl rfl) rfl rfl rfl rfl ?_) <;> (refine sops_store (.free rfl rfl) rfl rfl rfl rfl rfl rfl (tyT rfl) rfl rfl ?_) <;> (refine sops_pure (.free rfl rfl) rfl rfl (po_assign rfl rfl) ?_) <;> (refine sops_nil ?_))
          | ((refine swp_region (id := 19) ?_) <;> (refine sops_pure (.free rfl rfl) rfl rfl (po_move rfl rfl) ?_) <;> (first | refine sops_pure (.free rfl rfl) rfl rfl (po_ex2 rfl rfl rfl (head_Ex r.1) (head_Ex r.1) (heq_run true _ _ q1)) ?_ | refine sops_pure (.free rfl rfl) rfl rfl (po_cmp rfl rfl rfl rfl) ?_) <;> (refine sops_nil ?_))
          | ((refine swp_region (id := 21) ?_) <;> (first | refine sops_pure (.free rfl rfl) rfl rfl (po_load_bx_agg rfl rfl (tyT rfl) rfl (vc (vc .nil)) rfl) ?_ | refine sops_pure (.free rfl rfl) rfl rfl (po_load_agg rfl rfl (tyT rfl) rfl rfl) ?_) <;> (first | refine sops_pure (.free rfl rfl) rfl rfl (po_call (c6) rfl (ac .nil)) ?_ | refine sops_pure (.free rfl rfl) rfl rfl (po_call (li2) rfl (ac .nil)) ?_ | refine sops_pure (.free rfl rfl) rfl rfl (po_call (c7) rfl (ac .nil)) ?_ | refine sops_pure (.free rfl rfl) rfl rfl (po_call (ca) rfl (ac .nil)) ?_) <;> (refine sops_pure (.free rfl rfl) rfl rfl (po_move rfl rfl) ?_) <;> (refine sops_pure (.free rfl rfl) rfl rfl (po_extract rfl rfl rfl) ?_) <;> (refine sops_pure (.free rfl rfl) rfl rfl (po_extract rfl rfl rfl) ?_) <;> (refine sops_pure (.free rfl rfl) rfl rfl (po_assign rfl rfl) ?_) <;> (refine sops_pure (.free rfl rfl) rfl rfl (po_assign rfl rfl) ?_) <;> (refine sops_nil ?_))
          | ((refine swp_region (id := 22) ?_) <;> (refine sops_pure (.free rfl rfl) rfl rfl (po_move rfl rfl) ?_) <;> (first | refine sops_pure (.free rfl rfl) rfl rfl (po_call (c6) rfl (ac .nil)) ?_ | refine sops_pure (.free rfl rfl) rfl rfl (po_call (li2) rfl (ac .nil)) ?_ | refine sops_pure (.free rfl rfl) rfl rfl (po_call (c7) rfl (ac .nil)) ?_ | refine sops_pure (.free rfl rfl) rfl rfl (po_call (ca) rfl (ac .nil)) ?_) <;> (refine sops_pure (.free rfl rfl) rfl rfl (po_move rfl rfl) ?_) <;> (refine sops_pure (.free rfl rfl) rfl rfl (po_extract rfl rfl rfl) ?_) <;> (refine sops_pure (.free rfl rfl) rfl rfl (po_extract rfl rfl rfl) ?_) <;> (refine sops_allocS str53 (.free rfl rfl) rfl rfl rfl rfl ?_) <;> (refine sops_store (.free rfl rfl) rfl rfl rfl rfl rfl rfl (tyT rfl) rfl rfl ?_) <;> (refine sops_pure (.free rfl rfl) rfl rfl (po_assign rfl rfl) ?_) <;> (refine sops_nil ?_))
          | ((refine swp_region (id := 23) ?_) <;> (refine sops_pure (.free rfl rfl) rfl rfl (po_move rfl rfl) ?_) <;> (first | refine sops_pure (.free rfl rfl) rfl rfl (po_ex2 rfl rfl rfl (head_Ex r.1) (head_Ex r.1) (heq_run true _ _ q1)) ?_ | refine sops_pure (.free rfl rfl) rfl rfl (po_cmp rfl rfl rfl rfl) ?_) <;> (refine sops_pure (.free rfl rfl) rfl rfl (po_move rfl rfl) ?_) <;> (first | refine sops_pure gy rfl rfl (po_move rfl rfl) ?_ | refine sops_skip gn1 rfl rfl ?_ | ((refine sops_split rfl rfl rfl (fun hc => ?_) (fun hc => ?_)) <;> (first | refine sops_pure gy rfl rfl (po_move rfl rfl) ?_ | refine sops_skip gn1 rfl rfl ?_))) <;> (first | refine sops_pure gy rfl rfl (po_ex2 rfl rfl rfl (head_Ex r.1) (head_Ex r.1) (heq_run true _ _ q1)) ?_ | refine sops_pure gy rfl rfl (po_cmp rfl rfl rfl rfl) ?_ | refine sops_skip gn1 rfl rfl ?_) <;> (first | refine sops_pure (.free rfl rfl) rfl rfl (pkt rfl) ?_ | refine sops_pure (.free rfl rfl) rfl rfl (pkf rfl) ?_) <;> (refine sops_pure (.free rfl rfl) rfl rfl (po_move rfl rfl) ?_) <;> (first | refine sops_pure gy rfl rfl (po_load_bx_agg rfl rfl (tyT rfl) rfl (vc (vc .nil)) rfl) ?_ | refine sops_pure gy rfl rfl (po_load_agg rfl rfl (tyT rfl) rfl rfl) ?_ | refine sops_skip gn1 rfl rfl ?_ | ((refine sops_split rfl rfl rfl (fun hc => ?_) (fun hc => ?_)) <;> (first | refine sops_pure gy rfl rfl (po_load_bx_agg rfl rfl (tyT rfl) rfl (vc (vc .nil)) rfl) ?_ | refine sops_pure gy rfl rfl (po_load_agg rfl rfl (tyT rfl) rfl rfl) ?_ | refine sops_skip gn1 rfl rfl ?_))) <;> (first | refine sops_pure gy rfl rfl (po_load_bx_agg rfl rfl (tyT rfl) rfl (vc (vc .nil)) rfl) ?_ | refine sops_pure gy rfl rfl (po_load_agg rfl rfl (tyT rfl) rfl rfl) ?_ | refine sops_skip gn1 rfl rfl ?_) <;> (first | refine sops_pure gy rfl rfl (po_ex2 rfl rfl rfl (head_Ex r.1) (head_Ex r.1) (heq_run true _ _ q1)) ?_ | refine sops_pure gy rfl rfl (po_boolq rfl rfl rfl (by kernel_rfl) (by first | exact .inl rfl | exact .inr rfl)) ?_ | refine sops_skip gn1 rfl rfl ?_) <;> (first | refine sops_pure (.free rfl rfl) rfl rfl (pkt rfl) ?_ | refine sops_pure (.free rfl rfl) rfl rfl (pkf rfl) ?_) <;> (refine sops_pure (.free rfl rfl) rfl rfl (po_move rfl rfl) ?_) <;> (first | refine sops_pure gy rfl rfl (po_call (c6) rfl .nil) ?_ | refine sops_pure gy rfl rfl (po_call (li2) rfl .nil) ?_ | refine sops_pure gy rfl rfl (po_call (c7) rfl .nil) ?_ | refine sops_pure gy rfl rfl (po_call (ca) rfl .nil) ?_ | refine sops_skip gn1 rfl rfl ?_ | ((refine sops_split rfl rfl rfl (fun hc => ?_) (fun hc => ?_)) <;> (first | refine sops_pure gy rfl rfl (po_call (c6) rfl .nil) ?_ | refine sops_pure gy rfl rfl (po_call (li2) rfl .nil) ?_ | refine sops_pure gy rfl rfl (po_call (c7) rfl .nil) ?_ | refine sops_pure gy rfl rfl (po_call (ca) rfl .nil) ?_ | refine sops_skip gn1 rfl rfl ?_))) <;> (first | refine sops_pure (.free rfl rfl) rfl rfl (pkt rfl) ?_ | refine sops_pure (.free rfl rfl) rfl rfl (pkf rfl) ?_) <;> (refine sops_pure (.free rfl rfl) rfl rfl (po_assign rfl rfl) ?_) <;> (refine sops_nil ?_))
          | refine swp_ret ?_
          | refine swp_skip ?_
          | refine swp_block ?_
          | refine swp_exit ?_
          | refine block_go ?_
          | refine block_exit ?_
          | refine block_far rfl ?_
          | refine block_ret ?_
          | refine then_ret ?_
          | refine then_exit ?_
          | refine for_ret ?_
          | refine for_exit ?_
          | refine ct ?_
          | refine cf ?_
          | refine swp_cond rfl (fun hc => ?_) (fun hc => ?_)
          | refine retq (by first | exact .inr rfl | exact .inl rfl) rfl (.tmp rfl (by first | exact .t _ | exact .own rfl (by first | rfl | assumption | (simp; done) | (simp; omega)) | exact .nil _ | exact .emp _ | exact .fn _) .nil) ?_)
        rfl
      · generalize readH s = r at *
        have e0 : (!decide (r.2 = 0)) = true := by simp [r1]
        rw [show readT r = .tup [.agg (headT head0), .v (.int .i64 r.2)] by unfold readT; rw [r2]] at c6
        have q1 : heqB head0 head0 = true := (heqB_iff _ _).2 rfl
        repeat' (first
          | refine then_go ?_
          | refine swp_seq ?_
          | ((refine swp_region (id := 18) ?_) <;> (refine sops_pure (.free rfl rfl) rfl rfl (po_move rfl rfl) ?_) <;> (first | refine sops_pure (.free rfl rfl) rfl rfl (po_call (c6) rfl (ac .nil)) ?_ | refine sops_pure (.free rfl rfl) rfl rfl (po_call (ca) rfl (ac .nil)) ?_) <;> (refine sops_pure (.free rfl rfl) rfl rfl (po_move rfl rfl) ?_) <;> (refine sops_pure (.free rfl rfl) rfl rfl (po_extract rfl rfl rfl) ?_) <;> (refine sops_pure (.free rfl rfl) rfl rfl (po_extract rfl rfl rfl) ?_) <;> (refine sops_allocS str53 (.free rfl rfl) rfl rfl rfl rfl ?_) <;> (refine sops_store (.free rfl rfl) rfl rfl rfl rfl rfl rfl (tyT rfl) rfl rfl ?_) <;> (refine sops_pure (.free rfl rfl) rfl rfl (po_assign rfl rfl) ?_) <;> (refine sops_nil ?_))
          | ((refine swp_region (id := 19) ?_) <;> (refine sops_pure (.free rfl rfl) rfl rfl (po_move rfl rfl) ?_) <;> (first | refine sops_pure (.free rfl rfl) rfl rfl (po_ex2 rfl rfl rfl (head_Ex head0) (head_Ex head0) (heq_run true _ _ q1)) ?_ | refine sops_pure (.free rfl rfl) rfl rfl (po_cmp rfl rfl rfl rfl) ?_) <;> (refine sops_nil ?_))
          | ((refine swp_region (id := 20) ?_) <;> (first | refine sops_pure (.free rfl rfl) rfl rfl (po_load_bx_agg rfl rfl (tyT rfl) rfl (vc (vc .nil)) rfl) ?_ | refine sops_pure (.free rfl rfl) rfl rfl (po_load_agg rfl rfl (tyT rfl) rfl rfl) ?_) <;> (refine sops_pure (.free rfl rfl) rfl rfl (po_buildS str53 rfl .nil rfl) ?_) <;> (first | refine sops_pure (.free rfl rfl) rfl rfl (po_ex2 rfl rfl rfl (head_Ex head0) (head_Ex head0) (heq_run true _ _ q1)) ?_ | refine sops_pure (.free rfl rfl) rfl rfl (po_boolq rfl rfl rfl (by kernel_rfl) (by first | exact .inl rfl | exact .inr rfl)) ?_) <;> (refine sops_pure (.free rfl rfl) rfl rfl (po_move rfl rfl) ?_) <;> (first | refine sops_pure gy rfl rfl (po_call (c6) rfl .nil) ?_ | refine sops_pure gy rfl rfl (po_call (ca) rfl .nil) ?_ | refine sops_skip gn1 rfl rfl ?_ | ((refine sops_split rfl rfl rfl (fun hc => ?_) (fun hc => ?_)) <;> (first | refine sops_pure gy rfl rfl (po_call (c6) rfl .nil) ?_ | refine sops_pure gy rfl rfl (po_call (ca) rfl .nil) ?_ | refine sops_skip gn1 rfl rfl ?_))) <;> (first | refine sops_pure (.free rfl rfl) rfl rfl (pkt rfl) ?_ | refine sops_pure (.free rfl rfl) rfl rfl (pkf rfl) ?_) <;> (refine sops_pure (.free rfl rfl) rfl rfl (po_assign rfl rfl) ?_) <;> (refine sops_nil ?_))
          | refine swp_ret ?_
          | refine swp_skip ?_
          | refine swp_block ?_
          | refine swp_exit ?_
          | refine block_go ?_
          | refine block_exit ?_
          | refine block_far rfl ?_
          | refine block_ret ?_
          | refine then_ret ?_
          | refine then_exit ?_
          | refine for_ret ?_
          | refine for_exit ?_
          | refine ct ?_
          | refine cf ?_
          | refine swp_cond rfl (fun hc => ?_) (fun hc => ?_)
          | refine retq (by first | exact .inr rfl | exact .inl rfl) rfl (.tmp rfl (by first | exact .t _ | exact .own rfl (by first | rfl | assumption | (simp; done) | (simp; omega)) | exact .nil _ | exact .emp _ | exact .fn _) .nil) ?_)
        rfl
  · have hcs : 2000 < s.size ∨ (s.size ≤ 2000 ∧ (a < 0 ∨ (0 ≤ a ∧ (20 < a ∨ (a ≤ 20 ∧ (b < 0 ∨ (0 ≤ b ∧ 20 < b))))))) := by omega
    rcases hcs with h2 | ⟨h2, h3 | ⟨h3, h4 | ⟨h4, h5 | ⟨h5, h6⟩⟩⟩⟩
    all_goals
      repeat' (first
        | refine then_go ?_
        | refine swp_seq ?_
        | ((refine swp_region (id := 0) ?_) <;> (refine sops_box (.free rfl rfl) rfl rfl rfl rfl rfl rfl ?_) <;> (refine sops_pure (.free rfl rfl) rfl rfl (po_assign rfl rfl) ?_) <;> (refine sops_nil ?_))
        | ((refine swp_region (id := 1) ?_) <;> (first | refine sops_pure (.free rfl rfl) rfl rfl (po_load_bx_agg rfl rfl (tyT rfl) rfl (vc (vc .nil)) rfl) ?_ | refine sops_pure (.free rfl rfl) rfl rfl (po_load_agg rfl rfl (tyT rfl) rfl rfl) ?_) <;> (refine sops_pure (.free rfl rfl) rfl rfl (po_buildSlice rfl (tyE rfl) (dc (.nil _)) rfl rfl rfl) ?_) <;> (first | refine sops_pure (.free rfl rfl) rfl rfl (po_call (c1) rfl (ac .nil)) ?_ | refine sops_pure (.free rfl rfl) rfl rfl (po_call (ca) rfl (ac .nil)) ?_) <;> (refine sops_pure (.free rfl rfl) rfl rfl (po_move rfl rfl) ?_) <;> (first | refine sops_pure gy rfl rfl (po_move rfl rfl) ?_ | refine sops_skip gn0 rfl rfl ?_ | ((refine sops_split rfl rfl rfl (fun hc => ?_) (fun hc => ?_)) <;> (first | refine sops_pure gy rfl rfl (po_move rfl rfl) ?_ | refine sops_skip gn0 rfl rfl ?_))) <;> (first | refine sops_pure gy rfl rfl (po_len_str rfl rfl (tyR rfl)) ?_ | refine sops_skip gn0 rfl rfl ?_) <;> (first | refine sops_pure gy rfl rfl (po_cmp rfl rfl rfl rfl) ?_ | refine sops_skip gn0 rfl rfl ?_) <;> (first | refine sops_pure (.free rfl rfl) rfl rfl (pkt rfl) ?_ | refine sops_pure (.free rfl rfl) rfl rfl (pkf rfl) ?_) <;> (refine sops_pure (.free rfl rfl) rfl rfl (po_move rfl rfl) ?_) <;> (first | refine sops_pure gy rfl rfl (po_move rfl rfl) ?_ | refine sops_skip gn0 rfl rfl ?_ | ((refine sops_split rfl rfl rfl (fun hc => ?_) (fun hc => ?_)) <;> (first | refine sops_pure gy rfl rfl (po_move rfl rfl) ?_ | refine sops_skip gn0 rfl rfl ?_))) <;> (first | refine sops_pure gy rfl rfl (po_cmp rfl rfl rfl rfl) ?_ | refine sops_skip gn0 rfl rfl ?_) <;> (first | refine sops_pure (.free rfl rfl) rfl rfl (pkt rfl) ?_ | refine sops_pure (.free rfl rfl) rfl rfl (pkf rfl) ?_) <;> (refine sops_pure (.free rfl rfl) rfl rfl (po_move rfl rfl) ?_) <;> (first | refine sops_pure gy rfl rfl (po_move rfl rfl) ?_ | refine sops_skip gn0 rfl rfl ?_ | ((refine sops_split rfl rfl rfl (fun hc => ?_) (fun hc => ?_)) <;> (first | refine sops_pure gy rfl rfl (po_move rfl rfl) ?_ | refine sops_skip gn0 rfl rfl ?_))) <;> (first | refine sops_pure gy rfl rfl (po_cmp rfl rfl rfl rfl) ?_ | refine sops_skip gn0 rfl rfl ?_) <;> (first | refine sops_pure (.free rfl rfl) rfl rfl (pkt rfl) ?_ | refine sops_pure (.free rfl rfl) rfl rfl (pkf rfl) ?_) <;> (refine sops_pure (.free rfl rfl) rfl rfl (po_move rfl rfl) ?_) <;> (first | refine sops_pure gy rfl rfl (po_move rfl rfl) ?_ | refine sops_skip gn0 rfl rfl ?_ | ((refine sops_split rfl rfl rfl (fun hc => ?_) (fun hc => ?_)) <;> (first | refine sops_pure gy rfl rfl (po_move rfl rfl) ?_ | refine sops_skip gn0 rfl rfl ?_))) <;> (first | refine sops_pure gy rfl rfl (po_cmp rfl rfl rfl rfl) ?_ | refine sops_skip gn0 rfl rfl ?_) <;> (first | refine sops_pure (.free rfl rfl) rfl rfl (pkt rfl) ?_ | refine sops_pure (.free rfl rfl) rfl rfl (pkf rfl) ?_) <;> (refine sops_pure (.free rfl rfl) rfl rfl (po_move rfl rfl) ?_) <;> (first | refine sops_pure gy rfl rfl (po_move rfl rfl) ?_ | refine sops_skip gn0 rfl rfl ?_ | ((refine sops_split rfl rfl rfl (fun hc => ?_) (fun hc => ?_)) <;> (first | refine sops_pure gy rfl rfl (po_move rfl rfl) ?_ | refine sops_skip gn0 rfl rfl ?_))) <;> (first | refine sops_pure gy rfl rfl (po_cmp rfl rfl rfl rfl) ?_ | refine sops_skip gn0 rfl rfl ?_) <;> (first | refine sops_pure (.free rfl rfl) rfl rfl (pkt rfl) ?_ | refine sops_pure (.free rfl rfl) rfl rfl (pkf rfl) ?_) <;> (refine sops_nil ?_))
        | ((refine swp_region (id := 2) ?_) <;> (first | refine sops_pure (.free rfl rfl) rfl rfl (po_call (c1) rfl .nil) ?_ | refine sops_pure (.free rfl rfl) rfl rfl (po_call (ca) rfl .nil) ?_) <;> (refine sops_pure (.free rfl rfl) rfl rfl (po_assign rfl rfl) ?_) <;> (refine sops_nil ?_))
        | refine swp_ret ?_
        | refine swp_skip ?_
        | refine swp_block ?_
        | refine swp_exit ?_
        | refine block_go ?_
        | refine block_exit ?_
        | refine block_far rfl ?_
        | refine block_ret ?_
        | refine then_ret ?_
        | refine then_exit ?_
        | refine for_ret ?_
        | refine for_exit ?_
        | refine ct ?_
        | refine cf ?_
        | refine swp_cond rfl (fun hc => ?_) (fun hc => ?_)
        | refine retq (by first | exact .inr rfl | exact .inl rfl) rfl (.tmp rfl (by first | exact .t _ | exact .own rfl (by first | rfl | assumption | (simp; done) | (simp; omega)) | exact .nil _ | exact .emp _ | exact .fn _) .nil) ?_)
      rfl
theorem walk (n x s : ByteArray) (a b : Int) (large : Bool) (w : World) (hn : n.size ≤ maxLen) (hx : x.size ≤ maxLen) (hs : s.size ≤ maxLen) :
    Calls Tryd.prog 9 #[.agg #[.string n, .string x], .string s, .int .i64 a, .int .i64 b, .bool large] w fun e w' => e = .returned (.bool true) ∧ Lo w w' :=
  (law_ ⟨n, x⟩ ⟨hn, hx⟩ s hs a b large).law w _ rfl fun i t v' h1 h2 => by
    match i, h1, h2 with
    | 0, h1, h2 => simp at h1 h2; subst h1 h2; exact agg_bwd (vs := [_, _]) (cellsAre_cons (.v _) rfl (cellsAre_cons (.v _) rfl (cellsAre_nil _)))
    | 1, h1, h2 => simp at h1 h2; subst h1 h2; exact .v _
    | 2, h1, h2 => simp at h1 h2; subst h1 h2; exact .v _
    | 3, h1, h2 => simp at h1 h2; subst h1 h2; exact .v _
    | 4, h1, h2 => simp at h1 h2; subst h1 h2; exact .v _
end Go.Proofs.YtcpbdcamfhoiaaaDoor.HeadsBack
