/- Merged by bundles.py: SimTrim, SimTrim2. -/
import Derived.Test.YtpncekdhigappaaGreatDoorK13
/- strings.Trim at letters of ASCII: walks. -/
namespace Go.Proofs.YtpncekdhigappaaGreatDoor.Str
set_option linter.unusedVariables false
set_option linter.unusedSimpArgs false
open Go.RowKit Mem Sim
theorem arr203 : arrI Tryz.prog 203 = some (256, 1) := by kernel_rfl
theorem zero203 : (Tryz.prog.info? 203).bind (·.zero) = some (.agg (Array.replicate 256 (.bool false))) := by kernel_rfl
theorem rep_cells (v : Value) : (Value.agg (Array.replicate 256 v)).cells.toList = List.replicate 256 v := by
  show (Array.replicate 256 v).toList = _
  rw [Array.toList_replicate]
/-- is a byte one of these? -/
def inB (cs : List UInt8) (b : UInt8) : Bool := cs.any fun x => x.toNat == b.toNat
def setF (cs : List UInt8) (i : Nat) : Value := .bool (cs.any fun x => x.toNat == i)
theorem setF_next (cs : List UInt8) {k : Nat} (h : k < cs.length) : arrA (fun j => if j = cs[k].toNat then .bool true else setF (cs.take k) j) = arrA (setF (cs.take (k + 1))) := by
  refine arrA_congr fun i _ => ?_
  show (if i = cs[k].toNat then Value.bool true else .bool ((cs.take k).any fun x => x.toNat == i)) = .bool ((cs.take (k + 1)).any fun x => x.toNat == i)
  rw [List.take_succ_eq_append_getElem h, List.any_append]
  by_cases hi : i = cs[k].toNat
  · rw [if_pos hi]; simp [hi]
  · rw [if_neg hi]; simp [Ne.symm hi]
theorem bs_getElem (l : List UInt8) {k : Nat} (h : k < (bs l).size) : (bs l)[k] = l[k]'(by rw [bs_size] at h; exact h) := by
  have h1 := toList_get (bs l) k h
  rw [bs_toList, List.getElem?_eq_getElem (by rw [bs_size] at h; exact h)] at h1
  exact (Option.some.inj h1).symm
theorem bs_extract (l : List UInt8) (a b : Nat) : (bs l).extract a b = bs ((l.take b).drop a) := by
  refine bs_inj ?_
  rw [bs_toList, ByteArray.toList_eq, ByteArray.data_extract]
  simp only [bs, Array.toList_extract, List.extract_eq_take_drop]
  rw [List.drop_take]
theorem u8_lt (b : UInt8) : b.toNat < 256 := b.toNat_lt
set_option maxRecDepth 100000 in
theorem contains_ (cs : List UInt8) (c : UInt8) : LCalls Tryz.prog 183 [.bp 2000 0, .t (.v (.int .u8 (c.toNat : Int)))] [(2000, arrA (setF cs))] [] (.t (.v (setF cs c.toNat))) [(2000, arrA (setF cs))] [] := by
  have hc := u8_lt c
  refine lcalls_of Tryz.func183 rfl rfl Tryz.ntmps183 rfl ?_
  repeat' (first | refine then_go ?_ | refine swp_seq ?_ | (refine rg 0 ?_; refine oAs ?_; refine oN ?_) | (refine rg 1 ?_; refine oMv ?_; refine oMv ?_; refine sp (po_nilcheck rfl rfl) ?_; (first | refine sp (po_index_arr rfl rfl rfl arr203 rfl hc) ?_ | refine sp (po_index_own rfl rfl rfl (by first | rfl | assumption | omega | (simp; done) | (simp; omega) | (simp at *; omega)) rfl (tyS rfl) (by first | rfl | omega) (by first | assumption | omega)) ?_ | refine sp (pix rfl (tyS rfl)) ?_); (first | refine sp (po_load_at (tyT rfl) hc rfl rfl rfl rfl) ?_ | refine oLb ?_ | refine oLd ?_ | refine sp (po_load_own rfl rfl rfl (by first | rfl | assumption | omega | (simp; done) | (simp; omega) | (simp at *; omega)) (tyT rfl) (by first | rfl | assumption | exact map_at (by first | assumption | omega)) rfl) ?_); refine oAs ?_; refine oN ?_) | refine gc ?_ | refine ct ?_ | refine cf ?_ | refine swp_cond rfl (fun hc => ?_) (fun hc => ?_) | exact retl1 (by first | exact .inr rfl | exact .inl rfl) rfl (.tmp rfl rfl .nil) rfl (.cons rfl (by first | rfl | assumption | (symm; assumption)) rfl .nil) .nil | refine retl (by first | exact .inr rfl | exact .inl rfl) rfl (.tmp rfl rfl .nil) ?_ rfl (.cons rfl (by first | rfl | assumption | (symm; assumption)) rfl .nil) .nil)
set_option maxRecDepth 100000 in
theorem makeASCIISet_ (cs : List UInt8) (hn : cs.length ≤ 1000) (ha : ∀ b ∈ cs, b.toNat < 128) : PCalls Tryz.prog 177 [.v (.string (bs cs))] (.tup [.agg (arrT (setF cs)), .v (.bool true)]) := by
  have hsz := bs_size cs
  refine pcalls_of Tryz.func177 rfl rfl Tryz.ntmps177 rfl ?_
  repeat' (first | refine then_go ?_ | refine swp_seq ?_ | (refine rg 0 ?_; (first | refine sops_alloc_256 zero203 (rep_cells _) rfl (.free rfl rfl) rfl rfl rfl rfl ?_ | refine sal str203 ?_); refine oAs ?_; refine oN ?_) | (refine rg 1 ?_; refine oAs ?_; refine oN ?_) | refine gc ?_ | refine ct ?_ | refine cf ?_ | refine swp_cond rfl (fun hc => ?_) (fun hc => ?_) | refine rq rfl (.cell rfl rfl (tyT rfl) (by first | exact vwl_arr0 _ | exact vwl_arr _ | exact vwl_spl _ _) rfl (rt .nil)) ?_)
  refine swp_for (fun k => ⟨[(0, .t (.v (.string (bs cs)))), (2, .bp 2 0), (4, .t (.v (.int .i64 (k : Int))))], [(2, arrA (setF (cs.take k)))], []⟩) (fun _ => True) cs.length (weak_sub (.cons rfl rfl rfl (.cons rfl rfl rfl (.cons rfl rfl rfl .nil))) (.cons rfl rfl rfl .nil) .nil) trivial ?_
  intro k hk _
  by_cases hlt : k < cs.length
  · have hlt' : k < (bs cs).size := by omega
    have hnext := setF_next cs hlt
    have hlow := ha _ (List.getElem_mem hlt)
    have hg := bs_getElem cs hlt'
    have h256 := u8_lt ((bs cs)[k])
    rw [← hg] at hnext hlow
    repeat' (first | refine then_go ?_ | refine swp_seq ?_ | refine for_next hlt (weak_sub (.cons rfl (by first | rfl | (exact hnext)) rfl (.cons rfl (by first | rfl | (exact hnext)) rfl (.cons rfl (by first | rfl | (exact hnext)) rfl .nil))) (.cons rfl (by first | rfl | (exact hnext)) rfl .nil) .nil) trivial | (refine rg 2 ?_; refine oMv ?_; refine oMv ?_; refine sp (po_len_str rfl rfl (tyR rfl)) ?_; refine oCm ?_; refine oN ?_) | (refine rg 4 ?_; refine oMv ?_; refine oMv ?_; refine sp (po_index_str rfl rfl rfl (tyR rfl) (by first | rfl | omega) (by first | assumption | omega)) ?_; refine oAs ?_; refine oN ?_) | (refine rg 5 ?_; refine oMv ?_; refine oCm ?_; refine oN ?_) | (refine rg 7 ?_; refine oMv ?_; (first | refine sp (po_index_arr rfl rfl rfl arr203 rfl h256) ?_ | refine sp (pix rfl (tyS rfl)) ?_); (first | refine sops_store_at (tyT rfl) rfl h256 (.free rfl rfl) rfl rfl rfl rfl rfl rfl ?_ | refine oS ?_); refine oN ?_) | (refine rg 3 ?_; refine oMv ?_; (first | refine sp (xinc rfl) ?_ | refine sp (po_arith rfl rfl rfl (ar_add (by first | rfl | (refine wrap_i64 ?_; omega)) rfl)) ?_); refine oAs ?_; refine oN ?_) | refine gc ?_ | refine ct ?_ | refine cf ?_ | refine swp_cond rfl (fun hc => ?_) (fun hc => ?_) | refine rq rfl (.cell rfl rfl (tyT rfl) (by first | exact vwl_arr0 _ | exact vwl_arr _ | exact vwl_spl _ _) rfl (rt .nil)) ?_)
  · obtain rfl : k = cs.length := by omega
    rw [List.take_length]
    repeat' (first | refine then_go ?_ | refine swp_seq ?_ | (refine rg 2 ?_; refine oMv ?_; refine oMv ?_; refine sp (po_len_str rfl rfl (tyR rfl)) ?_; refine oCm ?_; refine oN ?_) | (refine rg 8 ?_; (first | refine sp (po_load_arr (tyT rfl) rfl rfl rfl) ?_ | refine sp (po_load_bx_agg rfl rfl (tyT rfl) rfl (by first | exact vwl_arr0 _ | exact vwl_arr _ | exact vwl_spl _ _) rfl) ?_ | refine sp (po_load_agg rfl rfl (tyT rfl) rfl rfl) ?_); (first | refine sops_store_arr (tyT rfl) (.free rfl rfl) rfl rfl rfl rfl rfl ?_ | refine oS ?_); refine oAs ?_; refine oN ?_) | refine gc ?_ | refine ct ?_ | refine cf ?_ | refine swp_cond rfl (fun hc => ?_) (fun hc => ?_) | refine rq rfl (.cell rfl rfl (tyT rfl) (by first | exact vwl_arr0 _ | exact vwl_arr _ | exact vwl_spl _ _) rfl (rt .nil)) ?_)
    rfl
/-- without what stands behind -/
def rdrop (p : UInt8 → Bool) : List UInt8 → List UInt8
  | [] => []
  | b :: l => match rdrop p l with
    | [] => if p b then [] else [b]
    | r => b :: r
theorem rdrop_snoc (p : UInt8 → Bool) (b : UInt8) : ∀ m : List UInt8, rdrop p (m ++ [b]) = if p b then rdrop p m else m ++ [b]
  | [] => by simp [rdrop]
  | c :: m => by
    have ih := rdrop_snoc p b m
    rw [List.cons_append]
    unfold rdrop
    rw [ih]
    cases hb : p b with
    | true => simp
    | false => cases m <;> simp
theorem drop_rdrop (p : UInt8 → Bool) : ∀ l : List UInt8, (rdrop p l).dropWhile p = rdrop p (l.dropWhile p)
  | [] => rfl
  | b :: l => by
    have ih := drop_rdrop p l
    rw [List.dropWhile_cons]
    cases hb : p b with
    | true =>
      simp only [if_true]
      rw [← ih]
      conv => lhs; unfold rdrop
      cases hr : rdrop p l with
      | nil => simp [hb]
      | cons c r => simp [hb]
    | false =>
      simp only [Bool.false_eq_true, if_false]
      conv => lhs; unfold rdrop
      conv => rhs; unfold rdrop
      cases hr : rdrop p l with
      | nil => simp [hb]
      | cons c r => simp [hb]
theorem drop_step (p : UInt8 → Bool) (l : List UInt8) {k : Nat} (h : k < l.length) : (l.drop k).dropWhile p = if p l[k] then (l.drop (k + 1)).dropWhile p else l.drop k := by
  rw [List.drop_eq_getElem_cons h, List.dropWhile_cons]
theorem take_step (p : UInt8 → Bool) (l : List UInt8) {k : Nat} (h : k < l.length) : rdrop p (l.take (l.length - k)) = if p (l[l.length - k - 1]'(by omega)) then rdrop p (l.take (l.length - (k + 1))) else l.take (l.length - k) := by
  have e : l.length - k = (l.length - (k + 1)) + 1 := by omega
  have h2 : l.length - (k + 1) < l.length := by omega
  have e3 : l.take (l.length - k) = l.take (l.length - (k + 1)) ++ [l[l.length - k - 1]'(by omega)] := by
    conv => lhs; rw [e]
    rw [List.take_succ_eq_append_getElem h2]; rfl
  rw [e3, rdrop_snoc]
abbrev sT (l : List UInt8) : A := .t (.v (.string (bs l)))
set_option maxRecDepth 100000 in
theorem trimLeft_ (cs l : List UInt8) (hn : l.length ≤ maxLen) : LCalls Tryz.prog 178 [sT l, .bp 2000 0] [(2000, arrA (setF cs))] [] (sT (l.dropWhile (inB cs))) [(2000, arrA (setF cs))] [] := by
  unfold maxLen at hn
  refine lcalls_of Tryz.func178 rfl rfl Tryz.ntmps178 rfl ?_
  repeat' (first | refine then_go ?_ | refine swp_seq ?_ | (refine rg 0 ?_; refine oAs ?_; refine oN ?_) | refine gc ?_ | refine ct ?_ | refine cf ?_ | refine swp_cond rfl (fun hc => ?_) (fun hc => ?_) | refine rq rfl (rt .nil) ?_)
  refine swp_for (fun k => ⟨[(0, sT (l.drop k)), (1, .bp 2000 0)], [(2000, arrA (setF cs))], []⟩) (fun k => l.dropWhile (inB cs) = (l.drop k).dropWhile (inB cs)) l.length (weak_sub (.cons rfl rfl rfl (.cons rfl rfl rfl .nil)) (.cons rfl rfl rfl .nil) .nil) (by rw [List.drop_zero]) ?_
  intro k hk hI
  have hsz : (bs (l.drop k)).size = l.length - k := by rw [bs_size, List.length_drop]
  by_cases hlt : k < l.length
  · have h0 : 0 < (bs (l.drop k)).size := by omega
    have hg : (bs (l.drop k))[0] = l[k] := by rw [bs_getElem]; simp
    have hst := drop_step (inB cs) l hlt
    have hx : (bs (l.drop k)).extract 1 (bs (l.drop k)).size = bs (l.drop (k + 1)) := by
      rw [bs_extract, bs_size, List.take_length, List.drop_drop]
    cases hb : inB cs l[k] with
    | true =>
      have hb1 : (!(cs.any fun x => x.toNat == ((bs (l.drop k))[0]).toNat)) = false := by rw [hg]; unfold inB at hb; rw [hb]; rfl
      rw [hb, if_pos rfl] at hst
      repeat' (first | refine then_go ?_ | refine swp_seq ?_ | refine for_next hlt (weak_sub (.cons rfl (by first | rfl | (exact congrArg (fun s => A.t (T.v (Value.string s))) hx)) rfl (.cons rfl (by first | rfl | (exact congrArg (fun s => A.t (T.v (Value.string s))) hx)) rfl .nil)) (.cons rfl (by first | rfl | (exact congrArg (fun s => A.t (T.v (Value.string s))) hx)) rfl .nil) .nil) (hI.trans hst) | (refine rg 1 ?_; refine oMv ?_; (first | refine sp (po_len_own rfl rfl (tyS rfl)) ?_ | refine sp (po_len_str rfl rfl (tyR rfl)) ?_); refine oCm ?_; refine oN ?_) | (refine rg 2 ?_; refine oMv ?_; refine oMv ?_; refine sp (po_index_str (k := 0) rfl rfl rfl (tyR rfl) (by first | rfl | omega) (by first | assumption | omega)) ?_; refine sops_lcall (contains_ cs ((bs (l.drop k))[0])) (fun i => i) (fun i => i) (fun _ => false) (.free rfl rfl) rfl rfl rfl (by first | ((repeat' (first | exact .nil | refine .cons rfl rfl rfl ?_ | refine .vw rfl (by first | exact .t _ | exact .own rfl (by first | rfl | assumption | (simp; done) | (simp; omega)) | exact .nil _ | exact .emp _ | exact .fn _) ?_)) <;> fail) | fail) (.cons rfl rfl .nil) .nil rfl rfl (fun _ h => Bool.noConfusion h) ?_; refine sp (po_not rfl rfl) ?_; refine oN ?_) | (refine rg 3 ?_; refine oMv ?_; (first | refine sp (po_slice_sfx rfl rfl rfl (by first | rfl | assumption | omega | (simp; done) | (simp; omega) | (simp at *; omega)) (tyS rfl) rfl (by omega) (by omega)) ?_ | refine sops_shrink (by rfl) (by rfl) (.free rfl rfl) rfl rfl rfl rfl rfl (by first | rfl | assumption | omega | (simp; done) | (simp; omega) | (simp at *; omega)) (tyS rfl) rfl (by omega) ?_ | refine sp (po_slice_str (l := 1) rfl rfl (tyR rfl) (by first | rfl | exact ⟨_, rfl⟩) (by first | rfl | exact ⟨_, rfl⟩) (by omega) (by omega)) ?_); refine oAs ?_; refine oN ?_) | refine gc ?_ | refine ct ?_ | refine cf ?_ | refine swp_cond rfl (fun hc => ?_) (fun hc => ?_) | refine rq rfl (rt .nil) ?_)
    | false =>
      have hb1 : (!(cs.any fun x => x.toNat == ((bs (l.drop k))[0]).toNat)) = true := by rw [hg]; unfold inB at hb; rw [hb]; rfl
      rw [hb, if_neg (by simp)] at hst
      rw [hI, hst]
      repeat' (first | refine then_go ?_ | refine swp_seq ?_ | (refine rg 1 ?_; refine oMv ?_; (first | refine sp (po_len_own rfl rfl (tyS rfl)) ?_ | refine sp (po_len_str rfl rfl (tyR rfl)) ?_); refine oCm ?_; refine oN ?_) | (refine rg 2 ?_; refine oMv ?_; refine oMv ?_; refine sp (po_index_str (k := 0) rfl rfl rfl (tyR rfl) (by first | rfl | omega) (by first | assumption | omega)) ?_; refine sops_lcall (contains_ cs ((bs (l.drop k))[0])) (fun i => i) (fun i => i) (fun _ => false) (.free rfl rfl) rfl rfl rfl (by first | ((repeat' (first | exact .nil | refine .cons rfl rfl rfl ?_ | refine .vw rfl (by first | exact .t _ | exact .own rfl (by first | rfl | assumption | (simp; done) | (simp; omega)) | exact .nil _ | exact .emp _ | exact .fn _) ?_)) <;> fail) | fail) (.cons rfl rfl .nil) .nil rfl rfl (fun _ h => Bool.noConfusion h) ?_; refine sp (po_not rfl rfl) ?_; refine oN ?_) | (refine rg 4 ?_; refine oMv ?_; refine oAs ?_; refine oN ?_) | refine gc ?_ | refine ct ?_ | refine cf ?_ | refine swp_cond rfl (fun hc => ?_) (fun hc => ?_) | exact retl1 (by first | exact .inr rfl | exact .inl rfl) rfl (.tmp rfl rfl .nil) rfl (.cons rfl (by first | rfl | assumption | (symm; assumption)) rfl .nil) .nil | refine retl (by first | exact .inr rfl | exact .inl rfl) rfl (.tmp rfl rfl .nil) ?_ rfl (.cons rfl (by first | rfl | assumption | (symm; assumption)) rfl .nil) .nil)
  · obtain rfl : k = l.length := by omega
    rw [hI, List.drop_length, List.dropWhile_nil]
    rw [List.drop_length] at hsz
    repeat' (first | refine then_go ?_ | refine swp_seq ?_ | (refine rg 1 ?_; refine oMv ?_; (first | refine sp (po_len_own rfl rfl (tyS rfl)) ?_ | refine sp (po_len_str rfl rfl (tyR rfl)) ?_); refine oCm ?_; refine oN ?_) | (refine rg 4 ?_; refine oMv ?_; refine oAs ?_; refine oN ?_) | refine gc ?_ | refine ct ?_ | refine cf ?_ | refine swp_cond rfl (fun hc => ?_) (fun hc => ?_) | exact retl1 (by first | exact .inr rfl | exact .inl rfl) rfl (.tmp rfl rfl .nil) rfl (.cons rfl (by first | rfl | assumption | (symm; assumption)) rfl .nil) .nil | refine retl (by first | exact .inr rfl | exact .inl rfl) rfl (.tmp rfl rfl .nil) ?_ rfl (.cons rfl (by first | rfl | assumption | (symm; assumption)) rfl .nil) .nil)
set_option maxRecDepth 100000 in
theorem trimRight_ (cs l : List UInt8) (hn : l.length ≤ maxLen) : LCalls Tryz.prog 179 [sT l, .bp 2000 0] [(2000, arrA (setF cs))] [] (sT (rdrop (inB cs) l)) [(2000, arrA (setF cs))] [] := by
  unfold maxLen at hn
  refine lcalls_of Tryz.func179 rfl rfl Tryz.ntmps179 rfl ?_
  repeat' (first | refine then_go ?_ | refine swp_seq ?_ | (refine rg 0 ?_; refine oAs ?_; refine oN ?_) | refine gc ?_ | refine ct ?_ | refine cf ?_ | refine swp_cond rfl (fun hc => ?_) (fun hc => ?_) | refine rq rfl (rt .nil) ?_)
  refine swp_for (fun k => ⟨[(0, sT (l.take (l.length - k))), (1, .bp 2000 0)], [(2000, arrA (setF cs))], []⟩) (fun k => rdrop (inB cs) l = rdrop (inB cs) (l.take (l.length - k))) l.length (weak_sub (.cons rfl (by first | rfl | (rw [Nat.sub_zero, List.take_length])) rfl (.cons rfl (by first | rfl | (rw [Nat.sub_zero, List.take_length])) rfl .nil)) (.cons rfl (by first | rfl | (rw [Nat.sub_zero, List.take_length])) rfl .nil) .nil) (by rw [Nat.sub_zero, List.take_length]) ?_
  intro k hk hI
  have hsz : (bs (l.take (l.length - k))).size = l.length - k := by rw [bs_size, List.length_take]; omega
  by_cases hlt : k < l.length
  · have h0 : l.length - k - 1 < (bs (l.take (l.length - k))).size := by omega
    have hix : (((bs (l.take (l.length - k))).size : Nat) : Int) - 1 = ((l.length - k - 1 : Nat) : Int) := by omega
    have hg : (bs (l.take (l.length - k)))[l.length - k - 1] = l[l.length - k - 1]'(by omega) := by rw [bs_getElem]; simp
    have hst := take_step (inB cs) l hlt
    have hx : (bs (l.take (l.length - k))).extract 0 (l.length - k - 1) = bs (l.take (l.length - (k + 1))) := by
      rw [bs_extract, List.drop_zero, List.take_take]; congr 2; omega
    cases hb : inB cs (l[l.length - k - 1]'(by omega)) with
    | true =>
      have hb1 : (!(cs.any fun x => x.toNat == ((bs (l.take (l.length - k)))[l.length - k - 1]).toNat)) = false := by rw [hg]; unfold inB at hb; rw [hb]; rfl
      rw [hb, if_pos rfl] at hst
      repeat' (first | refine then_go ?_ | refine swp_seq ?_ | refine for_next hlt (weak_sub (.cons rfl (by first | rfl | (exact congrArg (fun s => A.t (T.v (Value.string s))) hx)) rfl (.cons rfl (by first | rfl | (exact congrArg (fun s => A.t (T.v (Value.string s))) hx)) rfl .nil)) (.cons rfl (by first | rfl | (exact congrArg (fun s => A.t (T.v (Value.string s))) hx)) rfl .nil) .nil) (hI.trans hst) | (refine rg 1 ?_; refine oMv ?_; (first | refine sp (po_len_own rfl rfl (tyS rfl)) ?_ | refine sp (po_len_str rfl rfl (tyR rfl)) ?_); refine oCm ?_; refine oN ?_) | (refine rg 2 ?_; refine oMv ?_; refine oMv ?_; refine oMv ?_; (first | refine sp (po_len_own rfl rfl (tyS rfl)) ?_ | refine sp (po_len_str rfl rfl (tyR rfl)) ?_); (first | refine sp (po_arith rfl rfl rfl (ar_sub (wrap_i64 (by omega)) hix)) ?_ | refine sp (po_dec rfl rfl rfl (by omega)) ?_ | refine sp (po_arith rfl rfl rfl (ar_sub (by first | rfl | (refine wrap_i64 ?_; omega)) rfl)) ?_); refine sp (po_index_str rfl rfl rfl (tyR rfl) (by first | rfl | omega) (by first | assumption | omega)) ?_; refine sops_lcall (contains_ cs ((bs (l.take (l.length - k)))[l.length - k - 1])) (fun i => i) (fun i => i) (fun _ => false) (.free rfl rfl) rfl rfl rfl (by first | ((repeat' (first | exact .nil | refine .cons rfl rfl rfl ?_ | refine .vw rfl (by first | exact .t _ | exact .own rfl (by first | rfl | assumption | (simp; done) | (simp; omega)) | exact .nil _ | exact .emp _ | exact .fn _) ?_)) <;> fail) | fail) (.cons rfl rfl .nil) .nil rfl rfl (fun _ h => Bool.noConfusion h) ?_; refine sp (po_not rfl rfl) ?_; refine oN ?_) | (refine rg 3 ?_; refine oMv ?_; refine oMv ?_; (first | refine sp (po_len_own rfl rfl (tyS rfl)) ?_ | refine sp (po_len_str rfl rfl (tyR rfl)) ?_); (first | refine sp (po_arith rfl rfl rfl (ar_sub (wrap_i64 (by omega)) hix)) ?_ | refine sp (po_dec rfl rfl rfl (by omega)) ?_ | refine sp (po_arith rfl rfl rfl (ar_sub (by first | rfl | (refine wrap_i64 ?_; omega)) rfl)) ?_); (first | refine sp (po_slice_sfx rfl rfl rfl (by first | rfl | assumption | omega | (simp; done) | (simp; omega) | (simp at *; omega)) (tyS rfl) rfl (by omega) (by omega)) ?_ | refine sops_shrink (by rfl) (by rfl) (.free rfl rfl) rfl rfl rfl rfl rfl (by first | rfl | assumption | omega | (simp; done) | (simp; omega) | (simp at *; omega)) (tyS rfl) rfl (by omega) ?_ | refine sp (po_slice_str rfl rfl (tyR rfl) (by first | rfl | exact ⟨_, rfl⟩) (by first | rfl | exact ⟨_, rfl⟩) (by omega) (by omega)) ?_); refine oAs ?_; refine oN ?_) | refine gc ?_ | refine ct ?_ | refine cf ?_ | refine swp_cond rfl (fun hc => ?_) (fun hc => ?_) | refine rq rfl (rt .nil) ?_)
    | false =>
      have hb1 : (!(cs.any fun x => x.toNat == ((bs (l.take (l.length - k)))[l.length - k - 1]).toNat)) = true := by rw [hg]; unfold inB at hb; rw [hb]; rfl
      rw [hb, if_neg (by simp)] at hst
      rw [hI, hst]
      repeat' (first | refine then_go ?_ | refine swp_seq ?_ | (refine rg 1 ?_; refine oMv ?_; (first | refine sp (po_len_own rfl rfl (tyS rfl)) ?_ | refine sp (po_len_str rfl rfl (tyR rfl)) ?_); refine oCm ?_; refine oN ?_) | (refine rg 2 ?_; refine oMv ?_; refine oMv ?_; refine oMv ?_; (first | refine sp (po_len_own rfl rfl (tyS rfl)) ?_ | refine sp (po_len_str rfl rfl (tyR rfl)) ?_); (first | refine sp (po_arith rfl rfl rfl (ar_sub (wrap_i64 (by omega)) hix)) ?_ | refine sp (po_dec rfl rfl rfl (by omega)) ?_ | refine sp (po_arith rfl rfl rfl (ar_sub (by first | rfl | (refine wrap_i64 ?_; omega)) rfl)) ?_); refine sp (po_index_str rfl rfl rfl (tyR rfl) (by first | rfl | omega) (by first | assumption | omega)) ?_; refine sops_lcall (contains_ cs ((bs (l.take (l.length - k)))[l.length - k - 1])) (fun i => i) (fun i => i) (fun _ => false) (.free rfl rfl) rfl rfl rfl (by first | ((repeat' (first | exact .nil | refine .cons rfl rfl rfl ?_ | refine .vw rfl (by first | exact .t _ | exact .own rfl (by first | rfl | assumption | (simp; done) | (simp; omega)) | exact .nil _ | exact .emp _ | exact .fn _) ?_)) <;> fail) | fail) (.cons rfl rfl .nil) .nil rfl rfl (fun _ h => Bool.noConfusion h) ?_; refine sp (po_not rfl rfl) ?_; refine oN ?_) | (refine rg 4 ?_; refine oMv ?_; refine oAs ?_; refine oN ?_) | refine gc ?_ | refine ct ?_ | refine cf ?_ | refine swp_cond rfl (fun hc => ?_) (fun hc => ?_) | exact retl1 (by first | exact .inr rfl | exact .inl rfl) rfl (.tmp rfl rfl .nil) rfl (.cons rfl (by first | rfl | assumption | (symm; assumption)) rfl .nil) .nil | refine retl (by first | exact .inr rfl | exact .inl rfl) rfl (.tmp rfl rfl .nil) ?_ rfl (.cons rfl (by first | rfl | assumption | (symm; assumption)) rfl .nil) .nil)
  · obtain rfl : k = l.length := by omega
    rw [hI, Nat.sub_self, List.take_zero]
    rw [Nat.sub_self, List.take_zero] at hsz
    repeat' (first | refine then_go ?_ | refine swp_seq ?_ | (refine rg 1 ?_; refine oMv ?_; (first | refine sp (po_len_own rfl rfl (tyS rfl)) ?_ | refine sp (po_len_str rfl rfl (tyR rfl)) ?_); refine oCm ?_; refine oN ?_) | (refine rg 4 ?_; refine oMv ?_; refine oAs ?_; refine oN ?_) | refine gc ?_ | refine ct ?_ | refine cf ?_ | refine swp_cond rfl (fun hc => ?_) (fun hc => ?_) | exact retl1 (by first | exact .inr rfl | exact .inl rfl) rfl (.tmp rfl rfl .nil) rfl (.cons rfl (by first | rfl | assumption | (symm; assumption)) rfl .nil) .nil | refine retl (by first | exact .inr rfl | exact .inl rfl) rfl (.tmp rfl rfl .nil) ?_ rfl (.cons rfl (by first | rfl | assumption | (symm; assumption)) rfl .nil) .nil)
def trimB (cs l : List UInt8) : List UInt8 := rdrop (inB cs) (l.dropWhile (inB cs))
theorem rdrop_len (p : UInt8 → Bool) : ∀ l : List UInt8, (rdrop p l).length ≤ l.length
  | [] => Nat.le_refl _
  | b :: l => by
    have := rdrop_len p l
    unfold rdrop
    cases hr : rdrop p l with
    | nil => simp only []; split <;> simp
    | cons c r => rw [hr] at this; simpa using this
end Go.Proofs.YtpncekdhigappaaGreatDoor.Str

/- strings.Trim at blanks and tabs: a walk. -/
namespace Go.Proofs.YtpncekdhigappaaGreatDoor.Str
set_option linter.unusedVariables false
set_option linter.unusedSimpArgs false
open Go.RowKit Mem Sim
def ws : List UInt8 := [32, 9]
theorem bs_eq_nil (l : List UInt8) : decide (bs l = ⟨#[]⟩) = decide (l = []) := by
  by_cases h : l = []
  · subst h; rfl
  · have : ¬ bs l = ⟨#[]⟩ := fun e => h (by have := congrArg ByteArray.toList e; rw [bs_toList] at this; simpa using this)
    simp [h, this]
set_option maxRecDepth 100000 in
theorem trim_ (l : List UInt8) (hn : l.length ≤ maxLen) : PCalls Tryz.prog 170 [.v (.string (bs l)), .v (.string ⟨#[32, 9]⟩)] (.v (.string (bs (trimB ws l)))) := by
  have hM := makeASCIISet_ ws (by decide) (by decide)
  have hR := trimRight_ ws l hn
  have hL := trimLeft_ ws (rdrop (inB ws) l) (Nat.le_trans (rdrop_len _ _) hn)
  rw [drop_rdrop] at hL
  have e0 := bs_eq_nil l
  have e1 : decide ((⟨#[32, 9]⟩ : ByteArray) = ⟨#[]⟩) = false := by decide
  have e2 : decide (((⟨#[32, 9]⟩ : ByteArray).size : Int) = 1) = false := by decide
  refine pcalls_of Tryz.func170 rfl rfl Tryz.ntmps170 rfl ?_
  by_cases h : l = []
  · subst h
    repeat' (first | refine then_go ?_ | refine swp_seq ?_ | (refine rg 0 ?_; refine oAs ?_; refine oN ?_) | (refine rg 1 ?_; refine oMv ?_; refine sp (po_str rfl rfl rfl rfl) ?_; refine oMv ?_; (first | refine oMv ?_ | refine oK ?_ | ((refine ssp (fun hc => ?_) (fun hc => ?_)) <;> first | refine oMv ?_ | refine oK ?_)) <;> (first | refine sp (po_str rfl rfl rfl rfl) ?_ | refine oK ?_) <;> (first | refine oPt ?_ | refine oPf ?_) <;> (refine oN ?_)) | (refine rg 2 ?_; refine oMv ?_; refine oAs ?_; refine oN ?_) | refine gc ?_ | refine ct ?_ | refine cf ?_ | refine swp_cond rfl (fun hc => ?_) (fun hc => ?_) | refine rq rfl (rt .nil) ?_)
    rfl
  · rw [decide_eq_false h] at e0
    repeat' (first | refine then_go ?_ | refine swp_seq ?_ | (refine rg 0 ?_; refine oAs ?_; refine oN ?_) | (refine rg 1 ?_; refine oMv ?_; refine sp (po_str rfl rfl rfl rfl) ?_; refine oMv ?_; (first | refine oMv ?_ | refine oK ?_ | ((refine ssp (fun hc => ?_) (fun hc => ?_)) <;> first | refine oMv ?_ | refine oK ?_)) <;> (first | refine sp (po_str rfl rfl rfl rfl) ?_ | refine oK ?_) <;> (first | refine oPt ?_ | refine oPf ?_) <;> (refine oN ?_)) | (refine rg 3 ?_; refine oMv ?_; (first | refine sp (po_len_own rfl rfl (tyS rfl)) ?_ | refine sp (po_len_str rfl rfl (tyR rfl)) ?_); refine oCm ?_; refine oMv ?_; (first | refine oMv ?_ | refine oK ?_ | ((refine ssp (fun hc => ?_) (fun hc => ?_)) <;> first | refine oMv ?_ | refine oK ?_)) <;> (first | refine sp (po_index_str (k := 0) rfl rfl rfl (tyR rfl) (by first | rfl | omega) (by first | assumption | omega)) ?_ | refine oK ?_) <;> (first | refine oCm ?_ | refine oK ?_) <;> (first | refine oPt ?_ | refine oPf ?_) <;> (refine oN ?_)) | (refine rg 5 ?_; refine oMv ?_; (first | refine sops_lcall (hL) (fun _ => 5) (fun i => i) (fun _ => false) (.free rfl rfl) rfl rfl rfl (by first | ((repeat' (first | exact .nil | refine .cons rfl rfl rfl ?_ | refine .vw rfl (by first | exact .t _ | exact .own rfl (by first | rfl | assumption | (simp; done) | (simp; omega)) | exact .nil _ | exact .emp _ | exact .fn _) ?_)) <;> fail) | fail) (.cons rfl rfl .nil) .nil rfl rfl (fun _ h => Bool.noConfusion h) ?_ | refine sops_lcall (hR) (fun _ => 5) (fun i => i) (fun _ => false) (.free rfl rfl) rfl rfl rfl (by first | ((repeat' (first | exact .nil | refine .cons rfl rfl rfl ?_ | refine .vw rfl (by first | exact .t _ | exact .own rfl (by first | rfl | assumption | (simp; done) | (simp; omega)) | exact .nil _ | exact .emp _ | exact .fn _) ?_)) <;> fail) | fail) (.cons rfl rfl .nil) .nil rfl rfl (fun _ h => Bool.noConfusion h) ?_ | refine oC (hM) rfl (ac .nil) ?_); refine oMv ?_; (first | refine oEx ?_ | refine sp (po_extract_tu rfl rfl rfl) ?_); (first | refine oEx ?_ | refine sp (po_extract_tu rfl rfl rfl) ?_); (first | refine sops_alloc_256 zero203 (rep_cells _) rfl (.free rfl rfl) rfl rfl rfl rfl ?_ | refine sal str203 ?_); (first | refine sops_store_arr (tyT rfl) (.free rfl rfl) rfl rfl rfl rfl rfl ?_ | refine oS ?_ | refine sops_store_own (by rfl) (.free rfl rfl) rfl rfl rfl rfl (by first | rfl | assumption | omega | (simp; done) | (simp; omega) | (simp at *; omega)) rfl (by first | exact .t _ | exact .own rfl (by first | rfl | assumption | (simp; done) | (simp; omega)) | exact .nil _ | exact .emp _ | exact .fn _) rfl rfl (tyT rfl) rfl (by first | rfl | assumption | exact map_at (by first | assumption | omega)) rfl ?_); refine oAs ?_; refine oN ?_) | (refine rg 6 ?_; refine oMv ?_; refine oN ?_) | (refine rg 7 ?_; refine oMv ?_; (first | refine sops_lcall (hL) (fun _ => 5) (fun i => i) (fun _ => false) (.free rfl rfl) rfl rfl rfl (by first | ((repeat' (first | exact .nil | refine .cons rfl rfl rfl ?_ | refine .vw rfl (by first | exact .t _ | exact .own rfl (by first | rfl | assumption | (simp; done) | (simp; omega)) | exact .nil _ | exact .emp _ | exact .fn _) ?_)) <;> fail) | fail) (.cons rfl rfl .nil) .nil rfl rfl (fun _ h => Bool.noConfusion h) ?_ | refine sops_lcall (hR) (fun _ => 5) (fun i => i) (fun _ => false) (.free rfl rfl) rfl rfl rfl (by first | ((repeat' (first | exact .nil | refine .cons rfl rfl rfl ?_ | refine .vw rfl (by first | exact .t _ | exact .own rfl (by first | rfl | assumption | (simp; done) | (simp; omega)) | exact .nil _ | exact .emp _ | exact .fn _) ?_)) <;> fail) | fail) (.cons rfl rfl .nil) .nil rfl rfl (fun _ h => Bool.noConfusion h) ?_ | refine oC (hM) rfl (ac (ac .nil)) ?_); (first | refine sops_lcall (hL) (fun _ => 5) (fun i => i) (fun _ => false) (.free rfl rfl) rfl rfl rfl (by first | ((repeat' (first | exact .nil | refine .cons rfl rfl rfl ?_ | refine .vw rfl (by first | exact .t _ | exact .own rfl (by first | rfl | assumption | (simp; done) | (simp; omega)) | exact .nil _ | exact .emp _ | exact .fn _) ?_)) <;> fail) | fail) (.cons rfl rfl .nil) .nil rfl rfl (fun _ h => Bool.noConfusion h) ?_ | refine sops_lcall (hR) (fun _ => 5) (fun i => i) (fun _ => false) (.free rfl rfl) rfl rfl rfl (by first | ((repeat' (first | exact .nil | refine .cons rfl rfl rfl ?_ | refine .vw rfl (by first | exact .t _ | exact .own rfl (by first | rfl | assumption | (simp; done) | (simp; omega)) | exact .nil _ | exact .emp _ | exact .fn _) ?_)) <;> fail) | fail) (.cons rfl rfl .nil) .nil rfl rfl (fun _ h => Bool.noConfusion h) ?_ | refine oC (hM) rfl (ac (ac .nil)) ?_); refine oAs ?_; refine oN ?_) | refine gc ?_ | refine ct ?_ | refine cf ?_ | refine swp_cond rfl (fun hc => ?_) (fun hc => ?_) | refine rq rfl (rt .nil) ?_)
    rfl
end Go.Proofs.YtpncekdhigappaaGreatDoor.Str
