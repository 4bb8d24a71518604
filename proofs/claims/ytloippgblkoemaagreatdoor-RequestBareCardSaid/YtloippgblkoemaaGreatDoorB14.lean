/- Merged by bundles.py: SimHd4, SimStr, SimTrim, SimTrim2, SimHd5. -/
import Derived.Test.YtloippgblkoemaaGreatDoorB13
import Derived.Test.YtloippgblkoemaaGreatDoorB11
/- Headers: letters made small: walks. -/
namespace Go.Proofs.YtloippgblkoemaaGreatDoor.Hd
set_option linter.unusedVariables false
set_option linter.unusedSimpArgs false
open Go.RowKit Mem Sim Opn
theorem byt23 : byE Tryz.prog 23 = some 5 := by kernel_rfl
def lowU (b : UInt8) : UInt8 := if 65 ≤ b.toNat ∧ b.toNat ≤ 90 then b + 32 else b
def small (s : ByteArray) : ByteArray := bs (s.toList.map lowU)
def mix (l : List UInt8) (k : Nat) : List UInt8 := (l.take k).map lowU ++ l.drop k
theorem mix0 (l : List UInt8) : mix l 0 = l := by simp [mix]
theorem mix_len (l : List UInt8) (k : Nat) : (mix l k).length = l.length := by simp [mix]; omega
theorem mix_all (l : List UInt8) {k : Nat} (h : l.length ≤ k) : mix l k = l.map lowU := by
  unfold mix; rw [List.take_of_length_le h, List.drop_of_length_le h]; simp
theorem mix_at (l : List UInt8) {k : Nat} (h : k < l.length) : (mix l k)[k]? = some l[k] := by
  unfold mix
  rw [List.getElem?_append_right (by simp; omega)]
  simp [Nat.min_eq_left (Nat.le_of_lt h), h]
theorem mix_next (l : List UInt8) {k : Nat} (h : k < l.length) : mix l (k + 1) = (mix l k).set k (lowU l[k]) := by
  unfold mix
  rw [List.set_append_right _ _ (by simp; omega)]
  simp only [List.length_map, List.length_take, Nat.min_eq_left (Nat.le_of_lt h), Nat.sub_self]
  rw [List.drop_eq_getElem_cons h, List.set_cons_zero, List.take_succ_eq_append_getElem h, List.map_append, List.append_assoc]; rfl
theorem low_up {b : UInt8} (h : 65 ≤ b.toNat ∧ b.toNat ≤ 90) : ((lowU b).toNat : Int) = (b.toNat : Int) + 32 := by
  unfold lowU; rw [if_pos h, UInt8.toNat_add]
  have : (32 : UInt8).toNat = 32 := rfl
  omega
theorem low_no {b : UInt8} (h : ¬ (65 ≤ b.toNat ∧ b.toNat ≤ 90)) : lowU b = b := by unfold lowU; rw [if_neg h]
def mixR (l : List UInt8) (k : Nat) : List (List T) := (mix l k).map byteT
theorem mixR_at (l : List UInt8) {k : Nat} (h : k < l.length) : (mixR l k)[k]? = some (byteT l[k]) := by
  unfold mixR; rw [List.getElem?_map, mix_at l h]; rfl
theorem mixR_len (l : List UInt8) (k : Nat) : (mixR l k).length = l.length := by unfold mixR; rw [List.length_map, mix_len]
theorem mixR_up (l : List UInt8) {k : Nat} (h : k < l.length) (hb : 65 ≤ l[k].toNat ∧ l[k].toNat ≤ 90) : (mixR l k).set k [T.v (.int .u8 ((l[k].toNat : Int) + 32))] = mixR l (k + 1) := by
  unfold mixR; rw [mix_next l h, List.map_set]; unfold byteT; rw [low_up hb]
theorem mixR_no (l : List UInt8) {k : Nat} (h : k < l.length) (hb : ¬ (65 ≤ l[k].toNat ∧ l[k].toNat ≤ 90)) : mixR l k = mixR l (k + 1) := by
  unfold mixR; rw [mix_next l h, low_no hb]
  congr 1
  exact (set_self (mix_at l h)).symm
def Sm (l : List UInt8) (k : Nat) : St := ⟨[(3, .own 1000 l.length), (8, .own 1000 l.length), (9, .t (.v (.int .i64 (l.length : Int)))), (10, .t (.v (.int .i64 (k : Int))))], [], [(1000, ⟨5, 1, mixR l k⟩)]⟩
theorem up3 (n : Nat) : (65 ≤ n ∧ n ≤ 90) ∨ n < 65 ∨ 90 < n := by omega
theorem bytes0 (l : List UInt8) : (⟨5, 1, l.map byteT⟩ : Own) = ⟨5, 1, mixR l 0⟩ := by unfold mixR; rw [mix0]
set_option maxRecDepth 100000 in
theorem small_ (s : ByteArray) (hs : s.size ≤ maxLen) : PCalls Tryz.prog 83 [.v (.string s)] (.v (.string (small s))) := by
  have hl : s.toList.length = s.size := toList_len s
  have hb : (s.toList.map byteT).length = s.toList.length := List.length_map _
  have hml : s.toList.length ≤ 9223372036854775807 := by unfold maxLen at hs; omega
  refine pcalls_of Tryz.func83 rfl rfl Tryz.ntmps83 rfl ?_
  unfold small
  repeat' (first | refine rg 0 (aq0 ?_) | (refine rg 1 ?_; refine oMv ?_; refine sops_str_bytes 1000 (.free rfl rfl) rfl rfl rfl rfl (tyR rfl) byt23 (by assumption) rfl ?_; refine aq0 ?_) | (refine rg 2 ?_; refine oMv ?_; refine sp (po_len_own rfl rfl (tyS rfl)) ?_; refine oMv ?_; refine oN ?_) | refine gc ?_ | refine ct ?_ | refine cf ?_ | refine sc ?_ ?_ <;> intro hc | refine rq rfl (rt .nil) ?_)
  refine swp_for (Sm s.toList) (fun _ => True) s.toList.length (weak_sub (.cons rfl (by first | rfl | (first | rw [hb] | exact bytes0 s.toList)) rfl (.cons rfl (by first | rfl | (first | rw [hb] | exact bytes0 s.toList)) rfl (.cons rfl (by first | rfl | (first | rw [hb] | exact bytes0 s.toList)) rfl (.cons rfl (by first | rfl | (first | rw [hb] | exact bytes0 s.toList)) rfl .nil)))) .nil (.cons rfl (by first | rfl | (first | rw [hb] | exact bytes0 s.toList)) .nil)) trivial ?_
  intro k hk _
  unfold Sm
  have hq := mixR_len s.toList k
  have hq' := hq.symm
  by_cases hlt : k < s.toList.length
  · have hrow := mixR_at s.toList hlt
    rcases up3 s.toList[k].toNat with h1 | h1 | h1
    · have hn := mixR_up s.toList hlt h1
      repeat' (first | refine for_next hlt (weak_sub (.cons rfl (by rfl) rfl (.cons rfl (by rfl) rfl (.cons rfl (by rfl) rfl (.cons rfl (by rfl) rfl .nil)))) .nil (.cons rfl (by first | rfl | (exact congrArg (Own.mk _ 1) hn)) .nil)) trivial | refine rg 3 (aq6 ?_) | refine rg 4 (aq10 ?_) | refine rg 5 (aq11 ?_) | (refine rg 6 ?_; refine oMv ?_; refine oMv ?_; refine oMv ?_; (first | refine sp (xinc rfl) ?_ | refine sp (po_arith rfl rfl rfl (ar_add (by first | rfl | (refine wrap_i64 ?_; omega) | (refine wrap_u8 ?_; omega)) rfl)) ?_); refine aq12 ?_) | refine rg 7 (aq9 ?_) | refine gc ?_ | refine ct ?_)
    all_goals
      have hn := mixR_no s.toList hlt (fun h => by omega)
      repeat' (first | refine for_next hlt (weak_sub (.cons rfl (by rfl) rfl (.cons rfl (by rfl) rfl (.cons rfl (by rfl) rfl (.cons rfl (by rfl) rfl .nil)))) .nil (.cons rfl (by first | rfl | (exact congrArg (Own.mk _ 1) hn)) .nil)) trivial | refine rg 3 (aq6 ?_) | refine rg 4 (aq10 ?_) | refine rg 5 (aq13 ?_) | refine rg 7 (aq9 ?_) | refine gc ?_ | refine ct ?_ | refine cf ?_)
  · obtain rfl : k = s.toList.length := by omega
    have hr : mixR s.toList s.toList.length = (s.toList.map lowU).map byteT := by unfold mixR; rw [mix_all s.toList (Nat.le_refl _)]
    rw [hr]
    repeat' (first | refine rg 3 (aq6 ?_) | (refine rg 8 ?_; refine oMv ?_; refine sp (po_bytes_str rfl rfl (by first | exact .t _ | exact .own rfl (by first | rfl | assumption | omega | (simp; done))) byt23 (tyR rfl)) ?_; refine aq0 ?_) | refine gc ?_ | refine ct ?_ | refine cf ?_ | refine sc ?_ ?_ <;> intro hc | refine rq rfl (rt .nil) ?_)
    rfl
end Go.Proofs.YtloippgblkoemaaGreatDoor.Hd

/- Functions of the library over texts: walks. -/
namespace Go.Proofs.YtloippgblkoemaaGreatDoor.Str
set_option linter.unusedVariables false
set_option linter.unusedSimpArgs false
open Go.RowKit Mem Sim
def fidx (s : ByteArray) (c : UInt8) : Nat := s.toList.findIdx (· == c)
theorem idx_list (c : UInt8) : ∀ l : List UInt8, Lib.indexByte l c = if l.findIdx (· == c) < l.length then ((l.findIdx (· == c) : Nat) : Int) else -1
  | [] => by simp [Lib.indexByte]
  | b :: l => by
    have ih := idx_list c l
    unfold Lib.indexByte
    rw [List.findIdx_cons]
    cases hb : b == c with
    | true => simp
    | false =>
      simp only [Bool.false_eq_true, if_false, cond_false, List.length_cons]
      rw [ih]
      by_cases h : l.findIdx (· == c) < l.length
      · rw [if_pos h, if_neg (by simp), if_pos (by omega)]; omega
      · rw [if_neg h, if_pos (by rfl), if_neg (by omega)]
theorem idx_eq (s : ByteArray) (c : UInt8) : Lib.indexByte s.data.toList c = if fidx s c < s.size then ((fidx s c : Nat) : Int) else -1 := by
  rw [idx_list]; unfold fidx
  rw [ByteArray.toList_eq]; rfl
theorem u8_back (c : UInt8) : ((c.toNat : Int)).toNat.toUInt8 = c := by simp
theorem ext_idx (s : ByteArray) (c : UInt8) (w : World) : (callFunc 131 [Value.string s, .int .u8 (c.toNat : Int)].toArray).run Tryz.prog w = .ok (.value (.int .i64 (Lib.indexByte s.data.toList c))) w := by
  rw [run_callFunc_extern (e := Extern.BytealgIndexByte.indexByte) Tryz.func131 (by kernel_rfl) (by kernel_rfl) (by kernel_rfl) (by kernel_rfl)]
  have := Lib.run_indexByteString (P := Tryz.prog) s (c.toNat : Int) w
  rw [u8_back] at this
  rw [show [Value.string s, .int .u8 (c.toNat : Int)].toArray = #[Value.string s, .int .u8 (c.toNat : Int)] from rfl, this]; rfl
set_option maxRecDepth 100000 in
theorem idxb_ (s : ByteArray) (c : UInt8) : PCalls Tryz.prog 102 [.v (.string s), .v (.int .u8 (c.toNat : Int))] (.v (.int .i64 (Lib.indexByte s.data.toList c))) := by
  refine pcalls_of Tryz.func102 rfl rfl Tryz.ntmps102 rfl ?_
  repeat' (first | refine rg 0 (aq0 ?_) | (refine rg 1 (aq15 ?_); refine sp (po_ext (ext_idx s c) rfl (ac (ac .nil))) ?_; refine aq0 ?_) | refine gc ?_ | refine ct ?_ | refine cf ?_ | refine sc ?_ ?_ <;> intro hc | refine rq rfl (rt .nil) ?_)
  rfl
set_option maxRecDepth 100000 in
theorem indexByte_ (s : ByteArray) (c : UInt8) : PCalls Tryz.prog 121 [.v (.string s), .v (.int .u8 (c.toNat : Int))] (.v (.int .i64 (Lib.indexByte s.data.toList c))) := by
  refine pcalls_of Tryz.func121 rfl rfl Tryz.ntmps121 rfl ?_
  repeat' (first | refine rg 0 (aq0 ?_) | (refine rg 1 (aq15 ?_); refine oC (idxb_ s c) rfl (ac (ac .nil)) ?_; refine aq0 ?_) | refine gc ?_ | refine ct ?_ | refine cf ?_ | refine sc ?_ ?_ <;> intro hc | refine rq rfl (rt .nil) ?_)
  rfl
set_option maxRecDepth 100000 in
theorem index1_ (s : ByteArray) (c : UInt8) : PCalls Tryz.prog 73 [.v (.string s), .v (.string ⟨#[c]⟩)] (.v (.int .i64 (Lib.indexByte s.data.toList c))) := by
  have z0 : decide ((((⟨#[c]⟩ : ByteArray).size : Nat) : Int) = 0) = false := rfl
  have z1 : decide ((((⟨#[c]⟩ : ByteArray).size : Nat) : Int) = 1) = true := rfl
  have z2 : 0 < (⟨#[c]⟩ : ByteArray).size := Nat.one_pos
  refine pcalls_of Tryz.func73 rfl rfl Tryz.ntmps73 rfl ?_
  by_cases he : (⟨#[c]⟩ : ByteArray) = s
  · have he' : decide ((⟨#[c]⟩ : ByteArray) = s) = true := by simp [he]
    repeat' (first | refine rg 0 (aq0 ?_) | refine rg 1 (aq16 ?_) | refine rg 2 (aq17 ?_) | refine rg 3 (aq0 ?_) | refine gc ?_ | refine ct ?_ | refine cf ?_ | refine sc ?_ ?_ <;> intro hc | refine rq rfl (rt .nil) ?_)
    refine eq_i ?_
    subst he
    simp [Lib.indexByte]
  · have he' : decide ((⟨#[c]⟩ : ByteArray) = s) = false := by simp [he]
    repeat' (first | refine rg 0 (aq0 ?_) | refine rg 1 (aq16 ?_) | refine rg 2 (aq17 ?_) | refine rg 4 (aq18 ?_) | (refine rg 5 (aq19 ?_); refine oC (idxb_ s c) rfl (ac (ac .nil)) ?_; refine aq0 ?_) | refine gc ?_ | refine ct ?_ | refine cf ?_ | refine sc ?_ ?_ <;> intro hc | refine rq rfl (rt .nil) ?_)
    rfl
def cutT (s : ByteArray) (c : UInt8) : T := if fidx s c < s.size then .tup [.v (.string (s.extract 0 (fidx s c))), .v (.string (s.extract (fidx s c + 1) s.size)), .v (.bool true)] else .tup [.v (.string s), .v (.string ⟨#[]⟩), .v (.bool false)]
set_option maxRecDepth 100000 in
theorem cut1_ (s : ByteArray) (c : UInt8) (hs : s.size ≤ maxLen) : PCalls Tryz.prog 48 [.v (.string s), .v (.string ⟨#[c]⟩)] (cutT s c) := by
  unfold maxLen at hs
  have hI := index1_ s c
  rw [idx_eq] at hI
  unfold cutT
  refine pcalls_of Tryz.func48 rfl rfl Tryz.ntmps48 rfl ?_
  by_cases h : fidx s c < s.size
  · rw [if_pos h] at hI
    rw [if_pos h]
    generalize fidx s c = n at *
    repeat' (first | refine rg 0 (aq20 ?_) | (refine rg 1 (aq15 ?_); refine oC (hI) rfl (ac (ac .nil)) ?_; refine aq0 ?_) | refine rg 2 (aq21 ?_) | (refine rd 3 ?_; refine dMv ?_; refine dMv ?_; refine dp (po_slice_str rfl rfl (tyR rfl) (by rfl) (by first | rfl | exact ⟨_, rfl⟩) (by omega) (by omega)) ?_; refine dMv ?_; refine dMv ?_; refine dMv ?_; refine dp (po_len_str rfl rfl (tyR rfl)) ?_; refine dp (xinc rfl) ?_; refine dp (po_slice_str rfl rfl (tyR rfl) (by first | rfl | exact ⟨_, rfl⟩) (by rfl) (by omega) (by omega)) ?_; refine dAs ?_; refine dAs ?_; refine dAs ?_; refine dN ?_; refine oN ?_) | refine gc ?_ | refine ct ?_ | refine cf ?_ | refine sc ?_ ?_ <;> intro hc | refine rq rfl (rt (rt (rt .nil))) ?_)
    rfl
  · rw [if_neg h] at hI
    rw [if_neg h]
    repeat' (first | refine rg 0 (aq20 ?_) | (refine rg 1 (aq15 ?_); refine oC (hI) rfl (ac (ac .nil)) ?_; refine aq0 ?_) | refine rg 2 (aq21 ?_) | (refine rg 4 ?_; refine oMv ?_; refine oAs ?_; refine oAs ?_; refine oAs ?_; refine oN ?_) | refine gc ?_ | refine ct ?_ | refine cf ?_ | refine sc ?_ ?_ <;> intro hc | refine rq rfl (rt (rt (rt .nil))) ?_)
    rfl
set_option maxRecDepth 100000 in
theorem cut_ (s : ByteArray) (c : UInt8) (hs : s.size ≤ maxLen) : PCalls Tryz.prog 25 [.v (.string s), .v (.string ⟨#[c]⟩)] (cutT s c) := by
  have hI := cut1_ s c hs
  refine pcalls_of Tryz.func25 rfl rfl Tryz.ntmps25 rfl ?_
  unfold cutT at *
  by_cases h : fidx s c < s.size
  · rw [if_pos h] at hI
    rw [if_pos h]
    repeat' (first | refine rg 0 (aq20 ?_) | (refine rg 1 (aq15 ?_); refine oC (hI) rfl (ac (ac .nil)) ?_; refine oEx ?_; refine oEx ?_; refine oEx ?_; refine oAs ?_; refine oAs ?_; refine oAs ?_; refine oN ?_) | refine gc ?_ | refine ct ?_ | refine cf ?_ | refine sc ?_ ?_ <;> intro hc | refine rq rfl (rt (rt (rt .nil))) ?_)
    rfl
  · rw [if_neg h] at hI
    rw [if_neg h]
    repeat' (first | refine rg 0 (aq20 ?_) | (refine rg 1 (aq15 ?_); refine oC (hI) rfl (ac (ac .nil)) ?_; refine oEx ?_; refine oEx ?_; refine oEx ?_; refine oAs ?_; refine oAs ?_; refine oAs ?_; refine oN ?_) | refine gc ?_ | refine ct ?_ | refine cf ?_ | refine sc ?_ ?_ <;> intro hc | refine rq rfl (rt (rt (rt .nil))) ?_)
    rfl
end Go.Proofs.YtloippgblkoemaaGreatDoor.Str

/- strings.Trim at letters of ASCII: walks. -/
namespace Go.Proofs.YtloippgblkoemaaGreatDoor.Str
set_option linter.unusedVariables false
set_option linter.unusedSimpArgs false
open Go.RowKit Mem Sim
theorem arr178 : arrI Tryz.prog 178 = some (256, 1) := by kernel_rfl
theorem zero178 : (Tryz.prog.info? 178).bind (·.zero) = some (.agg (Array.replicate 256 (.bool false))) := by kernel_rfl
theorem rep_cells (v : Value) : (Value.agg (Array.replicate 256 v)).cells.toList = List.replicate 256 v := by
  show (Array.replicate 256 v).toList = _
  rw [Array.toList_replicate]
def inB (cs : List UInt8) (b : UInt8) : Bool := cs.any fun x => x.toNat == b.toNat
def setF (cs : List UInt8) (i : Nat) : Value := .bool (cs.any fun x => x.toNat == i)
theorem setF_next (cs : List UInt8) {k : Nat} (h : k < cs.length) : arrA (fun j => if j = cs[k].toNat then .bool true else setF (cs.take k) j) = arrA (setF (cs.take (k + 1))) := by
  refine arrA_congr fun i _ => ?_
  show (if i = cs[k].toNat then Value.bool true else .bool ((cs.take k).any fun x => x.toNat == i)) = .bool ((cs.take (k + 1)).any fun x => x.toNat == i)
  rw [List.take_succ_eq_append_getElem h, List.any_append]
  by_cases hi : i = cs[k].toNat
  · rw [if_pos hi]; simp [hi]
  · rw [if_neg hi]; simp [Ne.symm hi]
theorem bs_getElem (l : List UInt8) {k : Nat} (h : k < (bs l).size) : (bs l)[k] = l[k]'(by rw [bs_size] at h; exact h) := by
  have h1 := toList_get (bs l) k h
  rw [bs_toList, List.getElem?_eq_getElem (by rw [bs_size] at h; exact h)] at h1
  exact (Option.some.inj h1).symm
theorem bs_extract (l : List UInt8) (a b : Nat) : (bs l).extract a b = bs ((l.take b).drop a) := by
  refine bs_inj ?_
  rw [bs_toList, ByteArray.toList_eq, ByteArray.data_extract]
  simp only [bs, Array.toList_extract, List.extract_eq_take_drop]
  rw [List.drop_take]
theorem u8_lt (b : UInt8) : b.toNat < 256 := b.toNat_lt
set_option maxRecDepth 100000 in
theorem contains_ (cs : List UInt8) (c : UInt8) : LCalls Tryz.prog 156 [.bp 2000 0, .t (.v (.int .u8 (c.toNat : Int)))] [(2000, arrA (setF cs))] [] (.t (.v (setF cs c.toNat))) [(2000, arrA (setF cs))] [] := by
  have hc := u8_lt c
  refine lcalls_of Tryz.func156 rfl rfl Tryz.ntmps156 rfl ?_
  repeat' (first | refine rg 0 (aq0 ?_) | (refine rg 1 ?_; refine oMv ?_; refine oMv ?_; refine sp (po_nilcheck rfl rfl) ?_; refine sp (po_index_arr rfl rfl rfl arr178 rfl hc) ?_; refine sp (po_load_at (tyT rfl) hc rfl rfl rfl rfl) ?_; refine aq0 ?_) | refine gc ?_ | refine ct ?_ | refine cf ?_ | refine sc ?_ ?_ <;> intro hc | exact retl1 (by exact .inr rfl) rfl (.tmp rfl rfl .nil) rfl (.cons rfl (by rfl) rfl .nil) .nil)
set_option maxRecDepth 100000 in
theorem makeASCIISet_ (cs : List UInt8) (hn : cs.length ≤ 1000) (ha : ∀ b ∈ cs, b.toNat < 128) : PCalls Tryz.prog 150 [.v (.string (bs cs))] (.tup [.agg (arrT (setF cs)), .v (.bool true)]) := by
  have hsz := bs_size cs
  refine pcalls_of Tryz.func150 rfl rfl Tryz.ntmps150 rfl ?_
  repeat' (first | (refine rg 0 ?_; refine sops_alloc_256 zero178 (rep_cells _) rfl (.free rfl rfl) rfl rfl rfl rfl ?_; refine aq0 ?_) | refine rg 1 (aq0 ?_) | refine gc ?_ | refine ct ?_ | refine cf ?_ | refine sc ?_ ?_ <;> intro hc | refine rq rfl (.cell rfl rfl (tyT rfl) (by first | exact vwl_arr0 _ | exact vwl_arr _ | exact vwl_spl _ _) rfl (rt .nil)) ?_)
  refine swp_for (fun k => ⟨[(0, .t (.v (.string (bs cs)))), (2, .bp 2 0), (4, .t (.v (.int .i64 (k : Int))))], [(2, arrA (setF (cs.take k)))], []⟩) (fun _ => True) cs.length (weak_sub (.cons rfl rfl rfl (.cons rfl rfl rfl (.cons rfl rfl rfl .nil))) (.cons rfl rfl rfl .nil) .nil) trivial ?_
  intro k hk _
  by_cases hlt : k < cs.length
  · have hlt' : k < (bs cs).size := by omega
    have hnext := setF_next cs hlt
    have hlow := ha _ (List.getElem_mem hlt)
    have hg := bs_getElem cs hlt'
    have h256 := u8_lt ((bs cs)[k])
    rw [← hg] at hnext hlow
    repeat' (first | refine for_next hlt (weak_sub (.cons rfl (by rfl) rfl (.cons rfl (by rfl) rfl (.cons rfl (by rfl) rfl .nil))) (.cons rfl (by first | rfl | (exact hnext)) rfl .nil) .nil) trivial | refine rg 2 (aq22 ?_) | refine rg 4 (aq23 ?_) | refine rg 5 (aq21 ?_) | (refine rg 7 ?_; refine oMv ?_; refine sp (po_index_arr rfl rfl rfl arr178 rfl h256) ?_; refine sops_store_at (tyT rfl) rfl h256 (.free rfl rfl) rfl rfl rfl rfl rfl rfl ?_; refine oN ?_) | refine rg 3 (aq3 ?_) | refine gc ?_ | refine ct ?_ | refine cf ?_)
  · obtain rfl : k = cs.length := by omega
    rw [List.take_length]
    repeat' (first | refine rg 2 (aq22 ?_) | (refine rg 8 ?_; refine sp (po_load_arr (tyT rfl) rfl rfl rfl) ?_; refine sops_store_arr (tyT rfl) (.free rfl rfl) rfl rfl rfl rfl rfl ?_; refine oAs ?_; refine oN ?_) | refine gc ?_ | refine ct ?_ | refine cf ?_ | refine sc ?_ ?_ <;> intro hc | refine rq rfl (.cell rfl rfl (tyT rfl) (by first | exact vwl_arr0 _ | exact vwl_arr _ | exact vwl_spl _ _) rfl (rt .nil)) ?_)
    rfl
def rdrop (p : UInt8 → Bool) : List UInt8 → List UInt8
  | [] => []
  | b :: l => match rdrop p l with
    | [] => if p b then [] else [b]
    | r => b :: r
theorem rdrop_snoc (p : UInt8 → Bool) (b : UInt8) : ∀ m : List UInt8, rdrop p (m ++ [b]) = if p b then rdrop p m else m ++ [b]
  | [] => by simp [rdrop]
  | c :: m => by
    have ih := rdrop_snoc p b m
    rw [List.cons_append]
    unfold rdrop
    rw [ih]
    cases hb : p b with
    | true => simp
    | false => cases m <;> simp
theorem drop_rdrop (p : UInt8 → Bool) : ∀ l : List UInt8, (rdrop p l).dropWhile p = rdrop p (l.dropWhile p)
  | [] => rfl
  | b :: l => by
    have ih := drop_rdrop p l
    rw [List.dropWhile_cons]
    cases hb : p b with
    | true =>
      simp only [if_true]
      rw [← ih]
      conv => lhs; unfold rdrop
      cases hr : rdrop p l with
      | nil => simp [hb]
      | cons c r => simp [hb]
    | false =>
      simp only [Bool.false_eq_true, if_false]
      conv => lhs; unfold rdrop
      conv => rhs; unfold rdrop
      cases hr : rdrop p l with
      | nil => simp [hb]
      | cons c r => simp [hb]
theorem drop_step (p : UInt8 → Bool) (l : List UInt8) {k : Nat} (h : k < l.length) : (l.drop k).dropWhile p = if p l[k] then (l.drop (k + 1)).dropWhile p else l.drop k := by
  rw [List.drop_eq_getElem_cons h, List.dropWhile_cons]
theorem take_step (p : UInt8 → Bool) (l : List UInt8) {k : Nat} (h : k < l.length) : rdrop p (l.take (l.length - k)) = if p (l[l.length - k - 1]'(by omega)) then rdrop p (l.take (l.length - (k + 1))) else l.take (l.length - k) := by
  have e : l.length - k = (l.length - (k + 1)) + 1 := by omega
  have h2 : l.length - (k + 1) < l.length := by omega
  have e3 : l.take (l.length - k) = l.take (l.length - (k + 1)) ++ [l[l.length - k - 1]'(by omega)] := by
    conv => lhs; rw [e]
    rw [List.take_succ_eq_append_getElem h2]; rfl
  rw [e3, rdrop_snoc]
abbrev sT (l : List UInt8) : A := .t (.v (.string (bs l)))
set_option maxRecDepth 100000 in
theorem trimLeft_ (cs l : List UInt8) (hn : l.length ≤ maxLen) : LCalls Tryz.prog 151 [sT l, .bp 2000 0] [(2000, arrA (setF cs))] [] (sT (l.dropWhile (inB cs))) [(2000, arrA (setF cs))] [] := by
  unfold maxLen at hn
  refine lcalls_of Tryz.func151 rfl rfl Tryz.ntmps151 rfl ?_
  repeat' (first | refine rg 0 (aq0 ?_) | refine gc ?_ | refine ct ?_ | refine cf ?_ | refine sc ?_ ?_ <;> intro hc | refine rq rfl (rt .nil) ?_)
  refine swp_for (fun k => ⟨[(0, sT (l.drop k)), (1, .bp 2000 0)], [(2000, arrA (setF cs))], []⟩) (fun k => l.dropWhile (inB cs) = (l.drop k).dropWhile (inB cs)) l.length (weak_sub (.cons rfl rfl rfl (.cons rfl rfl rfl .nil)) (.cons rfl rfl rfl .nil) .nil) (by rw [List.drop_zero]) ?_
  intro k hk hI
  have hsz : (bs (l.drop k)).size = l.length - k := by rw [bs_size, List.length_drop]
  by_cases hlt : k < l.length
  · have h0 : 0 < (bs (l.drop k)).size := by omega
    have hg : (bs (l.drop k))[0] = l[k] := by rw [bs_getElem]; simp
    have hst := drop_step (inB cs) l hlt
    have hx : (bs (l.drop k)).extract 1 (bs (l.drop k)).size = bs (l.drop (k + 1)) := by
      rw [bs_extract, bs_size, List.take_length, List.drop_drop]
    cases hb : inB cs l[k] with
    | true =>
      have hb1 : (!(cs.any fun x => x.toNat == ((bs (l.drop k))[0]).toNat)) = false := by rw [hg]; unfold inB at hb; rw [hb]; rfl
      rw [hb, if_pos rfl] at hst
      repeat' (first | refine for_next hlt (weak_sub (.cons rfl (by first | rfl | (exact congrArg (fun s => A.t (T.v (Value.string s))) hx)) rfl (.cons rfl (by rfl) rfl .nil)) (.cons rfl (by rfl) rfl .nil) .nil) (hI.trans hst) | refine rg 1 (aq24 ?_) | (refine rg 2 (aq19 ?_); refine sops_lcall (contains_ cs ((bs (l.drop k))[0])) (fun i => i) (fun i => i) (fun _ => false) (.free rfl rfl) rfl rfl rfl (by ((repeat' (first | exact .nil | refine .cons rfl rfl rfl ?_)) <;> fail)) (.cons rfl rfl .nil) .nil rfl rfl (fun _ h => Bool.noConfusion h) ?_; refine aq25 ?_) | (refine rg 3 ?_; refine oMv ?_; (first | refine sp (po_slice_sfx rfl rfl rfl (by rfl) (tyS rfl) rfl (by omega) (by omega)) ?_ | refine sops_shrink (by rfl) (by rfl) (.free rfl rfl) rfl rfl rfl rfl rfl (by first | rfl | assumption | omega | (simp; done) | (simp; omega) | (simp at *; omega)) (tyS rfl) rfl (by omega) ?_ | refine sp (po_slice_str (l := 1) rfl rfl (tyR rfl) (by first | rfl | exact ⟨_, rfl⟩) (by rfl) (by omega) (by omega)) ?_); refine aq0 ?_) | refine gc ?_ | refine ct ?_ | refine cf ?_)
    | false =>
      have hb1 : (!(cs.any fun x => x.toNat == ((bs (l.drop k))[0]).toNat)) = true := by rw [hg]; unfold inB at hb; rw [hb]; rfl
      rw [hb, if_neg (by simp)] at hst
      rw [hI, hst]
      repeat' (first | refine rg 1 (aq24 ?_) | (refine rg 2 (aq19 ?_); refine sops_lcall (contains_ cs ((bs (l.drop k))[0])) (fun i => i) (fun i => i) (fun _ => false) (.free rfl rfl) rfl rfl rfl (by ((repeat' (first | exact .nil | refine .cons rfl rfl rfl ?_)) <;> fail)) (.cons rfl rfl .nil) .nil rfl rfl (fun _ h => Bool.noConfusion h) ?_; refine aq25 ?_) | refine rg 4 (aq4 ?_) | refine gc ?_ | refine ct ?_ | refine cf ?_ | refine sc ?_ ?_ <;> intro hc | exact retl1 (by exact .inr rfl) rfl (.tmp rfl rfl .nil) rfl (.cons rfl (by rfl) rfl .nil) .nil)
  · obtain rfl : k = l.length := by omega
    rw [hI, List.drop_length, List.dropWhile_nil]
    rw [List.drop_length] at hsz
    repeat' (first | refine rg 1 (aq24 ?_) | refine rg 4 (aq4 ?_) | refine gc ?_ | refine ct ?_ | refine cf ?_ | refine sc ?_ ?_ <;> intro hc | exact retl1 (by exact .inr rfl) rfl (.tmp rfl rfl .nil) rfl (.cons rfl (by rfl) rfl .nil) .nil)
set_option maxRecDepth 100000 in
theorem trimRight_ (cs l : List UInt8) (hn : l.length ≤ maxLen) : LCalls Tryz.prog 152 [sT l, .bp 2000 0] [(2000, arrA (setF cs))] [] (sT (rdrop (inB cs) l)) [(2000, arrA (setF cs))] [] := by
  unfold maxLen at hn
  refine lcalls_of Tryz.func152 rfl rfl Tryz.ntmps152 rfl ?_
  repeat' (first | refine rg 0 (aq0 ?_) | refine gc ?_ | refine ct ?_ | refine cf ?_ | refine sc ?_ ?_ <;> intro hc | refine rq rfl (rt .nil) ?_)
  refine swp_for (fun k => ⟨[(0, sT (l.take (l.length - k))), (1, .bp 2000 0)], [(2000, arrA (setF cs))], []⟩) (fun k => rdrop (inB cs) l = rdrop (inB cs) (l.take (l.length - k))) l.length (weak_sub (.cons rfl (by first | rfl | (rw [Nat.sub_zero, List.take_length])) rfl (.cons rfl (by first | rfl | (rw [Nat.sub_zero, List.take_length])) rfl .nil)) (.cons rfl (by first | rfl | (rw [Nat.sub_zero, List.take_length])) rfl .nil) .nil) (by rw [Nat.sub_zero, List.take_length]) ?_
  intro k hk hI
  have hsz : (bs (l.take (l.length - k))).size = l.length - k := by rw [bs_size, List.length_take]; omega
  by_cases hlt : k < l.length
  · have h0 : l.length - k - 1 < (bs (l.take (l.length - k))).size := by omega
    have hix : (((bs (l.take (l.length - k))).size : Nat) : Int) - 1 = ((l.length - k - 1 : Nat) : Int) := by omega
    have hg : (bs (l.take (l.length - k)))[l.length - k - 1] = l[l.length - k - 1]'(by omega) := by rw [bs_getElem]; simp
    have hst := take_step (inB cs) l hlt
    have hx : (bs (l.take (l.length - k))).extract 0 (l.length - k - 1) = bs (l.take (l.length - (k + 1))) := by
      rw [bs_extract, List.drop_zero, List.take_take]; congr 2; omega
    cases hb : inB cs (l[l.length - k - 1]'(by omega)) with
    | true =>
      have hb1 : (!(cs.any fun x => x.toNat == ((bs (l.take (l.length - k)))[l.length - k - 1]).toNat)) = false := by rw [hg]; unfold inB at hb; rw [hb]; rfl
      rw [hb, if_pos rfl] at hst
      repeat' (first | refine for_next hlt (weak_sub (.cons rfl (by first | rfl | (exact congrArg (fun s => A.t (T.v (Value.string s))) hx)) rfl (.cons rfl (by rfl) rfl .nil)) (.cons rfl (by rfl) rfl .nil) .nil) (hI.trans hst) | refine rg 1 (aq24 ?_) | (refine rg 2 (aq26 ?_); (refine sp (po_arith rfl rfl rfl (ar_sub (wrap_i64 (by omega)) hix)) ?_); refine sp (xist rfl) ?_; refine sops_lcall (contains_ cs ((bs (l.take (l.length - k)))[l.length - k - 1])) (fun i => i) (fun i => i) (fun _ => false) (.free rfl rfl) rfl rfl rfl (by ((repeat' (first | exact .nil | refine .cons rfl rfl rfl ?_)) <;> fail)) (.cons rfl rfl .nil) .nil rfl rfl (fun _ h => Bool.noConfusion h) ?_; refine aq25 ?_) | (refine rg 3 ?_; refine oMv ?_; refine oMv ?_; (first | refine sp (po_len_own rfl rfl (tyS rfl)) ?_ | refine sp (po_len_str rfl rfl (tyR rfl)) ?_); (refine sp (po_arith rfl rfl rfl (ar_sub (wrap_i64 (by omega)) hix)) ?_); (first | refine sp (po_slice_sfx rfl rfl rfl (by rfl) (tyS rfl) rfl (by omega) (by omega)) ?_ | refine sops_shrink (by rfl) (by rfl) (.free rfl rfl) rfl rfl rfl rfl rfl (by first | rfl | assumption | omega | (simp; done) | (simp; omega) | (simp at *; omega)) (tyS rfl) rfl (by omega) ?_ | refine sp (po_slice_str rfl rfl (tyR rfl) (by rfl) (by first | rfl | exact ⟨_, rfl⟩) (by omega) (by omega)) ?_); refine aq0 ?_) | refine gc ?_ | refine ct ?_ | refine cf ?_)
    | false =>
      have hb1 : (!(cs.any fun x => x.toNat == ((bs (l.take (l.length - k)))[l.length - k - 1]).toNat)) = true := by rw [hg]; unfold inB at hb; rw [hb]; rfl
      rw [hb, if_neg (by simp)] at hst
      rw [hI, hst]
      repeat' (first | refine rg 1 (aq24 ?_) | (refine rg 2 (aq26 ?_); (refine sp (po_arith rfl rfl rfl (ar_sub (wrap_i64 (by omega)) hix)) ?_); refine sp (xist rfl) ?_; refine sops_lcall (contains_ cs ((bs (l.take (l.length - k)))[l.length - k - 1])) (fun i => i) (fun i => i) (fun _ => false) (.free rfl rfl) rfl rfl rfl (by ((repeat' (first | exact .nil | refine .cons rfl rfl rfl ?_)) <;> fail)) (.cons rfl rfl .nil) .nil rfl rfl (fun _ h => Bool.noConfusion h) ?_; refine aq25 ?_) | refine rg 4 (aq4 ?_) | refine gc ?_ | refine ct ?_ | refine cf ?_ | refine sc ?_ ?_ <;> intro hc | exact retl1 (by exact .inr rfl) rfl (.tmp rfl rfl .nil) rfl (.cons rfl (by rfl) rfl .nil) .nil)
  · obtain rfl : k = l.length := by omega
    rw [hI, Nat.sub_self, List.take_zero]
    rw [Nat.sub_self, List.take_zero] at hsz
    repeat' (first | refine rg 1 (aq24 ?_) | refine rg 4 (aq4 ?_) | refine gc ?_ | refine ct ?_ | refine cf ?_ | refine sc ?_ ?_ <;> intro hc | exact retl1 (by exact .inr rfl) rfl (.tmp rfl rfl .nil) rfl (.cons rfl (by rfl) rfl .nil) .nil)
def trimB (cs l : List UInt8) : List UInt8 := rdrop (inB cs) (l.dropWhile (inB cs))
theorem rdrop_len (p : UInt8 → Bool) : ∀ l : List UInt8, (rdrop p l).length ≤ l.length
  | [] => Nat.le_refl _
  | b :: l => by
    have := rdrop_len p l
    unfold rdrop
    cases hr : rdrop p l with
    | nil => simp only []; split <;> simp
    | cons c r => rw [hr] at this; simpa using this
end Go.Proofs.YtloippgblkoemaaGreatDoor.Str

/- strings.Trim at blanks and tabs: a walk. -/
namespace Go.Proofs.YtloippgblkoemaaGreatDoor.Str
set_option linter.unusedVariables false
set_option linter.unusedSimpArgs false
open Go.RowKit Mem Sim
def ws : List UInt8 := [32, 9]
theorem bs_eq_nil (l : List UInt8) : decide (bs l = ⟨#[]⟩) = decide (l = []) := by
  by_cases h : l = []
  · subst h; rfl
  · have : ¬ bs l = ⟨#[]⟩ := fun e => h (by have := congrArg ByteArray.toList e; rw [bs_toList] at this; simpa using this)
    simp [h, this]
set_option maxRecDepth 100000 in
theorem trim_ (l : List UInt8) (hn : l.length ≤ maxLen) : PCalls Tryz.prog 143 [.v (.string (bs l)), .v (.string ⟨#[32, 9]⟩)] (.v (.string (bs (trimB ws l)))) := by
  have hM := makeASCIISet_ ws (by decide) (by decide)
  have hR := trimRight_ ws l hn
  have hL := trimLeft_ ws (rdrop (inB ws) l) (Nat.le_trans (rdrop_len _ _) hn)
  rw [drop_rdrop] at hL
  have e0 := bs_eq_nil l
  have e1 : decide ((⟨#[32, 9]⟩ : ByteArray) = ⟨#[]⟩) = false := by decide
  have e2 : decide (((⟨#[32, 9]⟩ : ByteArray).size : Int) = 1) = false := by decide
  refine pcalls_of Tryz.func143 rfl rfl Tryz.ntmps143 rfl ?_
  by_cases h : l = []
  · subst h
    repeat' (first | refine rg 0 (aq0 ?_) | (refine rg 1 ?_; refine oMv ?_; refine sp (po_str rfl rfl rfl rfl) ?_; refine oMv ?_; (first | refine oMv ?_ | refine oK ?_) <;> (first | refine sp (po_str rfl rfl rfl rfl) ?_ | refine oK ?_) <;> refine oPt ?_ <;> refine oN ?_) | refine rg 2 (aq4 ?_) | refine gc ?_ | refine ct ?_ | refine cf ?_ | refine sc ?_ ?_ <;> intro hc | refine rq rfl (rt .nil) ?_)
    rfl
  · rw [decide_eq_false h] at e0
    repeat' (first | refine rg 0 (aq0 ?_) | (refine rg 1 ?_; refine oMv ?_; refine sp (po_str rfl rfl rfl rfl) ?_; refine oMv ?_; refine oMv ?_ <;> refine sp (po_str rfl rfl rfl rfl) ?_ <;> (first | refine oPt ?_ | refine oPf ?_) <;> refine oN ?_) | (refine rg 3 ?_; refine oMv ?_; (first | refine sp (po_len_own rfl rfl (tyS rfl)) ?_ | refine sp (po_len_str rfl rfl (tyR rfl)) ?_); refine oCm ?_; refine oMv ?_; (first | refine oMv ?_ | refine oK ?_) <;> (first | refine sp (po_index_str (k := 0) rfl rfl rfl (tyR rfl) (by rfl) (by first | assumption | omega)) ?_ | refine oK ?_) <;> (first | refine oCm ?_ | refine oK ?_) <;> (first | refine oPt ?_ | refine oPf ?_) <;> refine oN ?_) | (refine rg 5 ?_; refine oMv ?_; (first | refine sops_lcall (hL) (fun _ => 5) (fun i => i) (fun _ => false) (.free rfl rfl) rfl rfl rfl (by first | ((repeat' (first | exact .nil | refine .cons rfl rfl rfl ?_ | refine .vw rfl (by exact .t _) ?_)) <;> fail) | fail) (.cons rfl rfl .nil) .nil rfl rfl (fun _ h => Bool.noConfusion h) ?_ | refine sops_lcall (hR) (fun _ => 5) (fun i => i) (fun _ => false) (.free rfl rfl) rfl rfl rfl (by first | ((repeat' (first | exact .nil | refine .cons rfl rfl rfl ?_ | refine .vw rfl (by exact .t _) ?_)) <;> fail) | fail) (.cons rfl rfl .nil) .nil rfl rfl (fun _ h => Bool.noConfusion h) ?_ | refine oC (hM) rfl (ac .nil) ?_); refine aq27 ?_; refine sops_alloc_256 zero178 (rep_cells _) rfl (.free rfl rfl) rfl rfl rfl rfl ?_; refine sops_store_arr (tyT rfl) (.free rfl rfl) rfl rfl rfl rfl rfl ?_; refine oAs ?_; refine oN ?_) | (refine rg 6 ?_; refine oMv ?_; refine oN ?_) | (refine rg 7 ?_; refine oMv ?_; (first | refine sops_lcall (hL) (fun _ => 5) (fun i => i) (fun _ => false) (.free rfl rfl) rfl rfl rfl (by first | ((repeat' (first | exact .nil | refine .cons rfl rfl rfl ?_ | refine .vw rfl (by exact .t _) ?_)) <;> fail) | fail) (.cons rfl rfl .nil) .nil rfl rfl (fun _ h => Bool.noConfusion h) ?_ | refine sops_lcall (hR) (fun _ => 5) (fun i => i) (fun _ => false) (.free rfl rfl) rfl rfl rfl (by ((repeat' (first | exact .nil | refine .cons rfl rfl rfl ?_)) <;> fail)) (.cons rfl rfl .nil) .nil rfl rfl (fun _ h => Bool.noConfusion h) ?_); (refine sops_lcall (hL) (fun _ => 5) (fun i => i) (fun _ => false) (.free rfl rfl) rfl rfl rfl (by ((repeat' (first | exact .nil | refine .cons rfl rfl rfl ?_)) <;> fail)) (.cons rfl rfl .nil) .nil rfl rfl (fun _ h => Bool.noConfusion h) ?_); refine aq0 ?_) | refine gc ?_ | refine ct ?_ | refine cf ?_ | refine sc ?_ ?_ <;> intro hc | refine rq rfl (rt .nil) ?_)
    rfl
end Go.Proofs.YtloippgblkoemaaGreatDoor.Str

/- Headers: names: walks. -/
namespace Go.Proofs.YtloippgblkoemaaGreatDoor.Hd
set_option linter.unusedVariables false
set_option linter.unusedSimpArgs false
open Go.RowKit Mem Sim Opn Str
def tokL : List UInt8 := [97, 98, 99, 100, 101, 102, 103, 104, 105, 106, 107, 108, 109, 110, 111, 112, 113, 114, 115, 116, 117, 118, 119, 120, 121, 122, 48, 49, 50, 51, 52, 53, 54, 55, 56, 57, 33, 35, 36, 37, 38, 39, 42, 43, 45, 46, 94, 95, 96, 124, 126]
theorem tok_ascii : ∀ b ∈ tokL, b.toNat < 128 := by decide
def cntF (cs : List UInt8) (i : Nat) : Value := .int .i64 (if (cs.any fun x => x.toNat == i) = true then 1 else 0)
theorem cntF_next (cs : List UInt8) {k : Nat} (h : k < cs.length) : arrA (fun j => if j = cs[k].toNat then .int .i64 1 else cntF (cs.take k) j) = arrA (cntF (cs.take (k + 1))) := by
  refine arrA_congr fun i _ => ?_
  show (if i = cs[k].toNat then Value.int .i64 1 else .int .i64 (if ((cs.take k).any fun x => x.toNat == i) = true then 1 else 0)) = .int .i64 (if ((cs.take (k + 1)).any fun x => x.toNat == i) = true then 1 else 0)
  rw [List.take_succ_eq_append_getElem h, List.any_append]
  by_cases hi : i = cs[k].toNat
  · rw [if_pos hi]; simp [hi]
  · rw [if_neg hi]; simp [Ne.symm hi]
theorem arr162 : arrI Tryz.prog 162 = some (256, 1) := by kernel_rfl
theorem zero162 : (Tryz.prog.info? 162).bind (·.zero) = some (.agg (Array.replicate 256 (.int .i64 0))) := by kernel_rfl
theorem tok_size : (bs tokL).size = 51 := by rw [bs_size]; rfl
set_option maxRecDepth 100000 in
theorem token_ : PCalls Tryz.prog 134 [] (.agg (arrT (cntF tokL))) := by
  have hlen : tokL.length = 51 := rfl
  have hsz := tok_size
  refine pcalls_of Tryz.func134 rfl rfl Tryz.ntmps134 rfl ?_
  repeat' (first | (refine rg 0 ?_; refine sops_alloc_256 zero162 (rep_cells _) rfl (.free rfl rfl) rfl rfl rfl rfl ?_; refine oN ?_) | (refine rg 1 ?_; refine sops_range 1000 (.free rfl rfl) rfl rfl rfl rfl (tyR rfl) rfl ?_; refine oN ?_) | refine gc ?_ | refine ct ?_ | refine cf ?_ | refine sc ?_ ?_ <;> intro hc | refine rq rfl (.cell rfl rfl (tyT rfl) (by first | exact vwl_arr0 _ | exact vwl_arr _ | exact vwl_spl _ _) rfl .nil) ?_)
  refine swp_for (fun k => ⟨[(0, .bp 0 0), (3, .bp 1000 0)], [(0, arrA (cntF (tokL.take k))), (1000, itC (bs tokL) k)], []⟩) (fun _ => True) 51 (weak_sub (.cons rfl rfl rfl (.cons rfl rfl rfl .nil)) (.cons rfl rfl rfl (.cons rfl rfl rfl .nil)) .nil) trivial ?_
  intro k hk _
  by_cases hlt : k < 51
  · have hlt' : k < (bs tokL).size := by omega
    have hl2 : k < tokL.length := by omega
    have hg := bs_getElem tokL hlt'
    have hnext := cntF_next tokL hl2
    have hlow := tok_ascii _ (List.getElem_mem hl2)
    rw [← hg] at hnext hlow
    have hdec := decode_ascii (bs tokL) k hlt' hlow
    have h256 := u8_lt ((bs tokL)[k])
    repeat' (first | refine for_next hlt (weak_sub (.cons rfl (by rfl) rfl (.cons rfl (by rfl) rfl .nil)) (.cons rfl (by first | rfl | (exact hnext)) rfl (.cons rfl (by rfl) rfl .nil)) .nil) trivial | refine rg 2 (aq28 ?_) | refine rg 3 (aq29 ?_) | (refine rg 4 ?_; refine oMv ?_; refine sp (po_index_arr rfl rfl rfl arr162 rfl h256) ?_; refine sops_store_at (tyT rfl) rfl h256 (.free rfl rfl) rfl rfl rfl rfl rfl rfl ?_; refine oN ?_) | refine gc ?_ | refine ct ?_)
  · obtain rfl : k = 51 := by omega
    repeat' (first | refine rg 2 (aq30 ?_) | (refine rg 5 ?_; refine sp (po_load_arr (tyT rfl) rfl rfl rfl) ?_; refine sops_store_arr (tyT rfl) (.free rfl rfl) rfl rfl rfl rfl rfl ?_; refine oN ?_) | refine gc ?_ | refine ct ?_ | refine cf ?_ | refine sc ?_ ?_ <;> intro hc | refine rq rfl (.cell rfl rfl (tyT rfl) (by first | exact vwl_arr0 _ | exact vwl_arr _ | exact vwl_spl _ _) rfl .nil) ?_)
    rfl
def mayName (s : ByteArray) : Bool := s.toList.all (inB tokL) && decide (1 ≤ s.size) && decide (s.size ≤ 64)
set_option maxRecDepth 100000 in
theorem mayName_ (s : ByteArray) (hs : s.size ≤ maxLen) : PCalls Tryz.prog 109 [.v (.string s)] (.v (.bool (mayName s))) := by
  unfold maxLen at hs
  refine pcalls_of Tryz.func109 rfl rfl Tryz.ntmps109 rfl ?_
  repeat' (first | refine rg 0 (aq0 ?_) | (refine rg 1 ?_; refine oC (token_) rfl .nil ?_; refine sops_alloc_256 zero162 (rep_cells _) rfl (.free rfl rfl) rfl rfl rfl rfl ?_; refine sops_store_arr (tyT rfl) (.free rfl rfl) rfl rfl rfl rfl rfl ?_; refine oN ?_) | refine rg 2 (aq0 ?_) | refine gc ?_ | refine ct ?_ | refine cf ?_ | refine sc ?_ ?_ <;> intro hc | refine rq rfl (rt .nil) ?_)
  refine swp_for (fun k => ⟨[(0, .t (.v (.string s))), (3, .bp 3 0), (4, .t (.v (.int .i64 (k : Int))))], [(3, arrA (cntF tokL))], []⟩) (fun k => (s.toList.take k).all (inB tokL) = true) s.size (weak_sub (.cons rfl rfl rfl (.cons rfl rfl rfl (.cons rfl rfl rfl .nil))) (.cons rfl rfl rfl .nil) .nil) rfl ?_
  intro k hk hI
  by_cases hlt : k < s.size
  · have h256 := u8_lt s[k]
    cases hb : inB tokL s[k] with
    | true =>
      have hb1 : decide ((if (tokL.any fun x => x.toNat == s[k].toNat) = true then (1 : Int) else 0) = 0) = false := by unfold inB at hb; rw [hb]; rfl
      repeat' (first | refine for_next hlt (weak_sub (.cons rfl rfl rfl (.cons rfl rfl rfl (.cons rfl rfl rfl .nil))) (.cons rfl rfl rfl .nil) .nil) (all_snoc hI hlt hb) | refine rg 3 (aq22 ?_) | (refine rg 5 (aq31 ?_); refine sp (po_index_arr rfl rfl rfl arr162 rfl h256) ?_; refine sp (po_load_at (tyT rfl) h256 rfl rfl rfl rfl) ?_; refine aq6 ?_) | refine rg 4 (aq3 ?_) | refine gc ?_ | refine ct ?_ | refine cf ?_)
    | false =>
      have hb1 : decide ((if (tokL.any fun x => x.toNat == s[k].toNat) = true then (1 : Int) else 0) = 0) = true := by unfold inB at hb; rw [hb]; rfl
      repeat' (first | refine rg 3 (aq22 ?_) | (refine rg 5 (aq31 ?_); refine sp (po_index_arr rfl rfl rfl arr162 rfl h256) ?_; refine sp (po_load_at (tyT rfl) h256 rfl rfl rfl rfl) ?_; refine aq6 ?_) | refine rg 6 (aq0 ?_) | refine gc ?_ | refine ct ?_ | refine cf ?_ | refine sc ?_ ?_ <;> intro hc | refine rq rfl (rt .nil) ?_)
      refine eq_b ?_
      unfold mayName
      rw [all_bad hlt hb]; rfl
  · obtain rfl : k = s.size := by omega
    rw [take_full s (Nat.lt_irrefl _)] at hI
    unfold mayName
    rw [hI]
    repeat' (first | refine rg 3 (aq22 ?_) | (refine rg 7 ?_; refine oMv ?_; refine sp (po_len_str rfl rfl (tyR rfl)) ?_; refine oCm ?_; refine oMv ?_; (first | refine oMv ?_ | refine oK ?_ | ((refine ssp (fun hc => ?_) (fun hc => ?_)) <;> first | refine oMv ?_ | refine oK ?_)) <;> (first | refine sp (po_len_str rfl rfl (tyR rfl)) ?_ | refine oK ?_) <;> (first | refine oCm ?_ | refine oK ?_) <;> (first | refine oPt ?_ | refine oPf ?_) <;> refine oAs ?_ <;> refine oN ?_) | refine gc ?_ | refine ct ?_ | refine cf ?_ | refine sc ?_ ?_ <;> intro hc | refine rq rfl (rt .nil) ?_)
    all_goals
      refine eq_b ?_
      rw [Bool.eq_iff_iff]
      simp at *; omega
end Go.Proofs.YtloippgblkoemaaGreatDoor.Hd
