/- Merged by bundles.py: SimJoin8, SimPath6, SimPath7, SimPath8, SimJn. -/
import Derived.Test.YtpncekdhigappaaGreatDoorV11
import Derived.Test.YtpncekdhigappaaGreatDoorV12
import Derived.Shelf.Strings.OnBuilder
import Derived.Test.YtpncekdhigappaaGreatDoorV25
import Derived.Test.YtpncekdhigappaaGreatDoorV27
import Derived.Test.YtpncekdhigappaaGreatDoorV0
import Derived.Test.YtpncekdhigappaaGreatDoorV13
import Derived.Test.YtpncekdhigappaaGreatDoorV10
/- The library's strings.Join, by the kit's contract. -/
namespace Go.Proofs.YtpncekdhigappaaGreatDoor.Jn
set_option linter.unusedVariables false
set_option linter.unusedSimpArgs false
open Go.RowKit Mem Sim
def rho : Shelf.Ren := ⟨fun n => if n = 156 then 146 else if n = 165 then 136 else if n = 166 then 137 else if n = 169 then 141 else if n = 240 then 162 else if n = 241 then 163 else if n = 276 then 171 else if n = 277 then 172 else n, fun n => if n = 0 then 0 else if n = 3 then 3 else if n = 4 then 4 else if n = 5 then 5 else if n = 9 then 9 else if n = 20 then 20 else if n = 31 then 103 else if n = 37 then 23 else if n = 70 then 160 else if n = 72 then 162 else if n = 75 then 167 else if n = 76 then 168 else if n = 80 then 173 else if n = 127 then 185 else if n = 164 then 197 else n, fun n => n⟩
set_option maxRecDepth 100000 in
theorem lays156 : Lays.n156 Tryz.prog rho where
  mixed := mixed
  f156 := by kernel_rfl
  f165 := by kernel_rfl
  f166 := by kernel_rfl
  f169 := by kernel_rfl
  f240 := by kernel_rfl
  f241 := by kernel_rfl
  f276 := by kernel_rfl
  f277 := by kernel_rfl
  t0 := Tryz.underlying0
  a0 := Tryz.isAgg0
  z0 := Tryz.sizeOf0
  v0 := Tryz.zeroValue0
  t3 := Tryz.underlying3
  a3 := Tryz.isAgg3
  z3 := Tryz.sizeOf3
  v3 := Tryz.zeroValue3
  t4 := Tryz.underlying4
  a4 := Tryz.isAgg4
  z4 := Tryz.sizeOf4
  v4 := Tryz.zeroValue4
  t9 := Tryz.underlying9
  a9 := Tryz.isAgg9
  z9 := Tryz.sizeOf9
  v9 := Tryz.zeroValue9
  t20 := Tryz.underlying20
  a20 := Tryz.isAgg20
  z20 := Tryz.sizeOf20
  v20 := Tryz.zeroValue20
  t31 := Tryz.underlying103
  a31 := Tryz.isAgg103
  z31 := Tryz.sizeOf103
  v31 := Tryz.zeroValue103
  t37 := Tryz.underlying23
  a37 := Tryz.isAgg23
  z37 := Tryz.sizeOf23
  v37 := Tryz.zeroValue23
  t70 := Tryz.underlying160
  a70 := Tryz.isAgg160
  z70 := Tryz.sizeOf160
  v70 := Tryz.zeroValue160
  t72 := Tryz.underlying162
  a72 := Tryz.isAgg162
  z72 := Tryz.sizeOf162
  v72 := Tryz.zeroValue162
  t75 := Tryz.underlying167
  a75 := Tryz.isAgg167
  z75 := Tryz.sizeOf167
  v75 := Tryz.zeroValue167
  t76 := Tryz.underlying168
  a76 := Tryz.isAgg168
  z76 := Tryz.sizeOf168
  v76 := Tryz.zeroValue168
  t127 := Tryz.underlying185
  a127 := Tryz.isAgg185
  z127 := Tryz.sizeOf185
  v127 := Tryz.zeroValue185
  t164 := Tryz.underlying197
  a164 := Tryz.isAgg197
  z164 := Tryz.sizeOf197
  v164 := Tryz.zeroValue197
theorem extra156 : Builder.Extra Tryz.prog rho where
  sizeBuilder := by kernel_rfl
  liesBuilder := by kernel_rfl
  t5 := Tryz.underlying5
  a5 := Tryz.isAgg5
  z5 := Tryz.sizeOf5
  v5 := Tryz.zeroValue5
  infoByte := by kernel_rfl
  cellsByte := by kernel_rfl
  sizeByte := by kernel_rfl
  neB5 := by decide
def strT (s : List UInt8) : List T := [.v (.string (bs s))]
theorem bs_data (l : List UInt8) : (bs l).data.toList = l := by unfold bs; rfl
theorem join_ (l : List (List UInt8)) (sep : ByteArray) (hn : l.length ≤ 1000000) (h : (sep.toList.intercalate l).length ≤ 100000000) :
    PCalls Tryz.prog 146 [.sl 1 (l.map strT), .v (.string sep)] (.v (.string (bs (sep.toList.intercalate l)))) where
  ent := fun vals w => by simp [callFunc, Tryz.func146]; rfl
  run := fun m w vals hs hl hv _ => by
    obtain ⟨v0, v1, rfl⟩ : ∃ v0 v1, vals = #[v0, v1] := by
      match vals, hl with
      | ⟨[a, b]⟩, _ => exact ⟨a, b, rfl⟩
    have h0 := hv 0 _ v0 rfl rfl
    have h1 := tr_v (hv 1 _ v1 rfl rfl)
    subst h1
    have ed : sep.data.toList = sep.toList := by rw [ByteArray.toList_eq]
    cases h0 with
    | sl _ _ A b off cap u hc hm hA hr hu ht =>
      cases l with
      | nil =>
        refine (Any.strings_Join_none lays156 extra156 A cap sep w).mono ?_
        rintro e w' ⟨rfl, rfl⟩
        exact ⟨_, m, rfl, Lo.refl _, Ext.refl _ _, hs, .v _⟩
      | cons x l =>
        obtain rfl := hA (by simp)
        have hcl : ∀ (j : Nat) y, ((x :: l).map bs)[j]? = some y → w.cell? ⟨b, off + j, none⟩ = some (.string y) := fun j y hj => by
          rw [List.getElem?_map] at hj
          obtain ⟨z, hz, rfl⟩ := Option.map_eq_some_iff.1 hj
          have hk : ((x :: l).map strT)[j]? = some (strT z) := by rw [List.getElem?_map, hz]; rfl
          have h2 := hs _ _ _ (hu j 0 _ _ hk rfl).1
          rw [tr_v (ht j 0 _ _ hk rfl)] at h2
          simpa using h2
        have hb : b < w.heap.size := World.block_lt_of_cell? w _ (hcl 0 _ rfl)
        have em : ((x :: l).map bs).map (·.data.toList) = x :: l := by
          rw [List.map_map]
          conv => rhs; rw [← List.map_id (x :: l)]
          exact List.map_congr_left fun a _ => bs_data a
        have hcap : ((x :: l).map bs).length ≤ cap := by rw [List.length_map]; rw [List.length_map] at hc; exact hc
        have hle : (Lib.join (((x :: l).map bs).map (·.data.toList)) sep.data.toList).length ≤ 140737488355328 := by rw [em, ed]; unfold Lib.join; omega
        have key := Any.strings_Join lays156 extra156 b off cap ((x :: l).map bs) sep w hcl hb (by rw [List.length_map]; omega) hcap hle
        rw [em, ed] at key
        have el : ((x :: l).map strT).length = ((x :: l).map bs).length := by rw [List.length_map, List.length_map]
        rw [el]
        refine Calls.mono key ?_
        rintro e w' ⟨rfl, hb'⟩
        have hlo : Lo w w' := hb'
        exact ⟨_, m, rfl, hlo, Ext.refl _ _, hs.lo hlo, .v _⟩
end Go.Proofs.YtpncekdhigappaaGreatDoor.Jn

/- Targets: path.Normal and what stands on it: walks. -/
namespace Go.Proofs.YtpncekdhigappaaGreatDoor.Pth
set_option linter.unusedVariables false
set_option linter.unusedSimpArgs false
open Go.RowKit Mem Sim Opn Str
theorem bs_cat (a b : L8) : bs a ++ bs b = bs (a ++ b) := bs_inj (by rw [toList_append, bs_toList, bs_toList, bs_toList])
set_option maxRecDepth 100000 in
theorem joined_ (dir : Bool) (l : List L8) (hn : tot l ≤ 1000000) : PCalls Tryz.prog 110 [.v (.bool dir), .sl 1 (l.map strT)] (.v (.string (bs (joinL dir l)))) := by
  have hm : (l.map strT).length = l.length := List.length_map _
  have hl : l.length ≤ 1000000 := by unfold tot at hn; omega
  have hi := inter_len l
  have h47 : (⟨#[47]⟩ : ByteArray).toList = [47] := bs_toList [47]
  have hj := Jn.join_ l ⟨#[47]⟩ hl (by rw [h47]; omega)
  rw [h47] at hj
  have hsz := bs_size (([47] : L8).intercalate l)
  have h1 : (⟨#[47]⟩ : ByteArray).size = 1 := rfl
  have hc1 : (⟨#[47]⟩ : ByteArray) ++ bs (([47] : L8).intercalate l) = bs (47 :: ([47] : L8).intercalate l) := bs_cat [47] _
  have hc2 : bs (47 :: ([47] : L8).intercalate l) ++ (⟨#[47]⟩ : ByteArray) = bs (47 :: ([47] : L8).intercalate l ++ [47]) := bs_cat _ [47]
  have hs3 : ((⟨#[47]⟩ : ByteArray) ++ bs (([47] : L8).intercalate l)).size = 1 + (([47] : L8).intercalate l).length := by rw [hc1, bs_size]; simp; omega
  have hmx : (⟨#[47]⟩ : ByteArray).size + (bs (([47] : L8).intercalate l)).size ≤ maxLen := by unfold maxLen; omega
  have hmx2 : ((⟨#[47]⟩ : ByteArray) ++ bs (([47] : L8).intercalate l)).size + (⟨#[47]⟩ : ByteArray).size ≤ maxLen := by unfold maxLen; omega
  refine pcalls_of Tryz.func110 rfl rfl Tryz.ntmps110 rfl ?_
  unfold joinL
  cases dir with
  | false =>
    repeat' (first | refine rg 0 (aq0 ?_) | (refine rg 1 ?_; refine oMv ?_; refine oC (hj) rfl (ac (ac .nil)) ?_; refine aq117 ?_) | (refine rg 2 ?_; refine oMv ?_; refine oMv ?_; (first | refine oMv ?_ | refine oK ?_) <;> (first | refine sp (pln rfl (tyS rfl)) ?_ | refine oK ?_) <;> (first | refine oCm ?_ | refine oK ?_) <;> (first | refine oPt ?_ | refine oPf ?_) <;> refine oN ?_) | refine rg 4 (aq4 ?_) | refine gc ?_ | refine ct ?_ | refine cf ?_ | refine sc ?_ ?_ <;> intro hc | refine rq rfl (rt .nil) ?_)
    show _ = T.v (.string _)
    rw [hc1]; simp
  | true =>
    by_cases h0 : l = []
    · have hz : ¬ (0 : Int) < (((l.map strT).length : Nat) : Int) := by subst h0; simp
      repeat' (first | refine rg 0 (aq0 ?_) | (refine rg 1 ?_; refine oMv ?_; refine oC (hj) rfl (ac (ac .nil)) ?_; refine aq117 ?_) | refine rg 2 (aq118 ?_) | refine rg 4 (aq4 ?_) | refine gc ?_ | refine ct ?_ | refine cf ?_ | refine sc ?_ ?_ <;> intro hc | refine rq rfl (rt .nil) ?_)
      show _ = T.v (.string _)
      rw [hc1]; simp [h0]
    · have hz : (0 : Int) < (((l.map strT).length : Nat) : Int) := by cases l with | nil => exact absurd rfl h0 | cons _ _ => simp
      repeat' (first | refine rg 0 (aq0 ?_) | (refine rg 1 ?_; refine oMv ?_; refine oC (hj) rfl (ac (ac .nil)) ?_; refine aq117 ?_) | refine rg 2 (aq118 ?_) | refine rg 3 (aq119 ?_) | refine rg 4 (aq4 ?_) | refine gc ?_ | refine ct ?_ | refine cf ?_ | refine sc ?_ ?_ <;> intro hc | refine rq rfl (rt .nil) ?_)
      show _ = T.v (.string _)
      rw [hc1, hc2]; simp [h0]
def normT (x : Option (L8 × L8)) : T := match x with
  | some (p, q) => .tup [.v (.string (bs p)), .v (.string (bs q)), .v (.int .i64 0)]
  | none => .tup [.v (.string ⟨#[]⟩), .v (.string ⟨#[]⟩), .v (.int .i64 2)]
theorem cutT_L (s : ByteArray) : ∃ b : Bool, cutT s 63 = .tup [.v (.string (bs (cutL s.toList).1)), .v (.string (bs (cutL s.toList).2)), .v (.bool b)] := by
  have hl := toList_len s
  have e : ∀ a b, s.extract a b = bs ((s.toList.take b).drop a) := fun a b => by
    have := ext_bs s.toList a b
    rw [toList_bs] at this; exact this
  unfold cutT
  rw [cut_idx]
  unfold fidx
  by_cases h : s.toList.findIdx (· == 63) < s.size
  · rw [if_pos h]
    refine ⟨true, ?_⟩
    rw [e, e, List.drop_zero, List.take_of_length_le (by omega : s.toList.length ≤ s.size)]
  · rw [if_neg h]
    refine ⟨false, ?_⟩
    have h1 : s.toList.findIdx (· == 63) = s.toList.length := by
      have := List.findIdx_le_length (xs := s.toList) (p := (· == 63)); omega
    rw [h1, List.take_length, List.drop_of_length_le (by omega), toList_bs]; rfl
set_option maxRecDepth 100000 in
set_option maxHeartbeats 1000000 in
theorem Normal_ (s : ByteArray) (hs : s.size ≤ 100000) : PCalls Tryz.prog 78 [.v (.string s)] (normT (normL s.toList)) := by
  have c0 := may_ s hs
  unfold normL
  refine pcalls_of Tryz.func78 rfl rfl Tryz.ntmps78 rfl ?_
  cases hmay : mayL s.toList with
  | false =>
    rw [hmay] at c0
    repeat' (first | refine rg 0 (aq21 ?_) | (refine rg 1 ?_; refine oMv ?_; refine oC (c0) rfl (ac .nil) ?_; refine aq27 ?_) | refine rg 2 (aq21 ?_) | refine gc ?_ | refine ct ?_ | refine cf ?_ | refine sc ?_ ?_ <;> intro hc | refine rq rfl (rt (rt (rt .nil))) ?_)
    rfl
  | true =>
    rw [hmay] at c0
    obtain ⟨m1, m2, m3⟩ := may_parts hmay
    have hl := toList_len s
    obtain ⟨b, hcut⟩ := cutT_L s
    have c1 := cut_ s 63 (by unfold maxLen; omega)
    rw [hcut] at c1
    obtain ⟨k1, k2⟩ := cut_ok m3
    obtain ⟨n1, n2⟩ := cut_len s.toList
    have hh := head_cut m2
    have c2 := said_ hiddenB 107 hidden_ (bs (cutL s.toList).1) (by rw [bs_size]; omega) (by rw [bs_toList]; exact k1)
    have c3 := said_ (fun _ => false) 108 none_ (bs (cutL s.toList).2) (by rw [bs_size]; omega) (by rw [bs_toList]; exact k2)
    rw [bs_toList] at c2 c3
    have hh2 := said_head (bad := hiddenB) hh.1
    have l2 := saidL_len hiddenB (cutL s.toList).1
    generalize (cutL s.toList).1 = road0 at *
    generalize (cutL s.toList).2 = q0 at *
    generalize saidL hiddenB road0 = rd at *
    generalize saidL (fun _ => false) q0 = qd at *
    obtain ⟨road, ok⟩ := rd
    obtain ⟨q, qok⟩ := qd
    dsimp only at *
    have c4 := kept_ road hh2.2 (by omega)
    have ht : ∀ r, keptL road = some r → tot r.1 ≤ road.length := fun r => tot_keptL hh2.2
    rw [if_pos rfl]
    cases hk : keptL road with
    | none =>
      rw [hk] at c4
      unfold keptT at c4
      dsimp only at c4
      cases ok with
      | true =>
        repeat' (first | refine rg 0 (aq21 ?_) | (refine rg 1 ?_; refine oMv ?_; refine oC (c0) rfl (ac .nil) ?_; refine aq27 ?_) | (refine rg 3 ?_; refine oMv ?_; (first | refine oC (c0) rfl (ac (ac .nil)) ?_ | refine oC (c1) rfl (ac (ac .nil)) ?_); refine aq99 ?_) | (refine rg 4 ?_; refine oMv ?_; (first | refine oC (c0) rfl (ac (ac .nil)) ?_ | refine oC (c1) rfl (ac (ac .nil)) ?_ | refine oC (c2) rfl (ac (ac .nil)) ?_); refine aq120 ?_) | (refine rg 5 ?_; refine oMv ?_; (first | refine oC (c0) rfl (ac (ac .nil)) ?_ | refine oC (c1) rfl (ac (ac .nil)) ?_ | refine oC (c2) rfl (ac (ac .nil)) ?_ | refine oC (c3) rfl (ac (ac .nil)) ?_); refine aq121 ?_) | (refine rg 6 ?_; refine oMv ?_; (first | refine oC (c0) rfl (ac .nil) ?_ | refine oC (c1) rfl (ac .nil) ?_ | refine oC (c2) rfl (ac .nil) ?_ | refine oC (c3) rfl (ac .nil) ?_ | refine oC (c4) rfl (ac .nil) ?_); refine aq99 ?_) | refine rg 7 (aq122 ?_) | refine rg 8 (aq21 ?_) | refine gc ?_ | refine ct ?_ | refine cf ?_ | refine sc ?_ ?_ <;> intro hc | refine rq rfl (rt (rt (rt .nil))) ?_)
        rfl
      | false =>
        repeat' (first | refine rg 0 (aq21 ?_) | (refine rg 1 ?_; refine oMv ?_; refine oC (c0) rfl (ac .nil) ?_; refine aq27 ?_) | (refine rg 3 ?_; refine oMv ?_; (first | refine oC (c0) rfl (ac (ac .nil)) ?_ | refine oC (c1) rfl (ac (ac .nil)) ?_); refine aq99 ?_) | (refine rg 4 ?_; refine oMv ?_; (first | refine oC (c0) rfl (ac (ac .nil)) ?_ | refine oC (c1) rfl (ac (ac .nil)) ?_ | refine oC (c2) rfl (ac (ac .nil)) ?_); refine aq120 ?_) | (refine rg 5 ?_; refine oMv ?_; (first | refine oC (c0) rfl (ac (ac .nil)) ?_ | refine oC (c1) rfl (ac (ac .nil)) ?_ | refine oC (c2) rfl (ac (ac .nil)) ?_ | refine oC (c3) rfl (ac (ac .nil)) ?_); refine aq121 ?_) | (refine rg 6 ?_; refine oMv ?_; (first | refine oC (c0) rfl (ac .nil) ?_ | refine oC (c1) rfl (ac .nil) ?_ | refine oC (c2) rfl (ac .nil) ?_ | refine oC (c3) rfl (ac .nil) ?_ | refine oC (c4) rfl (ac .nil) ?_); refine aq99 ?_) | refine rg 7 (aq123 ?_) | refine rg 8 (aq21 ?_) | refine gc ?_ | refine ct ?_ | refine cf ?_ | refine sc ?_ ?_ <;> intro hc | refine rq rfl (rt (rt (rt .nil))) ?_)
        rfl
    | some r =>
      obtain ⟨left, dir⟩ := r
      have ht' := ht _ hk
      dsimp only at ht'
      rw [hk] at c4
      unfold keptT at c4
      dsimp only at c4
      have c5 := joined_ dir left (by omega)
      cases ok with
      | true =>
        repeat' (first | refine rg 0 (aq21 ?_) | (refine rg 1 ?_; refine oMv ?_; refine oC (c0) rfl (ac .nil) ?_; refine aq27 ?_) | (refine rg 3 ?_; refine oMv ?_; (first | refine oC (c0) rfl (ac (ac .nil)) ?_ | refine oC (c1) rfl (ac (ac .nil)) ?_); refine aq99 ?_) | (refine rg 4 ?_; refine oMv ?_; (first | refine oC (c0) rfl (ac (ac .nil)) ?_ | refine oC (c1) rfl (ac (ac .nil)) ?_ | refine oC (c2) rfl (ac (ac .nil)) ?_); refine aq120 ?_) | (refine rg 5 ?_; refine oMv ?_; (first | refine oC (c0) rfl (ac (ac .nil)) ?_ | refine oC (c1) rfl (ac (ac .nil)) ?_ | refine oC (c2) rfl (ac (ac .nil)) ?_ | refine oC (c3) rfl (ac (ac .nil)) ?_); refine aq121 ?_) | (refine rg 6 ?_; refine oMv ?_; (first | refine oC (c0) rfl (ac .nil) ?_ | refine oC (c1) rfl (ac .nil) ?_ | refine oC (c2) rfl (ac .nil) ?_ | refine oC (c3) rfl (ac .nil) ?_ | refine oC (c4) rfl (ac .nil) ?_); refine aq99 ?_) | refine rg 7 (aq122 ?_) | (refine rg 9 (aq16 ?_); (first | refine oC (c0) rfl (ac (ac .nil)) ?_ | refine oC (c1) rfl (ac (ac .nil)) ?_ | refine oC (c2) rfl (ac (ac .nil)) ?_ | refine oC (c3) rfl (ac (ac .nil)) ?_ | refine oC (c4) rfl (ac (ac .nil)) ?_ | refine oC (c5) rfl (ac (ac .nil)) ?_); refine aq23 ?_) | refine gc ?_ | refine ct ?_ | refine cf ?_ | refine sc ?_ ?_ <;> intro hc | refine rq rfl (rt (rt (rt .nil))) ?_)
        rfl
      | false =>
        repeat' (first | refine rg 0 (aq21 ?_) | (refine rg 1 ?_; refine oMv ?_; refine oC (c0) rfl (ac .nil) ?_; refine aq27 ?_) | (refine rg 3 ?_; refine oMv ?_; (first | refine oC (c0) rfl (ac (ac .nil)) ?_ | refine oC (c1) rfl (ac (ac .nil)) ?_); refine aq99 ?_) | (refine rg 4 ?_; refine oMv ?_; (first | refine oC (c0) rfl (ac (ac .nil)) ?_ | refine oC (c1) rfl (ac (ac .nil)) ?_ | refine oC (c2) rfl (ac (ac .nil)) ?_); refine aq120 ?_) | (refine rg 5 ?_; refine oMv ?_; (first | refine oC (c0) rfl (ac (ac .nil)) ?_ | refine oC (c1) rfl (ac (ac .nil)) ?_ | refine oC (c2) rfl (ac (ac .nil)) ?_ | refine oC (c3) rfl (ac (ac .nil)) ?_); refine aq121 ?_) | (refine rg 6 ?_; refine oMv ?_; (first | refine oC (c0) rfl (ac .nil) ?_ | refine oC (c1) rfl (ac .nil) ?_ | refine oC (c2) rfl (ac .nil) ?_ | refine oC (c3) rfl (ac .nil) ?_ | refine oC (c4) rfl (ac .nil) ?_); refine aq99 ?_) | refine rg 7 (aq123 ?_) | refine rg 8 (aq21 ?_) | refine gc ?_ | refine ct ?_ | refine cf ?_ | refine sc ?_ ?_ <;> intro hc | refine rq rfl (rt (rt (rt .nil))) ?_)
        rfl
end Go.Proofs.YtpncekdhigappaaGreatDoor.Pth

/- Targets: canonical paths, their segments, joined ones: walks. -/
namespace Go.Proofs.YtpncekdhigappaaGreatDoor.Pth
set_option linter.unusedVariables false
set_option linter.unusedSimpArgs false
open Go.RowKit Mem Sim Opn Str
theorem strs_at {l : List L8} {k : Nat} (h : k < l.length) : (l.map strT)[k]? = some [T.v (.string (bs l[k]))] := by
  rw [List.getElem?_map, List.getElem?_eq_getElem h]; rfl
end Go.Proofs.YtpncekdhigappaaGreatDoor.Pth

/- Targets: the document's answer, digits and what may be: walks. -/
namespace Go.Proofs.YtpncekdhigappaaGreatDoor.Pth
set_option linter.unusedVariables false
set_option linter.unusedSimpArgs false
open Go.RowKit Mem Sim Opn Str
abbrev hexD : ByteArray := ⟨#[48, 49, 50, 51, 52, 53, 54, 55, 56, 57, 97, 98, 99, 100, 101, 102, 65, 66, 67, 68, 69, 70]⟩
abbrev hexL : L8 := [48, 49, 50, 51, 52, 53, 54, 55, 56, 57, 97, 98, 99, 100, 101, 102, 65, 66, 67, 68, 69, 70]
theorem hexD_dig : ∀ k : Nat, (h : k < hexD.size) → dig hexD[k] = (if 15 < k then (k : Int) - 6 else (k : Int)) := by
  intro k h
  have key : ∀ m : Fin 22, dig (hexD[m.1]'m.2) = (if 15 < m.1 then (m.1 : Int) - 6 else (m.1 : Int)) := by decide
  exact key ⟨k, h⟩
theorem hexL_no {c : UInt8} (h : hexL.any (· == c) = false) : dig c = -1 := by
  have h' : ∀ d ∈ hexL, d ≠ c := fun d hd e => by
    have := List.any_eq_false.1 h d hd
    simp [e] at this
  have hl := c.toNat_lt
  have key : ∀ n : Nat, n < 256 → (UInt8.ofNat n ∈ hexL ∨ dig (UInt8.ofNat n) = -1) := by
    have : ∀ m : Fin 256, (UInt8.ofNat m.1 ∈ hexL ∨ dig (UInt8.ofNat m.1) = -1) := by decide +kernel
    exact fun n hn => this ⟨n, hn⟩
  have := key c.toNat hl
  rw [show UInt8.ofNat c.toNat = c by simp] at this
  rcases this with h1 | h1
  · exact absurd rfl (h' c h1)
  · exact h1
theorem any_take_succ {l : L8} {c : UInt8} {k : Nat} (h : (l.take k).any (· == c) = false) (hk : k < l.length) (hc : l[k] ≠ c) : (l.take (k + 1)).any (· == c) = false := by
  rw [List.take_succ_eq_append_getElem hk, List.any_append, h]; simpa using hc
theorem any_at {l : L8} {c : UInt8} {k : Nat} (hk : k < l.length) (hc : l[k] = c) : l.any (· == c) = true := List.any_eq_true.2 ⟨l[k], List.getElem_mem hk, by simpa using hc⟩
set_option maxRecDepth 100000 in
set_option maxHeartbeats 1000000 in
theorem refHex_ (c : UInt8) : PCalls Tryz.prog 147 [.v (.int .u8 (c.toNat : Int))] (.v (.int .i64 (dig c))) := by
  refine pcalls_of Tryz.func147 rfl rfl Tryz.ntmps147 rfl ?_
  repeat' (first | refine rg 0 (aq0 ?_) | refine rg 1 (aq0 ?_) | refine gc ?_ | refine ct ?_ | refine cf ?_ | refine sc ?_ ?_ <;> intro hc | refine rq rfl (rt .nil) ?_)
  refine swp_for (fun k => ⟨[(0, .t (.v (.int .u8 (c.toNat : Int)))), (3, .t (.v (.int .i64 (k : Int))))], [], []⟩) (fun k => (hexL.take k).any (· == c) = false) 22 (weak_sub (.cons rfl rfl rfl (.cons rfl rfl rfl .nil)) .nil .nil) rfl ?_
  intro k hk hI
  by_cases hlt : k < 22
  · have h2 : k < hexD.size := hlt
    have h3 : k < hexL.length := hlt
    have he : hexL[k] = hexD[k] := rfl
    have hd := hexD_dig k h2
    by_cases hc : hexD[k].toNat = c.toNat
    · have hc' : hexD[k] = c := UInt8.toNat_inj.1 hc
      rw [hc'] at hd
      rw [hd]
      have hcd : decide (((hexD[k].toNat : Nat) : Int) = (c.toNat : Int)) = true := decide_eq_true (by omega)
      by_cases h15 : 15 < k
      · rw [if_pos h15]
        repeat' (first | refine rg 2 (aq22 ?_) | refine rg 4 (aq124 ?_) | refine rg 5 (aq22 ?_) | (refine rg 6 ?_; refine oMv ?_; (first | refine sp (po_dec rfl rfl rfl (by omega)) ?_ | refine sp (po_arith rfl rfl rfl (ar_sub (by first | rfl | (refine wrap_i64 ?_; omega)) rfl)) ?_); refine aq0 ?_) | refine gc ?_ | refine ct ?_ | refine cf ?_ | refine sc ?_ ?_ <;> intro hc | refine rq rfl (rt .nil) ?_)
        rfl
      · rw [if_neg h15]
        repeat' (first | refine rg 2 (aq22 ?_) | refine rg 4 (aq124 ?_) | refine rg 5 (aq22 ?_) | refine rg 7 (aq4 ?_) | refine gc ?_ | refine ct ?_ | refine cf ?_ | refine sc ?_ ?_ <;> intro hc | refine rq rfl (rt .nil) ?_)
        rfl
    · have hcd : decide (((hexD[k].toNat : Nat) : Int) = (c.toNat : Int)) = false := decide_eq_false (by omega)
      have hne : hexL[k] ≠ c := fun e => hc (by rw [← he, e])
      repeat' (first | refine for_next hlt (weak_sub (.cons rfl rfl rfl (.cons rfl rfl rfl .nil)) .nil .nil) (any_take_succ hI h3 hne) | refine rg 2 (aq22 ?_) | refine rg 4 (aq124 ?_) | refine rg 3 (aq3 ?_) | refine gc ?_ | refine ct ?_ | refine cf ?_)
  · obtain rfl : k = 22 := by omega
    rw [hexL_no hI]
    repeat' (first | refine rg 2 (aq22 ?_) | refine rg 8 (aq0 ?_) | refine gc ?_ | refine ct ?_ | refine cf ?_ | refine sc ?_ ?_ <;> intro hc | refine rq rfl (rt .nil) ?_)
    rfl
abbrev noD : ByteArray := ⟨#[34, 35, 60, 62, 92, 94, 96, 123, 124, 125]⟩
abbrev noL : L8 := [34, 35, 60, 62, 92, 94, 96, 123, 124, 125]
set_option maxRecDepth 100000 in
set_option maxHeartbeats 2000000 in
theorem refMay_ (s : ByteArray) (hs : s.size ≤ 100000) : PCalls Tryz.prog 111 [.v (.string s)] (.v (.bool (mayL s.toList))) := by
  have hsz : s.toList.length = s.size := toList_len s
  refine pcalls_of Tryz.func111 rfl rfl Tryz.ntmps111 rfl ?_
  have hng : (s.size < 1 ∨ 512 < s.size ∨ s.toList.head? ≠ some 47) → mayL s.toList = false := by
    intro h
    unfold mayL
    rcases h with h | h | h
    · have : s.toList = [] := List.eq_nil_of_length_eq_zero (by omega)
      rw [this]; rfl
    · rw [decide_eq_false (by omega)]; rfl
    · rw [decide_eq_false h]; simp
  by_cases h1 : s.size < 1
  · rw [hng (.inl h1)]
    repeat' (first | refine rg 0 (aq0 ?_) | refine rg 1 (aq102 ?_) | refine rg 2 (aq0 ?_) | refine gc ?_ | refine ct ?_ | refine cf ?_ | refine sc ?_ ?_ <;> intro hc | refine rq rfl (rt .nil) ?_)
    rfl
  by_cases h2 : 512 < s.size
  · rw [hng (.inr (.inl h2))]
    repeat' (first | refine rg 0 (aq0 ?_) | refine rg 1 (aq104 ?_) | refine rg 2 (aq0 ?_) | refine gc ?_ | refine ct ?_ | refine cf ?_ | refine sc ?_ ?_ <;> intro hc | refine rq rfl (rt .nil) ?_)
    rfl
  have h0 : 0 < s.size := by omega
  have hhd := head_at s h0
  by_cases h3 : s[0].toNat = 47
  · have hm : mayL s.toList = okL s.toList := by
      unfold mayL
      rw [decide_eq_true (by omega : s.toList.length ≤ 512), hhd, decide_eq_true (by rw [show s[0] = 47 from UInt8.toNat_inj.1 h3])]; rfl
    rw [hm]
    have h3' : (!decide (((s[0].toNat : Nat) : Int) = 47)) = false := by rw [h3]; rfl
    repeat' (first | refine rg 0 (aq0 ?_) | refine rg 1 (aq103 ?_) | refine rg 3 (aq0 ?_) | refine gc ?_ | refine ct ?_ | refine cf ?_ | refine sc ?_ ?_ <;> intro hc | refine rq rfl (rt .nil) ?_)
    refine swp_for (fun k => ⟨[(0, .t (.v (.string s))), (3, .t (.v (.int .i64 (k : Int))))], [], []⟩) (fun k => okL s.toList = okL (s.toList.drop k)) s.size (weak_sub (.cons rfl rfl rfl (.cons rfl rfl rfl .nil)) .nil .nil) rfl ?_
    intro k hk hI
    by_cases hlt : k < s.size
    · have e1 := tl_drop s hlt
      have e2 : okL (s.toList.drop k) = (!badC s[k] && (!decide (s[k] = 37) || pctB (s.toList.drop (k + 1))) && okL (s.toList.drop (k + 1))) := by rw [e1]; rfl
      rw [e2, pct_at] at hI
      by_cases hz1 : s[k].toNat < 33
      · have hb : badC s[k] = true := by unfold badC; rw [decide_eq_true hz1]; rfl
        rw [hb] at hI
        rw [show okL s.toList = false from hI]
        repeat' (first | refine rg 4 (aq24 ?_) | (refine rg 6 ?_; refine oMv ?_; refine oMv ?_; refine sp (xist rfl) ?_; refine oCm ?_; refine oMv ?_; (first | refine oMv ?_ | refine oK ?_) <;> (first | refine oMv ?_ | refine oK ?_) <;> (first | refine sp (xist rfl) ?_ | refine oK ?_) <;> (first | refine oCm ?_ | refine oK ?_) <;> refine oPt ?_ <;> refine oN ?_) | refine rg 7 (aq0 ?_) | refine gc ?_ | refine ct ?_ | refine cf ?_ | refine sc ?_ ?_ <;> intro hc | refine rq rfl (rt .nil) ?_)
        rfl
      by_cases hz2 : 126 < s[k].toNat
      · have hb : badC s[k] = true := by unfold badC; rw [decide_eq_true hz2]; simp
        rw [hb] at hI
        rw [show okL s.toList = false from hI]
        repeat' (first | refine rg 4 (aq24 ?_) | refine rg 6 (aq94 ?_) | refine rg 7 (aq0 ?_) | refine gc ?_ | refine ct ?_ | refine cf ?_ | refine sc ?_ ?_ <;> intro hc | refine rq rfl (rt .nil) ?_)
        rfl
      repeat' (first | refine rg 4 (aq24 ?_) | refine rg 6 (aq94 ?_) | refine rg 8 (aq0 ?_) | refine gc ?_ | refine ct ?_ | refine cf ?_ | refine sc ?_ ?_ <;> intro hc | refine rq rfl (rt .nil) ?_)
      refine swp_for (fun j => ⟨[(0, .t (.v (.string s))), (3, .t (.v (.int .i64 (k : Int)))), (4, .t (.v (.int .i64 (j : Int))))], [], []⟩) (fun j => (noL.take j).any (· == s[k]) = false) 10 (weak_sub (.cons rfl rfl rfl (.cons rfl rfl rfl (.cons rfl rfl rfl .nil))) .nil .nil) rfl ?_
      intro j hj hJ
      by_cases hjt : j < 10
      · have j2 : j < noD.size := hjt
        have j3 : j < noL.length := hjt
        have he : noL[j] = noD[j] := rfl
        by_cases hc : s[k].toNat = noD[j].toNat
        · have hcd : decide (((s[k].toNat : Nat) : Int) = (noD[j].toNat : Int)) = true := decide_eq_true (by omega)
          have hb : badC s[k] = true := by
            unfold badC
            rw [show noL.any (· == s[k]) = true from any_at j3 (by rw [he]; exact (UInt8.toNat_inj.1 hc).symm)]; simp
          rw [hb] at hI
          rw [show okL s.toList = false from hI]
          repeat' (first | refine gc ?_ | refine for_ret ?_ | refine rg 9 (aq22 ?_) | refine aq125 ?_ | refine rg 12 (aq0 ?_) | refine ct ?_ | refine cf ?_ | refine sc ?_ ?_ <;> intro hc | refine rq rfl (rt .nil) ?_)
          rfl
        · have hcd : decide (((s[k].toNat : Nat) : Int) = (noD[j].toNat : Int)) = false := decide_eq_false (by omega)
          have hne : noL[j] ≠ s[k] := fun e => hc (by rw [← e, he])
          repeat' (first | refine for_next hjt (weak_sub (.cons rfl rfl rfl (.cons rfl rfl rfl (.cons rfl rfl rfl .nil))) .nil .nil) (any_take_succ hJ j3 hne) | refine rg 9 (aq22 ?_) | refine aq125 ?_ | refine rg 10 (aq3 ?_) | refine gc ?_ | refine ct ?_ | refine cf ?_)
      · obtain rfl : j = 10 := by omega
        have hbf : badC s[k] = false := by
          unfold badC
          rw [decide_eq_false hz1, decide_eq_false hz2, show noL.any (· == s[k]) = false from hJ]; rfl
        rw [hbf] at hI
        by_cases hp : s[k].toNat = 37
        · have hp' : s[k] = 37 := UInt8.toNat_inj.1 hp
          rw [decide_eq_true hp'] at hI
          by_cases h5 : k + 2 < s.size
          · rw [dif_pos h5] at hI
            have ca := refHex_ s[k + 1]
            have cb := refHex_ s[k + 2]
            generalize dig s[k + 1] = da at *
            generalize dig s[k + 2] = db at *
            by_cases h6 : 0 ≤ da
            · by_cases h7 : 0 ≤ db
              · rw [decide_eq_true h6, decide_eq_true h7] at hI
                repeat' (first | refine for_next hlt (weak_sub (.cons rfl rfl rfl (.cons rfl rfl rfl .nil)) .nil .nil) (by simpa using hI) | refine rg 9 (aq22 ?_) | (refine rg 13 (aq126 ?_) <;> refine oC (ca) rfl (ac .nil) ?_ <;> refine aq109 ?_ <;> (first | refine oC (ca) rfl (ac .nil) ?_ | refine oC (cb) rfl (ac .nil) ?_) <;> refine aq110 ?_) | refine rg 5 (aq3 ?_) | refine gc ?_ | refine ct ?_ | refine cf ?_)
              · rw [decide_eq_true h6, decide_eq_false h7] at hI
                rw [show okL s.toList = false from by simpa using hI]
                repeat' (first | refine rg 9 (aq22 ?_) | (refine rg 13 (aq126 ?_) <;> refine oC (ca) rfl (ac .nil) ?_ <;> refine aq109 ?_ <;> (first | refine oC (ca) rfl (ac .nil) ?_ | refine oC (cb) rfl (ac .nil) ?_) <;> refine aq110 ?_) | refine rg 14 (aq0 ?_) | refine gc ?_ | refine ct ?_ | refine cf ?_ | refine sc ?_ ?_ <;> intro hc | refine rq rfl (rt .nil) ?_)
                rfl
            · rw [decide_eq_false h6] at hI
              rw [show okL s.toList = false from by simpa using hI]
              repeat' (first | refine rg 9 (aq22 ?_) | (refine rg 13 (aq126 ?_) <;> refine oC (ca) rfl (ac .nil) ?_ <;> refine aq111 ?_ <;> (first | refine oC (ca) rfl (ac .nil) ?_ | refine oK ?_) <;> refine aq112 ?_) | refine rg 14 (aq0 ?_) | refine gc ?_ | refine ct ?_ | refine cf ?_ | refine sc ?_ ?_ <;> intro hc | refine rq rfl (rt .nil) ?_)
              rfl
          · rw [dif_neg h5] at hI
            rw [show okL s.toList = false from by simpa using hI]
            repeat' (first | refine rg 9 (aq22 ?_) | (refine rg 13 ?_; refine oMv ?_; refine oMv ?_; refine sp (xist rfl) ?_; refine oCm ?_; refine oMv ?_; refine oMv ?_ <;> (first | refine sp (xinc rfl) ?_ | refine sp (xadd rfl) ?_) <;> refine oMv ?_ <;> refine sp (po_len_str rfl rfl (tyR rfl)) ?_ <;> refine oCm ?_ <;> refine oMv ?_ <;> (first | refine oMv ?_ | refine oK ?_) <;> (first | refine oMv ?_ | refine oK ?_) <;> (first | refine sp (xinc rfl) ?_ | refine sp (xadd rfl) ?_ | refine oK ?_) <;> (first | refine sp (xist rfl) ?_ | refine oK ?_) <;> refine oK ?_ <;> (first | refine oCm ?_ | refine oK ?_) <;> refine oPt ?_ <;> refine oMv ?_ <;> (first | refine oMv ?_ | refine oK ?_) <;> (first | refine oMv ?_ | refine oK ?_) <;> (first | refine sp (xinc rfl) ?_ | refine sp (xadd rfl) ?_ | refine oK ?_) <;> (first | refine sp (xist rfl) ?_ | refine oK ?_) <;> refine oK ?_ <;> (first | refine oCm ?_ | refine oK ?_) <;> refine oPt ?_ <;> refine oPt ?_ <;> refine oN ?_) | refine rg 14 (aq0 ?_) | refine gc ?_ | refine ct ?_ | refine cf ?_ | refine sc ?_ ?_ <;> intro hc | refine rq rfl (rt .nil) ?_)
            rfl
        · have hp' : s[k] ≠ 37 := fun e => hp (by rw [e]; rfl)
          rw [decide_eq_false hp'] at hI
          repeat' (first | refine for_next hlt (weak_sub (.cons rfl rfl rfl (.cons rfl rfl rfl .nil)) .nil .nil) (by simpa using hI) | refine rg 9 (aq22 ?_) | (refine rg 13 ?_; refine oMv ?_; refine oMv ?_; refine sp (xist rfl) ?_; refine oCm ?_; refine oMv ?_; (first | refine oMv ?_ | refine oK ?_) <;> (first | refine sp (xinc rfl) ?_ | refine sp (xadd rfl) ?_ | refine oK ?_) <;> (first | refine oMv ?_ | refine oK ?_) <;> (first | refine sp (po_len_str rfl rfl (tyR rfl)) ?_ | refine oK ?_) <;> (first | refine oCm ?_ | refine oK ?_) <;> (first | refine oMv ?_ | refine oK ?_) <;> (first | refine oMv ?_ | refine oK ?_) <;> (first | refine oMv ?_ | refine oK ?_) <;> (first | refine sp (xinc rfl) ?_ | refine sp (xadd rfl) ?_ | refine oK ?_) <;> (first | refine sp (xist rfl) ?_ | refine oK ?_) <;> refine oK ?_ <;> (first | refine oCm ?_ | refine oK ?_) <;> (first | refine oPt ?_ | refine oPf ?_ | refine oK ?_) <;> (first | refine oMv ?_ | refine oK ?_) <;> (first | refine oMv ?_ | refine oK ?_) <;> (first | refine oMv ?_ | refine oK ?_) <;> (first | refine sp (xinc rfl) ?_ | refine sp (xadd rfl) ?_ | refine oK ?_) <;> (first | refine sp (xist rfl) ?_ | refine oK ?_) <;> refine oK ?_ <;> (first | refine oCm ?_ | refine oK ?_) <;> (first | refine oPt ?_ | refine oPf ?_ | refine oK ?_) <;> (first | refine oPt ?_ | refine oPf ?_) <;> refine oN ?_) | refine rg 5 (aq3 ?_) | refine gc ?_ | refine ct ?_ | refine cf ?_)
    · obtain rfl : k = s.size := by omega
      have e1 : s.toList.drop s.size = [] := List.drop_eq_nil_of_le (by omega)
      rw [e1] at hI
      rw [hI]
      repeat' (first | refine rg 4 (aq24 ?_) | refine rg 15 (aq0 ?_) | refine gc ?_ | refine ct ?_ | refine cf ?_ | refine sc ?_ ?_ <;> intro hc | refine rq rfl (rt .nil) ?_)
      rfl
  · rw [hng (.inr (.inr (by rw [hhd]; intro e; injection e with e; rw [e] at h3; exact h3 rfl)))]
    have h3' : (!decide (((s[0].toNat : Nat) : Int) = 47)) = true := by rw [decide_eq_false (by omega)]; rfl
    repeat' (first | refine rg 0 (aq0 ?_) | refine rg 1 (aq103 ?_) | refine rg 2 (aq0 ?_) | refine gc ?_ | refine ct ?_ | refine cf ?_ | refine sc ?_ ?_ <;> intro hc | refine rq rfl (rt .nil) ?_)
    rfl
end Go.Proofs.YtpncekdhigappaaGreatDoor.Pth

/- A logic of states: ways that meet again. -/
namespace Go.Proofs.YtpncekdhigappaaGreatDoor.Sim
set_option linter.unusedVariables false
set_option linter.unusedSimpArgs false
open Go.RowKit Mem
structure Hold (p : Prop) : Prop where
  go : p
def joinF (N : Nat) (st' : St) (Q : Exit → St → Prop) : Exit → St → Prop
  | .normal, s => Weak N s st'
  | e, s => Q e s
structure JoinQ (N : Nat) (st' : St) (Q : Exit → St → Prop) (e : Exit) (s : St) : Prop where
  go : joinF N st' Q e s
section
variable {P : Program} {N : Nat} {Q : Exit → St → Prop} {st : St} {x y : Code}
theorem swp_joinQ {c : Code} (st' : St) (h : SWp P N c (JoinQ N st' Q) st) (k : Q .normal st') : SWp P N c Q st :=
  swp_join (st' := st') (swp_mono h fun e s hq => by
    cases e <;> exact hq.go) k
theorem join_go {st' s : St} (h : Weak N s st') : JoinQ N st' Q .normal s := ⟨h⟩
end
end Go.Proofs.YtpncekdhigappaaGreatDoor.Sim
