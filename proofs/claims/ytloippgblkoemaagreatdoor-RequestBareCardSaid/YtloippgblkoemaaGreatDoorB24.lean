/- Merged by bundles.py: SimSpl, SimMap, SimOf1, SimOf2. -/
import Derived.Test.YtloippgblkoemaaGreatDoorB21
import Derived.Test.YtloippgblkoemaaGreatDoorB23
import Derived.Test.YtloippgblkoemaaGreatDoorB12
import Derived.Test.YtloippgblkoemaaGreatDoorB13
import Derived.Test.YtloippgblkoemaaGreatDoorB19
import Derived.Shelf.Strings.MapGrows
import Derived.Test.YtloippgblkoemaaGreatDoorB16
/- The library's strings.Split at one byte: walks. -/
namespace Go.Proofs.YtloippgblkoemaaGreatDoor.Ro
set_option linter.unusedVariables false
set_option linter.unusedSimpArgs false
open Go.RowKit Mem Sim Opn Hd Str Pth Rq
theorem cnt_list (c : UInt8) (l : L8) : Lib.countByte l c = l.count c := rfl
theorem ext_cnt (s : ByteArray) (c : UInt8) (w : World) : (callFunc 137 [Value.string s, .int .u8 (c.toNat : Int)].toArray).run Tryz.prog w = .ok (.value (.int .i64 ((s.toList.count c : Nat) : Int))) w := by
  rw [run_callFunc_extern (e := Extern.BytealgCount.count) Tryz.func137 (by kernel_rfl) (by kernel_rfl) (by kernel_rfl) (by kernel_rfl)]
  have := Lib.run_countString (P := Tryz.prog) s (c.toNat : Int) w
  rw [u8_back, cnt_list, ← ByteArray.toList_eq] at this
  rw [show [Value.string s, .int .u8 (c.toNat : Int)].toArray = #[Value.string s, .int .u8 (c.toNat : Int)] from rfl, this]; rfl
set_option maxRecDepth 100000 in
theorem count_ (s : ByteArray) (c : UInt8) : PCalls Tryz.prog 112 [.v (.string s), .v (.string ⟨#[c]⟩)] (.v (.int .i64 ((s.toList.count c : Nat) : Int))) := by
  have z0 : decide ((((⟨#[c]⟩ : ByteArray).size : Nat) : Int) = 0) = false := rfl
  have z1 : decide ((((⟨#[c]⟩ : ByteArray).size : Nat) : Int) = 1) = true := rfl
  have z2 : 0 < (⟨#[c]⟩ : ByteArray).size := Nat.one_pos
  refine pcalls_of Tryz.func112 rfl rfl Tryz.ntmps112 rfl ?_
  repeat' (first | refine rg 0 (aq0 ?_) | (refine rg 1 ?_; refine oMv ?_; (first | refine sp (po_ext (ext_cnt s c) rfl (ac (ac .nil))) ?_ | refine sp (po_len_str rfl rfl (tyR rfl)) ?_); refine aq6 ?_) | (refine rg 3 ?_; refine oMv ?_; (first | refine sp (po_ext (ext_cnt s c) rfl (ac (ac .nil))) ?_ | refine sp (po_len_str rfl rfl (tyR rfl)) ?_); refine aq6 ?_) | (refine rg 4 (aq19 ?_); refine sp (po_ext (ext_cnt s c) rfl (ac (ac .nil))) ?_; refine aq0 ?_) | refine gc ?_ | refine ct ?_ | refine cf ?_ | refine sc ?_ ?_ <;> intro hc | refine rq rfl (rt .nil) ?_)
  rfl
theorem po_minN {P : Program} {bx : List (Nat × List A)} {ow : List (Nat × Own)} {o : Oper} {ρ : Operand → Option A} {x y : Operand} {ts : Array TypeId} {k : IntKind} {m n : Nat} (h : m ≤ n) (ho : o.op = .call { callee := .builtin .min, args := #[x, y], argTypes := ts }) (hx : ρ x = some (.t (.v (.int k (m : Int))))) (hy : ρ y = some (.t (.v (.int k (n : Int))))) : PureOp P bx ow o ρ (.t (.v (.int k (m : Int)))) := by
  have := po_min (P := P) (bx := bx) (ow := ow) ho hx hy
  rwa [show min (m : Int) (n : Int) = (m : Int) by omega] at this
def rst (c : UInt8) (l : L8) : Nat → L8
  | 0 => l
  | k + 1 => (rst c l k).drop ((rst c l k).findIdx (· == c) + 1)
theorem rst_spec (c : UInt8) (l : L8) : ∀ k, k ≤ l.count c → (splC c l).drop k = splC c (rst c l k) ∧ (rst c l k).count c = l.count c - k ∧ (rst c l k).length ≤ l.length
  | 0, _ => ⟨rfl, rfl, Nat.le_refl _⟩
  | k + 1, h => by
    obtain ⟨h1, h2, h3⟩ := rst_spec c l k (by omega)
    have h4 := count_pos (c := c) (l := rst c l k) (by omega)
    have h5 := splC_yes c _ h4
    have h6 := count_yes h4
    refine ⟨?_, ?_, ?_⟩
    · rw [← List.drop_drop, h1, h5]; rfl
    · show (List.drop _ _).count c = _; omega
    · show (List.drop _ _).length ≤ _; rw [List.length_drop]; omega
theorem spl_at {c : UInt8} {l : L8} {k : Nat} (h : k < l.count c) : (splC c l)[k]? = some ((rst c l k).take ((rst c l k).findIdx (· == c))) := by
  obtain ⟨h1, h2, _⟩ := rst_spec c l k (by omega)
  have h4 := count_pos (c := c) (l := rst c l k) (by omega)
  rw [splC_yes c _ h4] at h1
  have := congrArg (fun q => q[0]?) h1
  simpa using this
theorem spl_end (c : UInt8) (l : L8) : (splC c l)[l.count c]? = some (rst c l (l.count c)) := by
  obtain ⟨h1, h2, _⟩ := rst_spec c l _ (Nat.le_refl _)
  have h4 : ¬ (rst c l (l.count c)).findIdx (· == c) < (rst c l (l.count c)).length := fun h => by
    have := count_yes h; omega
  rw [splC_no c _ h4] at h1
  have := congrArg (fun q => q[0]?) h1
  simpa using this
def rowsK (c : UInt8) (l : L8) (k : Nat) : List (List T) := ((splC c l).take k).map Pth.strT ++ List.replicate (l.count c + 1 - k) [T.v (.string ⟨#[]⟩)]
theorem rowsK_len {c : UInt8} {l : L8} {k : Nat} (h : k ≤ l.count c + 1) : (rowsK c l k).length = l.count c + 1 := by
  unfold rowsK
  rw [List.length_append, List.length_map, List.length_take, List.length_replicate, splC_len]; omega
theorem rowsK_at {c : UInt8} {l : L8} {k : Nat} (h : k < l.count c + 1) : (rowsK c l k)[k]? = some [T.v (.string ⟨#[]⟩)] := by
  unfold rowsK
  rw [List.getElem?_append_right (by rw [List.length_map, List.length_take, splC_len]; omega), List.length_map, List.length_take, splC_len, List.getElem?_replicate, if_pos (by omega)]
theorem rowsK_set {c : UInt8} {l : L8} {k : Nat} {p : L8} (h : k < l.count c + 1) (hp : (splC c l)[k]? = some p) : (rowsK c l k).set k (Pth.strT p) = rowsK c l (k + 1) := by
  unfold rowsK
  have hl : ((splC c l).take k).length = k := by rw [List.length_take, splC_len]; omega
  have hk : k < (splC c l).length := by rw [splC_len]; omega
  have e : (splC c l)[k] = p := by rw [List.getElem?_eq_getElem hk] at hp; injection hp
  rw [List.set_append_right _ _ (by rw [List.length_map, hl]; exact Nat.le_refl _), List.length_map, hl, Nat.sub_self, show l.count c + 1 - k = (l.count c + 1 - (k + 1)) + 1 by omega, List.replicate_succ, List.set_cons_zero, List.take_succ_eq_append_getElem hk, e]
  simp
theorem rowsK_full (c : UInt8) (l : L8) : rowsK c l (l.count c + 1) = (splC c l).map Pth.strT := by
  unfold rowsK
  rw [List.take_of_length_le (by rw [splC_len]; exact Nat.le_refl _), Nat.sub_self]; simp
theorem zStrO : (Tryz.prog.info? 9).bind (·.zero) = some (.string ⟨#[]⟩) := by kernel_rfl
theorem strEq {a b : ByteArray} (h : a = b) : A.t (T.v (Value.string a)) = A.t (T.v (Value.string b)) := by rw [h]
theorem own_eq {e : TypeId} {sz : Nat} {a b : List (List T)} (h : a = b) : (⟨e, sz, a⟩ : Own) = ⟨e, sz, b⟩ := by rw [h]
def GS (c : UInt8) (l : L8) (n : Nat) (k : Nat) : St := ⟨[(0, .t (.v (.string (bs (rst c l k))))), (1, .t (.v (.string ⟨#[c]⟩))), (2, .t (.v (.int .i64 0))), (3, .t (.v (.int .i64 (n : Int)))), (9, .own 1000 (n + 1)), (10, .t (.v (.int .i64 (k : Int))))], [], [(1000, ⟨9, 1, rowsK c l k⟩)]⟩
set_option maxRecDepth 100000 in
set_option maxHeartbeats 2000000 in
theorem genSplit_ (s : ByteArray) (c : UInt8) (hs : s.size ≤ 1000000) : PCalls Tryz.prog 85 [.v (.string s), .v (.string ⟨#[c]⟩), .v (.int .i64 0), .v (.int .i64 (-1))] (.sl 1 ((splC c s.toList).map Pth.strT)) := by
  have hl := toList_len s
  have z1 : decide ((⟨#[c]⟩ : ByteArray) = ⟨#[]⟩) = false := by simp
  have z2 : ((⟨#[c]⟩ : ByteArray).size : Nat) = 1 := rfl
  have hc := count_ s c
  have hle : s.toList.count c ≤ s.size := by have := List.count_le_length (a := c) (l := s.toList); omega
  have hmx : s.toList.count c + 1 ≤ maxLen := by unfold maxLen; omega
  refine pcalls_of Tryz.func85 rfl rfl Tryz.ntmps85 rfl ?_
  rw [← rowsK_full]
  have hrl : ∀ k, k ≤ s.toList.count c + 1 → s.toList.count c + 1 = (rowsK c s.toList k).length := fun k hk => (rowsK_len hk).symm
  have hr0 : rowsK c s.toList 0 = List.replicate (s.toList.count c + 1) [T.v (.string ⟨#[]⟩)] := by simp [rowsK]
  have hs0 : bs (rst c s.toList 0) = s := toList_bs s
  have hat : ∀ k, k < s.toList.count c → ((splC c s.toList)[k]? = some ((rst c s.toList k).take ((rst c s.toList k).findIdx (· == c))) ∧ (rst c s.toList k).findIdx (· == c) < (rst c s.toList k).length) := fun k hk => ⟨spl_at hk, by
    obtain ⟨_, h2, _⟩ := rst_spec c s.toList k (by omega)
    exact count_pos (by omega)⟩
  have hend := spl_end c s.toList
  have hlen : ∀ k, k ≤ s.toList.count c → (rst c s.toList k).length ≤ 1000000 := fun k hk => by
    obtain ⟨_, _, h3⟩ := rst_spec c s.toList k hk
    omega
  have hset : ∀ k p, k < s.toList.count c + 1 → (splC c s.toList)[k]? = some p → (rowsK c s.toList k).set k (Pth.strT p) = rowsK c s.toList (k + 1) := fun k p h1 h2 => rowsK_set h1 h2
  have hrow : ∀ k, k < s.toList.count c + 1 → (rowsK c s.toList k)[k]? = some [T.v (.string ⟨#[]⟩)] := fun k h => rowsK_at h
  repeat' (first | refine rg 0 (aq0 ?_) | refine rg 1 (aq21 ?_) | refine rg 3 (aq60 ?_) | refine rg 5 (aq21 ?_) | (refine rg 6 (aq15 ?_); (first | refine sp (po_minN (by omega) rfl rfl rfl) ?_ | refine oC (hc) rfl (ac (ac .nil)) ?_); refine sp (xinc rfl) ?_; refine oAs ?_; refine oN ?_) | (refine rg 7 (aq15 ?_); (first | refine sp (po_minN (by omega) rfl rfl rfl) ?_ | refine sp (po_len_own rfl rfl (tyS rfl)) ?_ | refine sp (po_len_str rfl rfl (tyR rfl)) ?_); refine sp (xinc rfl) ?_; refine sp (po_minN (by omega) rfl rfl rfl) ?_; refine aq0 ?_) | (refine rg 8 ?_; refine oMv ?_; refine sops_make 1000 (.free rfl rfl) rfl rfl rfl (tyE rfl) zStrO rfl rfl rfl rfl (by omega) (by omega) rfl ?_; refine aq0 ?_) | (refine rg 9 ?_; refine oMv ?_; refine sp (po_dec rfl rfl rfl (by omega)) ?_; refine oAs ?_; refine oN ?_) | refine rg 10 (aq0 ?_) | refine gc ?_ | refine ct ?_ | refine cf ?_ | refine sc ?_ ?_ <;> intro hc | refine rq rfl (rt .nil) ?_)
  refine swp_for (GS c s.toList (s.toList.count c)) (fun _ => True) (s.toList.count c) ?_ trivial ?_
  · unfold GS
    rw [hr0, hs0]
    exact (weak_sub (.cons rfl rfl rfl (.cons rfl rfl rfl (.cons rfl rfl rfl (.cons rfl rfl rfl (.cons rfl rfl rfl (.cons rfl rfl rfl .nil)))))) .nil (.cons rfl rfl .nil))
  intro k hk _
  unfold GS
  by_cases hlt : k < s.toList.count c
  · obtain ⟨ha, hf⟩ := hat k hlt
    have hk1 := hset k _ (by omega) ha
    have hk2 := hrow k (by omega)
    have hk3 := hrl k (by omega)
    have hk4 := hlen k (by omega)
    have hi := index_ (bs (rst c s.toList k)) c
    have hf2 : fidx (bs (rst c s.toList k)) c = (rst c s.toList k).findIdx (· == c) := by unfold fidx; rw [bs_toList]
    have hbz := bs_size (rst c s.toList k)
    rw [idx_eq, hf2, if_pos (by rw [hbz]; exact hf)] at hi
    have hx1 : (bs (rst c s.toList k)).extract 0 ((rst c s.toList k).findIdx (· == c)) = bs ((rst c s.toList k).take ((rst c s.toList k).findIdx (· == c))) := by
      rw [bs_extract, List.drop_zero]
    have hx2 : (bs (rst c s.toList k)).extract ((rst c s.toList k).findIdx (· == c) + 1) (bs (rst c s.toList k)).size = bs (rst c s.toList (k + 1)) := by
      rw [bs_extract, hbz, List.take_length]; rfl
    have hk3' : (rowsK c s.toList k).set k (Pth.strT ((rst c s.toList k).take ((rst c s.toList k).findIdx (· == c)))) = rowsK c s.toList (k + 1) := hk1
    unfold Pth.strT at hk3'
    rw [← hx1] at hk3'
    generalize hj : (rst c s.toList k).findIdx (· == c) = j at *
    repeat' (first | refine for_next hlt (weak_sub (.cons rfl (by first | rfl | (exact strEq hx2)) rfl (.cons rfl (by rfl) rfl (.cons rfl (by rfl) rfl (.cons rfl (by rfl) rfl (.cons rfl (by rfl) rfl (.cons rfl (by rfl) rfl .nil)))))) .nil (.cons rfl (by first | rfl | (first | exact strEq hx2 | exact own_eq hk3')) .nil)) trivial | refine rg 11 (aq34 ?_) | (refine rg 12 (aq15 ?_); refine oC (hi) rfl (ac (ac .nil)) ?_; refine aq0 ?_) | refine rg 13 (aq21 ?_) | (refine rg 14 ?_; refine oMv ?_; refine oMv ?_; refine oMv ?_; refine oMv ?_; refine oMv ?_; refine sp (po_arith (c := (j : Int)) rfl rfl rfl (ar_add (by refine wrap_i64 ?_; omega) (by omega))) ?_; (first | refine sp (po_slice_sfx rfl rfl rfl (by rfl) (tyS rfl) rfl (by omega) (by omega)) ?_ | refine sops_shrink (by rfl) (by rfl) (.free rfl rfl) rfl rfl rfl rfl rfl (by first | rfl | assumption | omega | (simp; done) | (simp; omega) | (simp at *; omega)) (tyS rfl) rfl (by omega) ?_ | refine sp (po_slice_str rfl rfl (tyR rfl) (by rfl) (by first | rfl | exact ⟨_, rfl⟩) (by omega) (by omega)) ?_); refine aq12 ?_) | (refine rg 15 (aq26 ?_); (first | refine sp (po_arith (c := (j : Int)) rfl rfl rfl (ar_add (by refine wrap_i64 ?_; omega) (by omega))) ?_ | refine sp (xinc rfl) ?_); (first | refine sp (po_slice_sfx rfl rfl rfl (by rfl) (tyS rfl) rfl (by omega) (by omega)) ?_ | refine sops_shrink (by rfl) (by rfl) (.free rfl rfl) rfl rfl rfl rfl rfl (by first | rfl | assumption | omega | (simp; done) | (simp; omega) | (simp at *; omega)) (tyS rfl) rfl (by omega) ?_ | refine sp (po_slice_str rfl rfl (tyR rfl) (by first | rfl | exact ⟨_, rfl⟩) (by rfl) (by omega) (by omega)) ?_); refine aq0 ?_) | (refine rg 16 ?_; refine oMv ?_; (first | refine sp (po_arith (c := (j : Int)) rfl rfl rfl (ar_add (by refine wrap_i64 ?_; omega) (by omega))) ?_ | refine sp (xinc rfl) ?_); refine aq0 ?_) | refine gc ?_ | refine ct ?_ | refine cf ?_)
  · have hkn : k = s.toList.count c := by omega
    subst hkn
    have hk1 := hset _ _ (by omega) hend
    have hk2 := hrow (s.toList.count c) (by omega)
    have hk3 := hrl (s.toList.count c) (by omega)
    repeat' (first | refine then_go ?_ | refine swp_seq ?_ | refine swp_ret_weak (weak_show 1000 100 rfl rfl rfl rfl) ?_ | refine rg 11 (aq34 ?_) | (refine rg 17 ?_; refine oMv ?_; refine oMv ?_; refine oMv ?_; refine sp (ixo rfl) ?_; (first | refine oS ?_ | refine sso ?_); refine oN ?_) | (refine rg 18 ?_; refine oMv ?_; refine oMv ?_; refine sp (xinc rfl) ?_; (first | refine sp (po_slice_sfx rfl rfl rfl (by rfl) (tyS rfl) rfl (by omega) (by omega)) ?_ | refine sops_shrink (by rfl) (by rfl) (.free rfl rfl) rfl rfl rfl rfl rfl (by first | rfl | assumption | omega | (simp; done) | (simp; omega)) (tyS rfl) rfl (by omega) ?_); refine oAs ?_; refine oN ?_) | refine swp_ret ?_ | refine swp_skip ?_ | refine swp_block ?_ | refine swp_exit ?_ | refine block_go ?_ | refine block_exit ?_ | refine block_far rfl ?_ | refine block_ret ?_ | refine then_ret ?_ | refine then_exit ?_ | refine for_ret ?_ | refine for_exit ?_ | refine ct ?_ | refine cf ?_ | refine sc ?_ ?_ <;> intro hc | refine rq rfl (rt .nil) ?_)
    show T.sl 1 _ = T.sl 1 (List.take _ (List.set _ _ (Pth.strT _)))
    rw [hk1, List.take_of_length_le (by rw [← hrl (s.toList.count c + 1) (Nat.le_refl _)]; exact Nat.le_refl _)]
end Go.Proofs.YtloippgblkoemaaGreatDoor.Ro

/- The library's strings.Map, by the kit's contract. -/
namespace Go.Proofs.YtloippgblkoemaaGreatDoor.Mp
set_option linter.unusedVariables false
set_option linter.unusedSimpArgs false
open Go.RowKit Mem Sim
def rho : Shelf.Ren := ⟨fun n => if n = 118 then 114 else if n = 165 then 115 else if n = 166 then 116 else if n = 167 then 119 else if n = 168 then 117 else if n = 169 then 120 else if n = 197 then 113 else if n = 230 then 87 else if n = 240 then 139 else if n = 241 then 140 else if n = 242 then 141 else if n = 260 then 138 else if n = 270 then 118 else if n = 276 then 144 else if n = 277 then 145 else if n = 278 then 146 else n, fun n => if n = 0 then 0 else if n = 3 then 3 else if n = 4 then 4 else if n = 5 then 5 else if n = 9 then 9 else if n = 20 then 20 else if n = 21 then 21 else if n = 37 then 23 else if n = 46 then 135 else if n = 51 then 159 else if n = 70 then 137 else if n = 72 then 139 else if n = 75 then 144 else if n = 76 then 145 else if n = 80 then 150 else if n = 105 then 140 else if n = 107 then 125 else if n = 119 then 168 else if n = 127 then 165 else if n = 138 then 170 else if n = 139 then 171 else if n = 164 then 172 else n, fun n => if n = 3 then 1 else if n = 4 then 2 else n⟩
set_option maxRecDepth 100000 in
theorem lays230 : Lays.n230 Tryz.prog rho where
  mixed := mixed
  f118 := by kernel_rfl
  f165 := by kernel_rfl
  f166 := by kernel_rfl
  f167 := by kernel_rfl
  f168 := by kernel_rfl
  f169 := by kernel_rfl
  f197 := by kernel_rfl
  f230 := by kernel_rfl
  f240 := by kernel_rfl
  f241 := by kernel_rfl
  f242 := by kernel_rfl
  f260 := by kernel_rfl
  f270 := by kernel_rfl
  f276 := by kernel_rfl
  f277 := by kernel_rfl
  f278 := by kernel_rfl
  t0 := Tryz.underlying0
  a0 := Tryz.isAgg0
  z0 := Tryz.sizeOf0
  v0 := Tryz.zeroValue0
  t3 := Tryz.underlying3
  a3 := Tryz.isAgg3
  z3 := Tryz.sizeOf3
  v3 := Tryz.zeroValue3
  t4 := Tryz.underlying4
  a4 := Tryz.isAgg4
  z4 := Tryz.sizeOf4
  v4 := Tryz.zeroValue4
  t5 := Tryz.underlying5
  a5 := Tryz.isAgg5
  z5 := Tryz.sizeOf5
  v5 := Tryz.zeroValue5
  t9 := Tryz.underlying9
  a9 := Tryz.isAgg9
  z9 := Tryz.sizeOf9
  v9 := Tryz.zeroValue9
  t20 := Tryz.underlying20
  a20 := Tryz.isAgg20
  z20 := Tryz.sizeOf20
  v20 := Tryz.zeroValue20
  t21 := Tryz.underlying21
  a21 := Tryz.isAgg21
  z21 := Tryz.sizeOf21
  v21 := Tryz.zeroValue21
  t37 := Tryz.underlying23
  a37 := Tryz.isAgg23
  z37 := Tryz.sizeOf23
  v37 := Tryz.zeroValue23
  t46 := Tryz.underlying135
  a46 := Tryz.isAgg135
  z46 := Tryz.sizeOf135
  v46 := Tryz.zeroValue135
  t51 := Tryz.underlying159
  a51 := Tryz.isAgg159
  z51 := Tryz.sizeOf159
  v51 := Tryz.zeroValue159
  t70 := Tryz.underlying137
  a70 := Tryz.isAgg137
  z70 := Tryz.sizeOf137
  v70 := Tryz.zeroValue137
  t72 := Tryz.underlying139
  a72 := Tryz.isAgg139
  z72 := Tryz.sizeOf139
  v72 := Tryz.zeroValue139
  t75 := Tryz.underlying144
  a75 := Tryz.isAgg144
  z75 := Tryz.sizeOf144
  v75 := Tryz.zeroValue144
  t76 := Tryz.underlying145
  a76 := Tryz.isAgg145
  z76 := Tryz.sizeOf145
  v76 := Tryz.zeroValue145
  t105 := Tryz.underlying140
  a105 := Tryz.isAgg140
  z105 := Tryz.sizeOf140
  v105 := Tryz.zeroValue140
  t107 := Tryz.underlying125
  a107 := Tryz.isAgg125
  z107 := Tryz.sizeOf125
  v107 := Tryz.zeroValue125
  t119 := Tryz.underlying168
  a119 := Tryz.isAgg168
  z119 := Tryz.sizeOf168
  t127 := Tryz.underlying165
  a127 := Tryz.isAgg165
  z127 := Tryz.sizeOf165
  v127 := Tryz.zeroValue165
  t138 := Tryz.underlying170
  a138 := Tryz.isAgg170
  z138 := Tryz.sizeOf170
  v138 := Tryz.zeroValue170
  t139 := Tryz.underlying171
  a139 := Tryz.isAgg171
  z139 := Tryz.sizeOf171
  v139 := Tryz.zeroValue171
  t164 := Tryz.underlying172
  a164 := Tryz.isAgg172
  z164 := Tryz.sizeOf172
  v164 := Tryz.zeroValue172
  g3 := by kernel_rfl
  g4 := by kernel_rfl
theorem extra230 : Builder.Extra Tryz.prog rho where
  sizeBuilder := by kernel_rfl
  liesBuilder := by kernel_rfl
  t5 := Tryz.underlying5
  a5 := Tryz.isAgg5
  z5 := Tryz.sizeOf5
  v5 := Tryz.zeroValue5
  infoByte := by kernel_rfl
  cellsByte := by kernel_rfl
  sizeByte := by kernel_rfl
  neB5 := by decide
theorem tabs_of {m : Mm} {w : World} (hs : Sub m w) (hT : GT m) : Lib.Utf8Tabs (rho.g 3) (rho.g 4) w := by
  refine ⟨fun c hc => hs _ _ _ (hT _ _ _ ?_), fun i hi => ⟨hs _ _ _ (hT _ _ _ ?_), hs _ _ _ (hT _ _ _ ?_)⟩⟩
  · show tabC 1 c = _
    unfold tabC; rw [if_pos rfl, if_pos hc]
  · show tabC 2 (2 * i) = _
    unfold tabC; rw [if_neg (by decide), if_pos rfl, if_pos (by omega), if_pos (by omega)]
    have : 2 * i / 2 = i := by omega
    rw [this]
  · show tabC 2 (2 * i + 1) = _
    unfold tabC; rw [if_neg (by decide), if_pos rfl, if_pos (by omega), if_neg (by omega)]
    have : (2 * i + 1) / 2 = i := by omega
    rw [this]
theorem map_ {g : FuncId} (hg : ∀ r : Int, 0 ≤ r → r ≤ 1114111 → PCalls Tryz.prog g [.v (.int .i32 r)] (.v (.int .i32 (lowR r)))) (s : ByteArray) (hs : s.size < 35184372088832) :
    PCalls Tryz.prog 87 [.clo g [], .v (.string s)] (.v (.string (bs (Lib.mapD lowR s.toList)))) where
  ent := fun vals w => by simp [callFunc, Tryz.func87]; rfl
  run := fun m w vals hsub hl hv hT => by
    obtain ⟨v0, v1, rfl⟩ : ∃ v0 v1, vals = #[v0, v1] := by
      match vals, hl with
      | ⟨[a, b]⟩, _ => exact ⟨a, b, rfl⟩
    have h0 := hv 0 _ v0 rfl rfl
    have h1 := tr_v (hv 1 _ v1 rfl rfl)
    subst h1
    obtain rfl : v0 = .func (.func g) #[] #[] := by
      cases h0 with
      | clo _ _ vs h _ => have : vs = #[] := by simpa using h
                          rw [this]
    have ed : s.data.toList = s.toList := by rw [ByteArray.toList_eq]
    have key := Any.strings_Map_grows lays230 extra230 g #[] (fun args W => (hg 0 (by omega) (by omega)).ent args W) lowR s w hs (fun W x hx hb => by
      have hr := (hg (x : Int) (by omega) (by omega)).run m W #[encR x] (hsub.lo hb) rfl (fun i t v h1 h2 => by
        match i, h1, h2 with
        | 0, h1, h2 => simp at h1 h2; subst h1 h2; exact .v _) hT
      simp only [Array.append_empty]
      refine Calls.mono hr ?_
      rintro e W' ⟨v, m', rfl, hlo, _, _, ht⟩
      rw [tr_v ht]
      exact ⟨rfl, hlo⟩) (fun x hx => by unfold lowR; split <;> omega) (tabs_of hsub hT)
    refine Calls.mono key ?_
    rintro e w' ⟨rfl, hb⟩
    rw [ed]
    exact ⟨_, m, rfl, hb, Ext.refl _ _, hsub.lo hb, .v _⟩
end Go.Proofs.YtloippgblkoemaaGreatDoor.Mp

/- Requests: small letters, a method, a port, a host: walks. -/
namespace Go.Proofs.YtloippgblkoemaaGreatDoor.Ro
set_option linter.unusedVariables false
set_option linter.unusedSimpArgs false
open Go.RowKit Mem Sim Opn Hd Str Pth Rq
set_option maxRecDepth 100000 in
theorem small1_ (r : Int) (h0 : 0 ≤ r) (h1 : r ≤ 1114111) : PCalls Tryz.prog 88 [.v (.int .i32 r)] (.v (.int .i32 (Mp.lowR r))) := by
  unfold Mp.lowR
  refine pcalls_of Tryz.func88 rfl rfl Tryz.ntmps88 rfl ?_
  rcases (by omega : r < 65 ∨ (65 ≤ r ∧ r ≤ 90) ∨ 90 < r) with h | h | h
  · rw [if_neg (by omega)]
    repeat' (first | refine rg 0 (aq0 ?_) | refine rg 1 (aq13 ?_) | refine rg 3 (aq4 ?_) | refine gc ?_ | refine ct ?_ | refine cf ?_ | refine sc ?_ ?_ <;> intro hc | refine rq rfl (rt .nil) ?_)
    rfl
  · rw [if_pos h]
    repeat' (first | refine rg 0 (aq0 ?_) | refine rg 1 (aq11 ?_) | (refine rg 2 ?_; refine oMv ?_; (first | refine sp (xinc rfl) ?_ | refine sp (po_arith rfl rfl rfl (ar_add (by first | rfl | (refine wrap_i64 ?_; omega) | (refine wrap_i32 ?_; omega)) rfl)) ?_); refine aq0 ?_) | refine gc ?_ | refine ct ?_ | refine cf ?_ | refine sc ?_ ?_ <;> intro hc | refine rq rfl (rt .nil) ?_)
    rfl
  · rw [if_neg (by omega)]
    repeat' (first | refine rg 0 (aq0 ?_) | refine rg 1 (aq11 ?_) | refine rg 3 (aq4 ?_) | refine gc ?_ | refine ct ?_ | refine cf ?_ | refine sc ?_ ?_ <;> intro hc | refine rq rfl (rt .nil) ?_)
    rfl
set_option maxRecDepth 100000 in
theorem small_ (s : ByteArray) (hs : s.size ≤ 1000000) : PCalls Tryz.prog 63 [.v (.string s)] (.v (.string (bs (Lib.mapD Mp.lowR s.toList)))) := by
  have c0 := Mp.map_ small1_ s (by omega)
  refine pcalls_of Tryz.func63 rfl rfl Tryz.ntmps63 rfl ?_
  repeat' (first | refine rg 0 (aq0 ?_) | (refine rg 1 ?_; refine oMv ?_; refine oC (c0) rfl (ac (ac .nil)) ?_; refine aq0 ?_) | refine gc ?_ | refine ct ?_ | refine cf ?_ | refine sc ?_ ?_ <;> intro hc | refine rq rfl (rt .nil) ?_)
  rfl
theorem contains1_ (s : ByteArray) (c : UInt8) : PCalls Tryz.prog 64 [.v (.string s), .v (.string ⟨#[c]⟩)] (.v (.bool (s.toList.any (· == c)))) := by
  have hi := index_ s c
  have he := idx_any s.data.toList c
  rw [← ByteArray.toList_eq] at he hi
  generalize Lib.indexByte s.toList c = z at *
  refine pcalls_of Tryz.func64 rfl rfl Tryz.ntmps64 rfl ?_
  rw [← he]
  repeat' (first | refine rg 0 (aq0 ?_) | (refine rg 1 (aq15 ?_); refine oC (hi) rfl (ac (ac .nil)) ?_; refine aq43 ?_) | refine gc ?_ | refine ct ?_ | refine cf ?_ | refine sc ?_ ?_ <;> intro hc | refine rq rfl (rt .nil) ?_)
  rfl
def upB (c : UInt8) : Bool := decide (65 ≤ c.toNat) && decide (c.toNat ≤ 90)
theorem methB_eq (m : L8) : methB m = (m.all upB && (decide (1 ≤ m.length) && decide (m.length ≤ 16))) := rfl
set_option maxRecDepth 100000 in
set_option maxHeartbeats 1000000 in
theorem method_ (s : ByteArray) (hs : s.size ≤ 1000000) : PCalls Tryz.prog 61 [.v (.string s)] (.v (.bool (methB s.toList))) := by
  have hl := toList_len s
  rw [methB_eq, hl]
  refine pcalls_of Tryz.func61 rfl rfl Tryz.ntmps61 rfl ?_
  repeat' (first | refine rg 0 (aq0 ?_) | refine rg 1 (aq0 ?_) | refine gc ?_ | refine ct ?_ | refine cf ?_ | refine sc ?_ ?_ <;> intro hc | refine rq rfl (rt .nil) ?_)
  refine swp_for (fun k => ⟨[(0, .t (.v (.string s))), (3, .t (.v (.int .i64 (k : Int))))], [], []⟩) (fun k => (s.toList.take k).all upB = true) s.size (weak_sub (.cons rfl rfl rfl (.cons rfl rfl rfl .nil)) .nil .nil) rfl ?_
  intro k hk hI
  by_cases hlt : k < s.size
  · cases hd : upB s[k] with
    | true =>
      have hd2 : 65 ≤ s[k].toNat ∧ s[k].toNat ≤ 90 := by unfold upB at hd; simpa using hd
      repeat' (first | refine for_next hlt (weak_sub (.cons rfl rfl rfl (.cons rfl rfl rfl .nil)) .nil .nil) (all_snoc hI hlt hd) | refine rg 2 (aq22 ?_) | refine rg 4 (aq88 ?_) | refine rg 3 (aq3 ?_) | refine gc ?_ | refine ct ?_ | refine cf ?_)
    | false =>
      rw [all_bad hlt hd]
      have hd2 : s[k].toNat < 65 ∨ 90 < s[k].toNat := by
        unfold upB at hd
        rw [Bool.and_eq_false_iff, decide_eq_false_iff_not, decide_eq_false_iff_not] at hd
        omega
      rcases hd2 with hd2 | hd2
      all_goals
        repeat' (first | refine rg 2 (aq22 ?_) | refine rg 4 (aq89 ?_) | refine rg 5 (aq0 ?_) | refine gc ?_ | refine ct ?_ | refine cf ?_ | refine sc ?_ ?_ <;> intro hc | refine rq rfl (rt .nil) ?_)
        rfl
  · obtain rfl : k = s.size := by omega
    rw [take_full s (Nat.lt_irrefl _)] at hI
    rw [hI]
    by_cases h1 : 1 ≤ s.size
    · by_cases h2 : s.size ≤ 16
      · rw [decide_eq_true h1, decide_eq_true h2]
        repeat' (first | refine rg 2 (aq22 ?_) | refine rg 6 (aq90 ?_) | refine gc ?_ | refine ct ?_ | refine cf ?_ | refine sc ?_ ?_ <;> intro hc | refine rq rfl (rt .nil) ?_)
        refine eq_b ?_
        rw [decide_eq_true (by omega)]; rfl
      · rw [decide_eq_true h1, decide_eq_false h2]
        repeat' (first | refine rg 2 (aq22 ?_) | refine rg 6 (aq90 ?_) | refine gc ?_ | refine ct ?_ | refine cf ?_ | refine sc ?_ ?_ <;> intro hc | refine rq rfl (rt .nil) ?_)
        refine eq_b ?_
        rw [decide_eq_false (by omega)]; rfl
    · rw [decide_eq_false h1]
      repeat' (first | refine rg 2 (aq22 ?_) | (refine rg 6 ?_; refine oMv ?_; refine sp (po_len_str rfl rfl (tyR rfl)) ?_; refine oCm ?_; refine oMv ?_; (first | refine oMv ?_ | refine oK ?_) <;> (first | refine sp (po_len_str rfl rfl (tyR rfl)) ?_ | refine oK ?_) <;> (first | refine oCm ?_ | refine oK ?_) <;> (first | refine oPt ?_ | refine oPf ?_) <;> refine oAs ?_ <;> refine oN ?_) | refine gc ?_ | refine ct ?_ | refine cf ?_ | refine sc ?_ ?_ <;> intro hc | refine rq rfl (rt .nil) ?_)
      rfl
theorem numL_bd (l : List UInt8) (k : Nat) (h : (l.take k).all digB = true) (hk : k ≤ 5) : numL (l.take k) ≤ 99999 := by
  have h1 := numL_lt (l.take k) h (l.take k).length (Nat.le_refl _)
  rw [List.take_length] at h1
  have h2 : 10 ^ (l.take k).length ≤ 10 ^ 5 := Nat.pow_le_pow_right (by omega) (by rw [List.length_take]; omega)
  omega
theorem head_get (s : ByteArray) (h : 0 < s.size) : s.toList.head? = some s[0] := by
  have := toList_get s 0 h
  rw [← this]; exact List.head?_eq_getElem?
set_option maxRecDepth 100000 in
set_option maxHeartbeats 4000000 in
theorem port_ (s : ByteArray) (hs : s.size ≤ 1000000) : PCalls Tryz.prog 86 [.v (.string s)] (.v (.bool (portB s.toList))) := by
  have hl := toList_len s
  have hnil := size_nil s
  have hne : decide (s.toList ≠ []) = decide (s.size ≠ 0) := by
    rw [decide_eq_decide, ← hl]; simp
  unfold portB
  rw [hne, hl]
  refine pcalls_of Tryz.func86 rfl rfl Tryz.ntmps86 rfl ?_
  repeat' (first | refine rg 0 (aq0 ?_) | refine rg 1 (aq0 ?_) | refine rg 2 (aq48 ?_) | refine gc ?_ | refine ct ?_ | refine cf ?_ | refine sc ?_ ?_ <;> intro hc | refine rq rfl (rt .nil) ?_)
  refine swp_for (fun k => ⟨[(0, .t (.v (.string s))), (3, .t (.v (.int .i64 ((numL (s.toList.take k) : Nat) : Int)))), (7, .bp 1000 0)], [(1000, itC s k)], []⟩) (fun k => (s.toList.take k).all digB = true ∧ (0 < k → s.size ≤ 5)) s.size (weak_sub (.cons rfl rfl rfl (.cons rfl rfl rfl (.cons rfl rfl rfl .nil))) (.cons rfl rfl rfl .nil) .nil) ⟨rfl, fun h => absurd h (Nat.lt_irrefl 0)⟩ ?_
  intro k hk ⟨hI, hI2⟩
  by_cases hlt : k < s.size
  · cases hd : digB s[k] with
    | true =>
      have hdec := dig_rune hlt hd
      have hd2 : 48 ≤ s[k].toNat ∧ s[k].toNat ≤ 57 := by unfold digB at hd; simpa using hd
      by_cases h5 : s.size ≤ 5
      · have hb := numL_bd s.toList k hI (by omega)
        have hn := numL_snoc s.toList (k := k) (by omega)
        rw [toList_at s hlt] at hn
        repeat' (first | refine for_next hlt (weak_sub (.cons rfl (by rfl) rfl (.cons rfl (by first | rfl | (exact congrArg (fun n => A.t (T.v (Value.int .i64 n))) (by rw [hn]; omega))) rfl (.cons rfl (by rfl) rfl .nil))) (.cons rfl (by rfl) rfl .nil) .nil) ⟨all_snoc hI hlt hd, fun _ => h5⟩ | refine rg 3 (aq28 ?_) | refine rg 4 (aq29 ?_) | refine rg 5 (aq91 ?_) | (refine rg 7 ?_; refine oMv ?_; refine sp (po_arith rfl rfl rfl (ar_mul (by first | rfl | (refine wrap_i64 ?_; omega)) rfl)) ?_; refine oMv ?_; (first | refine sp (po_dec rfl rfl rfl (by omega)) ?_ | refine sp (po_arith rfl rfl rfl (ar_sub (by first | rfl | (refine wrap_i64 ?_; omega) | (refine wrap_i32 ?_; omega)) rfl)) ?_); refine sp (po_conv_int rfl rfl (tyK rfl) (tyK rfl) (by (refine wrap_i64 ?_; omega))) ?_; (first | refine sp (xinc rfl) ?_ | refine sp (po_arith rfl rfl rfl (ar_add (by first | rfl | (refine wrap_i64 ?_; omega)) rfl)) ?_); refine aq0 ?_) | refine gc ?_ | refine ct ?_ | refine cf ?_)
      · rw [decide_eq_false (show ¬ s.size ≤ 5 from h5)]
        simp only [Bool.false_and, Bool.and_false]
        repeat' (first | refine rg 3 (aq28 ?_) | refine rg 4 (aq29 ?_) | refine rg 5 (aq91 ?_) | refine rg 6 (aq0 ?_) | refine gc ?_ | refine ct ?_ | refine cf ?_ | refine sc ?_ ?_ <;> intro hc | refine rq rfl (rt .nil) ?_)
        rfl
    | false =>
      have hr := nodig_rune hlt hd
      rw [all_bad hlt hd]
      simp only [Bool.false_and, Bool.and_false]
      generalize hdec : Utf8.decode s k = ck at hr
      obtain ⟨c, w⟩ := ck
      rcases hr with hr | hr
      all_goals
        simp only [] at hr
        repeat' (first | refine rg 3 (aq28 ?_) | refine rg 4 (aq29 ?_) | (refine rg 5 ?_; refine oMv ?_; refine oCm ?_; refine oMv ?_; (first | refine oMv ?_ | refine oK ?_) <;> (first | refine oCm ?_ | refine oK ?_) <;> (first | refine oPt ?_ | refine oPf ?_) <;> refine oMv ?_ <;> (first | refine oMv ?_ | refine oK ?_) <;> (first | refine sp (po_len_str rfl rfl (tyR rfl)) ?_ | refine oK ?_) <;> (first | refine oCm ?_ | refine oK ?_) <;> refine oPt ?_ <;> refine oN ?_) | refine rg 6 (aq0 ?_) | refine gc ?_ | refine ct ?_ | refine cf ?_ | refine sc ?_ ?_ <;> intro hc | refine rq rfl (rt .nil) ?_)
        rfl
  · obtain rfl : k = s.size := by omega
    rw [take_full s (Nat.lt_irrefl _)] at hI ⊢
    rw [hI]
    by_cases h0 : s.size = 0
    · have e1 : (!decide (s = ⟨#[]⟩)) = false := by rw [hnil, decide_eq_true h0]; rfl
      rw [decide_eq_false (show ¬ s.size ≠ 0 by omega)]
      repeat' (first | refine rg 3 (aq30 ?_) | (refine rg 8 ?_; refine oMv ?_; refine sp (po_str rfl rfl rfl rfl) ?_; refine oMv ?_; (first | refine oMv ?_ | refine oK ?_) <;> (first | refine sp (po_index_str (k := 0) rfl rfl rfl (tyR rfl) (by rfl) (by first | assumption | omega)) ?_ | refine oK ?_) <;> (first | refine oCm ?_ | refine oK ?_) <;> (first | refine oPt ?_ | refine oPf ?_) <;> refine oMv ?_ <;> (first | refine oMv ?_ | refine oK ?_) <;> (first | refine oCm ?_ | refine oK ?_) <;> (first | refine oPt ?_ | refine oPf ?_) <;> refine oAs ?_ <;> refine oN ?_) | refine gc ?_ | refine ct ?_ | refine cf ?_ | refine sc ?_ ?_ <;> intro hc | refine rq rfl (rt .nil) ?_)
      rfl
    · have e1 : (!decide (s = ⟨#[]⟩)) = true := by rw [hnil, decide_eq_false h0]; rfl
      have h1 : 0 < s.size := by omega
      rw [decide_eq_true (show s.size ≠ 0 from h0), decide_eq_true (hI2 h1), head_get s h1]
      by_cases h48 : s[0].toNat = 48
      · have e2 : (!decide (((s[0].toNat : Nat) : Int) = 48)) = false := by rw [h48]; rfl
        rw [decide_eq_false (fun h => h (by rw [show s[0] = 48 from UInt8.toNat_inj.1 h48]))]
        repeat' (first | refine rg 3 (aq30 ?_) | (refine rg 8 ?_; refine oMv ?_; refine sp (po_str rfl rfl rfl rfl) ?_; refine oMv ?_; refine oMv ?_ <;> refine sp (po_index_str (k := 0) rfl rfl rfl (tyR rfl) (by rfl) (by assumption)) ?_ <;> refine oCm ?_ <;> refine oPt ?_ <;> refine oMv ?_ <;> (first | refine oMv ?_ | refine oK ?_) <;> (first | refine oCm ?_ | refine oK ?_) <;> (first | refine oPt ?_ | refine oPf ?_) <;> refine oAs ?_ <;> refine oN ?_) | refine gc ?_ | refine ct ?_ | refine cf ?_ | refine sc ?_ ?_ <;> intro hc | refine rq rfl (rt .nil) ?_)
        rfl
      · have e2 : (!decide (((s[0].toNat : Nat) : Int) = 48)) = true := by rw [decide_eq_false (by omega)]; rfl
        rw [decide_eq_true (show (some s[0] : Option UInt8) ≠ some 48 from fun h => h48 (by injection h with h; rw [h]; rfl))]
        by_cases hm : numL s.toList ≤ 65535
        · rw [decide_eq_true hm]
          repeat' (first | refine rg 3 (aq30 ?_) | refine rg 8 (aq92 ?_) | refine gc ?_ | refine ct ?_ | refine cf ?_ | refine sc ?_ ?_ <;> intro hc | refine rq rfl (rt .nil) ?_)
          refine eq_b ?_
          rw [decide_eq_true (by omega)]; rfl
        · rw [decide_eq_false hm]
          repeat' (first | refine rg 3 (aq30 ?_) | refine rg 8 (aq92 ?_) | refine gc ?_ | refine ct ?_ | refine cf ?_ | refine sc ?_ ?_ <;> intro hc | refine rq rfl (rt .nil) ?_)
          refine eq_b ?_
          rw [decide_eq_false (by omega)]; rfl
end Go.Proofs.YtloippgblkoemaaGreatDoor.Ro

/- Requests: a host: a walk. -/
namespace Go.Proofs.YtloippgblkoemaaGreatDoor.Ro
set_option linter.unusedVariables false
set_option linter.unusedSimpArgs false
open Go.RowKit Mem Sim Opn Hd Str Pth Rq
theorem tw_idx (c : UInt8) : ∀ l : L8, l.takeWhile (· != c) = l.take (l.findIdx (· == c)) ∧ l.dropWhile (· != c) = l.drop (l.findIdx (· == c)) ∧ l.any (· == c) = decide (l.findIdx (· == c) < l.length)
  | [] => ⟨rfl, rfl, rfl⟩
  | d :: l => by
    obtain ⟨h1, h2, h3⟩ := tw_idx c l
    rw [List.takeWhile_cons, List.dropWhile_cons, List.findIdx_cons, List.any_cons]
    by_cases h : d = c
    · subst h; simp
    · have e1 : (d != c) = true := by simpa using h
      have e2 : (d == c) = false := by simpa using h
      rw [e1, e2]
      refine ⟨by simpa using h1, by simpa using h2, ?_⟩
      rw [Bool.false_or, h3]
      simp
theorem cutT_C (s : ByteArray) (c : UInt8) : cutT s c = .tup [.v (.string (bs (s.toList.takeWhile (· != c)))), .v (.string (bs ((s.toList.dropWhile (· != c)).drop 1))), .v (.bool (s.toList.any (· == c)))] := by
  have hl := toList_len s
  obtain ⟨h1, h2, h3⟩ := tw_idx c s.toList
  rw [h1, h2, h3, hl]
  unfold cutT
  by_cases h : fidx s c < s.size
  · rw [if_pos h, decide_eq_true (show s.toList.findIdx (· == c) < s.size from h), ba_extract, ba_extract, List.drop_zero, List.take_of_length_le (by omega : s.toList.length ≤ s.size), List.drop_drop]; rfl
  · rw [if_neg h, decide_eq_false (show ¬ s.toList.findIdx (· == c) < s.size from h), List.take_of_length_le (show s.toList.length ≤ s.toList.findIdx (· == c) by unfold fidx at h; omega), toList_bs, List.drop_drop, List.drop_of_length_le (by unfold fidx at h; omega)]; rfl
theorem host_ways (n : Nat) : n < 45 ∨ n = 45 ∨ n = 46 ∨ n = 47 ∨ (48 ≤ n ∧ n ≤ 57) ∨ (57 < n ∧ n < 97) ∨ (97 ≤ n ∧ n ≤ 122) ∨ 122 < n := by omega
theorem hostC_no {c : UInt8} (h : hostC c = false) : c.toNat < 45 ∨ c.toNat = 47 ∨ (57 < c.toNat ∧ c.toNat < 97) ∨ 122 < c.toNat := by
  rcases host_ways c.toNat with h1 | h1 | h1 | h1 | h1 | h1 | h1 | h1
  · exact .inl h1
  · unfold hostC at h; simp [h1] at h
  · unfold hostC at h; simp [h1] at h
  · exact .inr (.inl h1)
  · unfold hostC at h; simp [h1] at h
  · exact .inr (.inr (.inl h1))
  · unfold hostC at h; simp [h1] at h
  · exact .inr (.inr (.inr h1))
theorem hostC_yes {c : UInt8} (h : hostC c = true) : c.toNat = 45 ∨ c.toNat = 46 ∨ (48 ≤ c.toNat ∧ c.toNat ≤ 57) ∨ (97 ≤ c.toNat ∧ c.toNat ≤ 122) := by
  unfold hostC at h
  simp only [Bool.or_eq_true, Bool.and_eq_true, decide_eq_true_eq] at h
  omega
theorem tw_len (s : L8) (c : UInt8) : (s.takeWhile (· != c)).length ≤ s.length := (List.takeWhile_sublist _).length_le
theorem dw_len (s : L8) (c : UInt8) : ((s.dropWhile (· != c)).drop 1).length ≤ s.length := by
  have := (List.dropWhile_sublist (l := s) (fun x => x != c)).length_le
  rw [List.length_drop]; omega
set_option maxRecDepth 100000 in
set_option maxHeartbeats 4000000 in
theorem mayHost_ (s : ByteArray) (hs : s.size ≤ 1000000) : PCalls Tryz.prog 62 [.v (.string s)] (.v (.bool (hostB s.toList))) := by
  have hl := toList_len s
  have c0 := cut_ s 58 (by unfold maxLen; omega)
  rw [cutT_C] at c0
  have hn1 : (nameL s.toList).length ≤ 1000000 := by have := tw_len s.toList 58; unfold nameL; omega
  have hn2 : (portL s.toList).length ≤ 1000000 := by have := dw_len s.toList 58; unfold portL; omega
  have c1 := port_ (bs (portL s.toList)) (by rw [bs_size]; exact hn2)
  rw [bs_toList] at c1
  unfold hostB
  rw [hl]
  change PCalls _ _ _ (.tup [.v (.string (bs (nameL s.toList))), .v (.string (bs (portL s.toList))), .v (.bool (hasC s.toList))]) at c0
  generalize nameL s.toList = nm at *
  generalize portL s.toList = pt at *
  generalize hasC s.toList = hc at *
  have hb := bs_toList nm
  have hz := bs_size nm
  have hnn : decide (nm ≠ []) = !decide (bs nm = ⟨#[]⟩) := by rw [bs_eq_nil]; simp
  rw [hnn, ← hb]
  generalize bs nm = nb at *
  rw [hb]
  subst hb
  rw [toList_bs]
  refine pcalls_of Tryz.func62 rfl rfl Tryz.ntmps62 rfl ?_
  repeat' (first | refine rg 0 (aq0 ?_) | (refine rg 1 ?_; refine oMv ?_; refine oC (c0) rfl (ac (ac .nil)) ?_; refine aq93 ?_) | refine rg 2 (aq0 ?_) | refine gc ?_ | refine ct ?_ | refine cf ?_ | refine sc ?_ ?_ <;> intro hc | refine rq rfl (rt .nil) ?_)
  refine swp_for (fun k => ⟨[(0, .t (.v (.string s))), (3, .t (.v (.string nb))), (4, .t (.v (.string (bs pt)))), (5, .t (.v (.bool hc))), (6, .t (.v (.int .i64 (k : Int))))], [], []⟩) (fun k => (nb.toList.take k).all hostC = true) nb.size (weak_sub (.cons rfl rfl rfl (.cons rfl rfl rfl (.cons rfl rfl rfl (.cons rfl rfl rfl (.cons rfl rfl rfl .nil))))) .nil .nil) rfl ?_
  intro k hk hI
  by_cases hlt : k < nb.size
  · cases hd : hostC nb[k] with
    | true =>
      rcases hostC_yes hd with h | h | h | h
      all_goals
        repeat' (first | refine for_next hlt (weak_sub (.cons rfl rfl rfl (.cons rfl rfl rfl (.cons rfl rfl rfl (.cons rfl rfl rfl (.cons rfl rfl rfl .nil))))) .nil .nil) (all_snoc hI hlt hd) | refine rg 3 (aq22 ?_) | refine rg 5 (aq23 ?_) | (refine rg 6 ?_; refine oMv ?_; refine oCm ?_; refine oMv ?_; (first | refine oMv ?_ | refine oK ?_) <;> (first | refine oCm ?_ | refine oK ?_) <;> (first | refine oPt ?_ | refine oPf ?_) <;> refine oMv ?_ <;> (first | refine oMv ?_ | refine oK ?_) <;> (first | refine oCm ?_ | refine oK ?_) <;> (first | refine oMv ?_ | refine oK ?_) <;> (first | refine oMv ?_ | refine oK ?_) <;> (first | refine oCm ?_ | refine oK ?_) <;> (first | refine oPt ?_ | refine oPf ?_ | refine oK ?_) <;> (first | refine oPt ?_ | refine oPf ?_) <;> refine oMv ?_ <;> (first | refine oMv ?_ | refine oK ?_) <;> (first | refine oCm ?_ | refine oK ?_) <;> (first | refine oPt ?_ | refine oPf ?_) <;> refine oMv ?_ <;> (first | refine oMv ?_ | refine oK ?_) <;> (first | refine oCm ?_ | refine oK ?_) <;> (first | refine oPt ?_ | refine oPf ?_) <;> refine sp (po_not rfl rfl) ?_ <;> refine oN ?_) | refine rg 4 (aq3 ?_) | refine gc ?_ | refine ct ?_ | refine cf ?_)
    | false =>
      rw [all_bad hlt hd, Bool.false_and]
      rcases hostC_no hd with h | h | h | h
      all_goals
        repeat' (first | refine rg 3 (aq22 ?_) | refine rg 5 (aq23 ?_) | (refine rg 6 ?_; refine oMv ?_; refine oCm ?_; refine oMv ?_; (first | refine oMv ?_ | refine oK ?_) <;> (first | refine oCm ?_ | refine oK ?_) <;> (first | refine oPt ?_ | refine oPf ?_) <;> refine oMv ?_ <;> refine oMv ?_ <;> refine oCm ?_ <;> refine oMv ?_ <;> (first | refine oMv ?_ | refine oK ?_) <;> (first | refine oCm ?_ | refine oK ?_) <;> (first | refine oPt ?_ | refine oPf ?_) <;> (first | refine oPt ?_ | refine oPf ?_) <;> refine oMv ?_ <;> refine oMv ?_ <;> refine oCm ?_ <;> (first | refine oPt ?_ | refine oPf ?_) <;> refine oMv ?_ <;> refine oMv ?_ <;> refine oCm ?_ <;> (first | refine oPt ?_ | refine oPf ?_) <;> refine sp (po_not rfl rfl) ?_ <;> refine oN ?_) | refine rg 7 (aq0 ?_) | refine gc ?_ | refine ct ?_ | refine cf ?_ | refine sc ?_ ?_ <;> intro hc | refine rq rfl (rt .nil) ?_)
        rfl
  · obtain rfl : k = nb.size := by omega
    rw [take_full nb (Nat.lt_irrefl _)] at hI
    rw [hI]
    cases he : (!decide (nb = ⟨#[]⟩)) with
    | false =>
      repeat' (first | refine rg 3 (aq22 ?_) | (refine rg 8 ?_; refine oMv ?_; refine sp (po_str rfl rfl rfl rfl) ?_; refine oMv ?_; (first | refine oMv ?_ | refine oK ?_) <;> (first | refine sp (po_len_str rfl rfl (tyR rfl)) ?_ | refine oK ?_) <;> (first | refine oCm ?_ | refine oK ?_) <;> (first | refine oPt ?_ | refine oPf ?_) <;> refine oMv ?_ <;> (first | refine oMv ?_ | refine oK ?_) <;> (first | refine sp (po_not rfl rfl) ?_ | refine oK ?_) <;> (first | refine oMv ?_ | refine oK ?_) <;> (first | refine oMv ?_ | refine oK ?_) <;> refine oK ?_ <;> (first | refine oPt ?_ | refine oPf ?_ | refine oK ?_) <;> (first | refine oPt ?_ | refine oPf ?_) <;> refine oAs ?_ <;> refine oN ?_) | refine gc ?_ | refine ct ?_ | refine cf ?_ | refine sc ?_ ?_ <;> intro hc | refine rq rfl (rt .nil) ?_)
      rfl
    | true =>
      by_cases h6 : s.size ≤ 64
      · rw [decide_eq_true h6]
        cases hc with
        | false =>
          repeat' (first | refine rg 3 (aq22 ?_) | (refine rg 8 ?_; refine oMv ?_; refine sp (po_str rfl rfl rfl rfl) ?_; refine oMv ?_; refine oMv ?_ <;> refine sp (po_len_str rfl rfl (tyR rfl)) ?_ <;> refine oCm ?_ <;> refine oPt ?_ <;> refine oMv ?_ <;> refine oMv ?_ <;> refine sp (po_not rfl rfl) ?_ <;> refine oMv ?_ <;> (first | refine oMv ?_ | refine oK ?_) <;> refine oK ?_ <;> refine oPt ?_ <;> refine oPt ?_ <;> refine oAs ?_ <;> refine oN ?_) | refine gc ?_ | refine ct ?_ | refine cf ?_ | refine sc ?_ ?_ <;> intro hc | refine rq rfl (rt .nil) ?_)
          rfl
        | true =>
          repeat' (first | refine rg 3 (aq22 ?_) | (refine rg 8 ?_; refine oMv ?_; refine sp (po_str rfl rfl rfl rfl) ?_; refine oMv ?_; refine oMv ?_ <;> refine sp (po_len_str rfl rfl (tyR rfl)) ?_ <;> refine oCm ?_ <;> refine oPt ?_ <;> refine oMv ?_ <;> refine oMv ?_ <;> refine sp (po_not rfl rfl) ?_ <;> refine oMv ?_ <;> refine oMv ?_ <;> refine oC (c1) rfl (ac .nil) ?_ <;> (first | refine oPt ?_ | refine oPf ?_) <;> refine oPt ?_ <;> refine oAs ?_ <;> refine oN ?_) | refine gc ?_ | refine ct ?_ | refine cf ?_ | refine sc ?_ ?_ <;> intro hc | refine rq rfl (rt .nil) ?_)
          rfl
      · rw [decide_eq_false h6]
        repeat' (first | refine rg 3 (aq22 ?_) | (refine rg 8 ?_; refine oMv ?_; refine sp (po_str rfl rfl rfl rfl) ?_; refine oMv ?_; refine oMv ?_ <;> refine sp (po_len_str rfl rfl (tyR rfl)) ?_ <;> refine oCm ?_ <;> refine oPt ?_ <;> refine oMv ?_ <;> (first | refine oMv ?_ | refine oK ?_) <;> (first | refine sp (po_not rfl rfl) ?_ | refine oK ?_) <;> (first | refine oMv ?_ | refine oK ?_) <;> (first | refine oMv ?_ | refine oK ?_) <;> refine oK ?_ <;> (first | refine oPt ?_ | refine oPf ?_ | refine oK ?_) <;> (first | refine oPt ?_ | refine oPf ?_) <;> refine oAs ?_ <;> refine oN ?_) | refine gc ?_ | refine ct ?_ | refine cf ?_ | refine sc ?_ ?_ <;> intro hc | refine rq rfl (rt .nil) ?_)
        rfl
end Go.Proofs.YtloippgblkoemaaGreatDoor.Ro
