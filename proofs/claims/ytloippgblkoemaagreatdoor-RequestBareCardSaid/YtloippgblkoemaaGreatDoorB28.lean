/- Merged by bundles.py: SimAst, SimWr. -/
import Derived.Test.YtloippgblkoemaaGreatDoorB11
import Derived.Test.YtloippgblkoemaaGreatDoorB5
import Derived.Lib.AppendStr
import Derived.Test.YtloippgblkoemaaGreatDoorB21
import Derived.Test.YtloippgblkoemaaGreatDoorB26
import Derived.Test.YtloippgblkoemaaGreatDoorB13
/- A logic of states: a text appended to a row of bytes. -/
namespace Go.Proofs.YtloippgblkoemaaGreatDoor.Sim
set_option linter.unusedVariables false
set_option linter.unusedSimpArgs false
open Go.RowKit Mem
theorem toList_data (s : ByteArray) : s.toList = s.data.toList := by
  have h := bs_toList s.data.toList
  exact h
theorem strCells_bytes (s : ByteArray) : Lib.strCells s = s.toList.map fun b => Value.int .u8 (b.toNat : Int) := by rw [toList_data]; rfl
theorem run_append_str_roomM {P : Program} (w : World) (t u ty e : TypeId) (i : TypeInfo) (ht : P.underlying t = some (.slice e)) (hu : P.underlying u = some .string) (hi : P.info? e = some i) (hs1 : i.size = 1)
    (g sLen sCap : Nat) (cur : Array Value) (fz : Nat × Nat) (hg : w.heap[g]? = some (.cells cur e fz)) (hfz : FzOk fz cur.size) (s : ByteArray)
    (hroom : sLen + s.size ≤ sCap) (hfit : sLen + s.size ≤ cur.size) :
    (Builtin.append_ #[t, u] ty #[.slice (some ⟨g, 0, none⟩) sLen sCap, .string s]).run P w =
      .ok (.slice (some ⟨g, 0, none⟩) (sLen + s.size) sCap) (w.setRow g (cur.toList.take sLen ++ Lib.strCells s ++ cur.toList.drop (sLen + s.size)).toArray) := by
  have hf := Lib.run_firstCells_string (P := P) w 1 s
  have hst := run_storeCells_atM P g sLen e fz (Lib.strCells s) 0 cur w hg hfz (by simpa [Lib.strCells_length] using hfit) (Lib.strCells_oneCell s)
  simp only [Nat.add_zero, Lib.strCells_length] at hst
  simp [Builtin.append_, run_underlying ht, run_underlying hu, sizeOf, typeInfo, hi, hs1, Builtin.lenOf, hroom, hf, Addr.add_lit, hst]
theorem run_append_str3 {P : Program} (w : World) (base : Nat) (t u ty e : TypeId) (i : TypeInfo) (ht : P.underlying t = some (.slice e)) (hu : P.underlying u = some .string) (hi : P.info? e = some i) (hz : i.zero = some (.int .u8 0))
    (hsize : i.size = 1) (hby : i.bytes = 1) (v : Value) (n : Nat) (xs : List Value) (hown : RowM w base e 1 v n xs) (s : ByteArray)
    (h63 : n + s.size ≤ maxLen) (hbytes : n + s.size ≤ 140737488355328) (hbase : base ≤ w.heap.size) :
    ∃ v' w', (Builtin.append_ #[t, u] ty #[v, .string s]).run P w = .ok v' w' ∧ RowM w' base e 1 v' (n + s.size) (xs ++ Lib.strCells s) ∧
      ((v'.ownBlock = v.ownBlock ∧ w.grownBy w' v.ownBlock) ∨ ((∀ g, v'.ownBlock = some g → w.heap.size ≤ g) ∧ Lo w w')) := by
  obtain ⟨hxl, ⟨rfl, rfl⟩ | ⟨g, cap, cur, rfl, hbg, ⟨fz, hg, hfz⟩, hnc, hcm, hcs, htk⟩⟩ := hown
  · obtain ⟨v2, w2, hr2, h22, h3, _⟩ := Lib.run_append_own_string (P := P) w w.heap.size t u ty e i ht hu hi hz hsize hby (.slice none 0 0) 0 xs ⟨hxl, .inl ⟨rfl, rfl⟩⟩ s h63 hbytes (Nat.le_refl _)
    exact ⟨v2, w2, hr2, (RowM.of h22).low hbase, .inr ⟨fun g hg => (h22.lt g hg).1, Lo.of_grown h3⟩⟩
  · have hxl' : xs.length = n := by simpa using hxl
    have hlen : (xs ++ Lib.strCells s).length = (n + s.size) * 1 := by rw [List.length_append, hxl', Lib.strCells_length, Nat.mul_one]
    have hcs' : cap ≤ cur.size := by simpa using hcs
    by_cases hroom : n + s.size ≤ cap
    · have hr2 := run_append_str_roomM (P := P) w t u ty e i ht hu hi hsize g n cap cur fz hg hfz s hroom (by omega)
      have hcl : cur.toList.length = cur.size := by simp
      refine ⟨_, _, hr2, ⟨hlen, .inr ⟨g, cap, _, rfl, hbg, ⟨fz, setRow_heap w g cur _ e fz hg, ?_⟩, hroom, hcm, ?_, ?_⟩⟩, .inl ⟨rfl, rfl, rfl, rfl, by simp [World.setRow], fun k hk hne => setRow_other w g k _ (fun e => hne (by rw [e]; rfl))⟩⟩
      · have : (cur.toList.take n ++ Lib.strCells s ++ cur.toList.drop (n + s.size)).toArray.size = cur.size := by
          simp only [List.size_toArray, List.length_append, List.length_take, List.length_drop, Lib.strCells_length]; rw [hcl]; omega
        rw [this]; exact hfz
      · simp only [List.size_toArray, List.length_append, List.length_take, List.length_drop, Lib.strCells_length]; rw [hcl]; omega
      · have ht' : cur.toList.take n = xs := by simpa using htk
        simp only [List.append_assoc]
        rw [ht', ← List.append_assoc, ← hlen]
        exact List.take_left
    · have holds : ∀ (j : Nat) u, xs[j]? = some u → w.cell? ((⟨g, 0, none⟩ : Addr).add j) = some u := RowM.cells (base := base) (e := e) (v := .slice (some ⟨g, 0, none⟩) n cap) (n := n) ⟨hxl, .inr ⟨g, cap, cur, rfl, hbg, ⟨fz, hg, hfz⟩, hnc, hcm, hcs, htk⟩⟩ rfl
      have hsmall : n + s.size ≤ 9223372036854775807 := by simp only [maxLen] at h63; omega
      have hr2 := Lib.run_append_grow_string (P := P) w t u ty e i (.int .u8 0) ht hu hi hz ⟨g, 0, none⟩ n cap xs (by rw [hsize]; omega) holds s (by omega) (by omega) (by rw [hby]; exact growslice_fits (by omega) (by omega))
      have hge := grownCap_ge w (n + s.size) cap e
      have hcm' : grownCap w (n + s.size) cap e ≤ maxLen := grownCap_le_maxLen w (n + s.size) cap e h63
      refine ⟨_, _, hr2, ⟨hlen, .inr ⟨w.heap.size, _, _, rfl, hbase, ⟨(0, 0), heap_alloc_new w.drew _, .inl rfl⟩, hge, hcm', ?_, ?_⟩⟩, .inr ⟨fun g' hg' => ?_, ((Lo.refl w).drew).alloc _⟩⟩
      · have hz1 : (Value.int IntKind.u8 0).cells.size = 1 := rfl
        simp only [Array.size_append, List.size_toArray, size_zeroCells, hz1, hxl', Lib.strCells_length]
        omega
      · simp only [Array.toList_append, List.append_assoc]
        rw [← List.append_assoc, ← hlen]
        exact List.take_left
      · simp [Value.ownBlock] at hg'
        omega
section
variable {P : Program} {N : Nat} {Q : Exit → St → Prop} {ops : Array Oper} {rest : List Oper} {o : Oper} {tm : List (Nat × A)} {bx : List (Nat × List A)} {ow : List (Nat × Own)}
theorem sops_append_str {t u e : Nat} {x z : Operand} {i n d : Nat} {rows : List (List T)} {s : ByteArray} (hg : o.guard = none) (ho : o.op = .call { callee := .builtin .append, args := #[x, z], argTypes := #[t, u] }) (hd : o.dst = some d) (hN : Nat.blt d N = true)
    (hx : evA tm x = some (.own i n)) (hi : get ow i = some ⟨e, 1, rows⟩) (hn : n = rows.length) (hz : evA tm z = some (.t (.v (.string s)))) (hT : sliceE P t = some (e, 1, 1)) (hU : isStr P u = true) (hZ : (P.info? e).bind (·.zero) = some (.int .u8 0))
    (h0 : 0 < s.size) (hb : rows.length + s.size ≤ 140737488355328)
    (h : SOps P N ops Q rest ⟨(d, .own i (rows ++ s.toList.map byteT).length) :: tm, bx, (i, ⟨e, 1, rows ++ s.toList.map byteT⟩) :: ow⟩) (hp : Nat.ble 2000 i = false := by rfl) : SOps P N ops Q (o :: rest) ⟨tm, bx, ow⟩ := by
  refine sops_run (.free hg rfl) (fun C a w m g hr => ?_) h
  have he := hr.env
  obtain ⟨i', zv, hu, hi', hzz, h4, h5, h6, h7⟩ := sliceE_spec hT
  have hU' := isStr_spec hU
  rw [hi'] at hZ
  have hZ' : i'.zero = some (.int .u8 0) := by simpa using hZ
  obtain ⟨hlw, _, hAx, hgo⟩ := hr.ev hx
  have hln := he.ln i _ hi
  have hvx := hgo (by rw [hln]; exact hn)
  have hvz := tr_v (hr.ev hz)
  obtain ⟨vs, ho1, hrl, hc, hbk⟩ := he.owns i _ hi
  dsimp only at ho1 hrl hc hbk
  have hsz : s.toList.length = s.size := toList_len s
  have hexec : ∀ v' w', (Builtin.append_ #[t, u] o.type #[a.eval x, a.eval z]).run P w = .ok v' w' → (execOp a.eval o).run P w = .ok (.value v') w' := fun v' w' hh => by
    simp only [execOp, ho, resolve, invoke, builtin, Sem.run_bind, Sem.run_pure, Result.andThen_ok, List.map_toArray, List.map_cons, List.map_nil, hh]
  rw [hd]
  have hdN := Nat.lt_of_succ_le (Nat.le_of_ble_eq_true hN)
  obtain ⟨v', w', hrun, hown, hcase⟩ := run_append_str3 (P := P) w 0 t u o.type e i' hu hU' hi' hZ' h4 h5 (g.go i) rows.length vs ho1 s (by unfold maxLen; omega) hb (Nat.zero_le _)
  refine ⟨v', w', hexec _ _ (by rw [hvz, hvx]; exact hrun), ?_⟩
  have hlr : (rows ++ s.toList.map byteT).length = rows.length + s.size := by rw [List.length_append, List.length_map, hsz]
  obtain ⟨h8, h9⟩ := he.setO (hp := hp) (i := i) (v := v') (e := e) (sz := 1) (rows := rows ++ s.toList.map byteT) (vs := vs ++ Lib.strCells s) (by rw [hlr]; exact hown) (fun r hr' => by
      rcases List.mem_append.1 hr' with hr' | hr'
      · exact hrl r hr'
      · obtain ⟨b, _, rfl⟩ := List.mem_map.1 hr'; rfl) (by rw [List.flatten_append, strCells_bytes]; exact hc.app (cells_bytes m s.toList)) (.inl ⟨_, hi, by rw [hlr]; show rows.length < _; omega⟩) (by
      rcases hcase with ⟨e1, e2⟩ | hf
      · exact .inl ⟨_, vis i vs, hi, e1, e2, vis_pre fun k u hk => by rw [List.getElem?_append_left (List.getElem?_eq_some_iff.1 hk).1]; exact hk, fun b hb k => (hbk b hb).1 k⟩
      · exact .inr hf)
  refine ⟨_, _, hr.put h8 (fun x u h => h.setO h9 (.inr (by rw [hln, hlr]; show rows.length < _; omega))) hdN ?_⟩
  refine ⟨by simp [Gh.setO], by simp [Gh.setO], ?_, fun _ => by simp [Gh.setO]⟩
  obtain ⟨_, hq⟩ := hown
  rcases hq with ⟨rfl, e2⟩ | ⟨q, cap, cur, rfl, _⟩
  · omega
  · exact ⟨some ⟨q, 0, none⟩, cap, by rw [hlr]⟩
end
end Go.Proofs.YtloippgblkoemaaGreatDoor.Sim

/- Messages: hex digits, bytes; walks. -/
namespace Go.Proofs.YtloippgblkoemaaGreatDoor.An
set_option linter.unusedVariables false
set_option linter.unusedSimpArgs false
open Go.RowKit Mem Sim Opn Hd Str Rq
theorem enc_all : (List.range 128).all (fun n => decide (Utf8.encode (n : Int) = bs [UInt8.ofNat n])) = true := by kernel_rfl
theorem encode_ascii (c : UInt8) (h : c.toNat < 128) : Utf8.encode (c.toNat : Int) = bs [c] := by
  have := (List.all_eq_true.1 enc_all) c.toNat (List.mem_range.2 h)
  rw [decide_eq_true_eq] at this
  rw [this]; simp
theorem po_conv_rune {P : Program} {bx : List (Nat × List A)} {ow : List (Nat × Own)} {o : Oper} {ρ : Operand → Option A} {src dst : TypeId} {x : Operand} {ik : IntKind} {c : UInt8} (hc : c.toNat < 128) (ho : o.op = .convert src dst x) (hx : ρ x = some (.t (.v (.int ik (c.toNat : Int))))) (hs : intK P src = some ik) (hD : isStr P dst = true) : PureOp P bx ow o ρ (.t (.v (.string (bs [c])))) := pure_run fun C m g w a he h => by
  have h1 := tr_v (h x (by simp [ho, Op.operands]) _ hx)
  refine ⟨.string (bs [c]), ?_, .v _⟩
  simp [execOp, ho, h1, convert, run_underlying (intK_spec hs), run_underlying (isStr_spec hD), Conv.intToString, encode_ascii c hc]
abbrev hexS : ByteArray := ⟨#[48, 49, 50, 51, 52, 53, 54, 55, 56, 57, 97, 98, 99, 100, 101, 102]⟩
theorem hex_tab : ∀ j : Fin 16, hexS[j.1]'(j.2) = hexC j.1 := by decide
theorem hexC_mod (m : Nat) : hexC (m % 16) = hexC m := by unfold hexC; rw [Nat.mod_mod]
theorem hexC_lt (m : Nat) : (hexC m).toNat < 128 := by
  unfold hexC
  split <;> (rw [UInt8.toNat_ofNat']; omega)
theorem po_hexd {P : Program} {bx : List (Nat × List A)} {ow : List (Nat × Own)} {o : Oper} {ρ : Operand → Option A} {t : TypeId} {x ix : Operand} {m : Nat} (ho : o.op = .index t x ix) (hx : ρ x = some (.t (.v (.string hexS)))) (hi : ρ ix = some (.t (.v (.int .i64 ((m % 16 : Nat) : Int))))) (hR : isStr P t = true) : PureOp P bx ow o ρ (.t (.v (.int .u8 ((hexC m).toNat : Int)))) := by
  have hk : m % 16 < hexS.size := by show m % 16 < 16; omega
  have h := po_index_str (P := P) (bx := bx) (ow := ow) ho hx hi hR rfl hk
  have e : hexS[m % 16]'hk = hexC m := by
    have := hex_tab ⟨m % 16, by omega⟩
    rw [← hexC_mod m]; exact this
  rw [e] at h; exact h
theorem hm_lt {n k : Nat} (h : k < hm n) : 0 < n / 16 ^ k := by
  unfold hm at h
  have hk : k = 0 ∨ k = 1 ∨ k = 2 := by split at h <;> (try split at h) <;> (try split at h) <;> omega
  rcases hk with rfl | rfl | rfl
  · simp; split at h <;> (try split at h) <;> (try split at h) <;> omega
  · simp; split at h <;> (try split at h) <;> (try split at h) <;> omega
  · simp; split at h <;> (try split at h) <;> (try split at h) <;> omega
theorem hm_eq {n : Nat} (hn : n ≤ 1024) : n / 16 ^ hm n = 0 := by
  unfold hm
  split
  · simp; omega
  · split
    · simp; omega
    · split
      · simp; omega
      · simp; omega
theorem rem16 (n : Nat) : (n : Int).tmod 16 = ((n % 16 : Nat) : Int) := by rw [show (16 : Int) = ((16 : Nat) : Int) from rfl, Int.ofNat_tmod]
theorem div16 (n k : Nat) : n / 16 ^ k / 16 = n / 16 ^ (k + 1) := by rw [Nat.div_div_eq_div_mul, ← Nat.pow_succ]
set_option maxRecDepth 100000 in
set_option maxHeartbeats 2000000 in
theorem hex_ (n : Nat) (hn : n ≤ 1024) : PCalls Tryz.prog 58 [.v (.int .i64 (n : Int))] (.v (.string (bs (hexL n)))) := by
  refine pcalls_of Tryz.func58 rfl rfl Tryz.ntmps58 rfl ?_
  repeat' (first | refine rg 0 (aq0 ?_) | refine rg 1 (aq0 ?_) | refine gc ?_ | refine ct ?_ | refine cf ?_ | refine sc ?_ ?_ <;> intro hc | refine rq rfl (rt .nil) ?_)
  refine swp_for (fun k => ⟨[(0, .t (.v (.int .i64 ((n / 16 ^ k : Nat) : Int)))), (3, .t (.v (.string (bs (hexK n k)))))], [], []⟩) (fun _ => True) (hm n) (weak_sub (.cons rfl (by first | rfl | ((simp; try rfl))) rfl (.cons rfl (by first | rfl | ((simp; try rfl))) rfl .nil)) .nil .nil) trivial ?_
  intro k hk _
  have h3 := hm_3 n
  have hsz : (bs (hexK n k)).size = k := by rw [bs_size, hexK_len]
  by_cases hlt : k < hm n
  · have h0 := hm_lt hlt
    have hb : n / 16 ^ k ≤ 1024 := Nat.le_trans (Nat.div_le_self _ _) hn
    have hq := div16 n k
    have hrm := rem16 (n / 16 ^ k)
    have hc := hexC_lt (n / 16 ^ k)
    have hs1 : (bs [hexC (n / 16 ^ k)]).size = 1 := rfl
    have hone := bs_one (hexC (n / 16 ^ k)) (hexK n k)
    have hnx : hexK n (k + 1) = hexC (n / 16 ^ k) :: hexK n k := rfl
    repeat' (first | refine for_next hlt (weak_sub (.cons rfl (by first | rfl | (first | rfl | (rw [hq]))) rfl (.cons rfl (by rfl) rfl .nil)) .nil .nil) trivial | (refine rg 2 ?_; (first | refine sp (po_hexd rfl rfl rfl (tyR rfl)) ?_ | refine oMv ?_); (first | refine sp (po_hexd rfl rfl rfl (tyR rfl)) ?_ | refine oCm ?_); refine oN ?_) | (refine rg 4 ?_; (first | refine sp (po_hexd rfl rfl rfl (tyR rfl)) ?_ | refine oMv ?_); refine sp (po_remc hrm rfl rfl rfl (by decide)) ?_; refine sp (po_hexd rfl rfl rfl (tyR rfl)) ?_; (first | refine sp (po_hexd rfl rfl rfl (tyR rfl)) ?_ | refine sp (po_conv_rune hc rfl rfl (tyK rfl) (tyR rfl)) ?_); (first | refine sp (po_hexd rfl rfl rfl (tyR rfl)) ?_ | refine oMv ?_); (first | refine sp (po_remc hrm rfl rfl rfl (by decide)) ?_ | refine sp (po_hexd rfl rfl rfl (tyR rfl)) ?_ | refine sp (po_quoN (d := 16) rfl rfl rfl (by omega) (by omega)) ?_ | refine sp (po_cat rfl rfl rfl (by omega)) ?_); (first | refine sp (po_hexd rfl rfl rfl (tyR rfl)) ?_ | refine oAs ?_); refine oN ?_) | (refine rg 3 ?_; (first | refine sp (po_hexd rfl rfl rfl (tyR rfl)) ?_ | refine oMv ?_); (first | refine sp (po_remc hrm rfl rfl rfl (by decide)) ?_ | refine sp (po_hexd rfl rfl rfl (tyR rfl)) ?_ | refine sp (po_quoN (d := 16) rfl rfl rfl (by omega) (by omega)) ?_); (first | refine sp (po_hexd rfl rfl rfl (tyR rfl)) ?_ | refine oAs ?_); refine oN ?_) | refine gc ?_ | refine ct ?_)
  · obtain rfl : k = hm n := by omega
    have h9 := hm_eq hn
    rw [h9]
    unfold hexL
    repeat' (first | refine rg 2 (aq21 ?_) | refine rg 5 (aq4 ?_) | refine gc ?_ | refine ct ?_ | refine cf ?_ | refine sc ?_ ?_ <;> intro hc | refine rq rfl (rt .nil) ?_)
    rfl
theorem zByte : (Tryz.prog.info? 5).bind (·.zero) = some (.int .u8 0) := by kernel_rfl
abbrev endS : ByteArray := ⟨#[48, 13, 10, 13, 10]⟩
theorem crlf_l : (⟨#[13, 10]⟩ : ByteArray).toList = [13, 10] := bs_toList [13, 10]
theorem end_l : (⟨#[48, 13, 10, 13, 10]⟩ : ByteArray).toList = [48, 13, 10, 13, 10] := bs_toList [48, 13, 10, 13, 10]
set_option maxRecDepth 100000 in
set_option maxHeartbeats 8000000 in
theorem writeOk_ (r : PRaw) (hr : RawOk r) (hw : wrP r = true) : PCalls Tryz.prog 36 [.agg (rawT r)] (.tup [.sl 1 ((msgP r).map byteT), .v (.int .i64 0)]) := by
  unfold wrP at hw
  simp only [Bool.and_eq_true, decide_eq_true_eq] at hw
  obtain ⟨⟨⟨hp, h1⟩, h2⟩, hf⟩ := hw
  obtain ⟨hn, hh, hbd, hs⟩ := hr
  have hm1 : (r.heads.map headT).length = r.heads.length := List.length_map _
  have hm2 : (r.body.map byteT).length = r.body.length := List.length_map _
  have c1 := containsFunc_ 55 write1_ r.start hs
  rw [hp] at c1
  have c2 := rfits_ r.start r.heads hn hh r.body hbd
  rw [hf] at c2
  have c4 := framing_ r.heads hn hh
  unfold framT endT at c4
  have hg : (r.heads.length ≤ 24 ∧ ∀ h ∈ r.heads, good h = true) ∧ r.body.length ≤ 1024 := by
    unfold fitsP at hf
    simp only [Bool.and_eq_true, decide_eq_true_eq] at hf
    have h3 := hf.1.1.2
    unfold mayL at h3
    simp only [Bool.and_eq_true, decide_eq_true_eq] at h3
    exact ⟨⟨h3.1, fun h hh => (List.all_eq_true.1 h3.2) h hh⟩, hf.1.2⟩
  obtain ⟨hg, hb4⟩ := hg
  have hw := wL_len r hg.2 h2
  have hcr : crlf.size = 2 := rfl
  have hcs : (r.start ++ crlf).size = r.start.size + 2 := by rw [ByteArray.size_append, hcr]
  have hsz1 : (r.start ++ crlf).size ≤ maxLen := by unfold maxLen; omega
  have hcr' : (⟨#[13, 10]⟩ : ByteArray).size = 2 := rfl
  have hsz2 : (r.start ++ ⟨#[13, 10]⟩ : ByteArray).size ≤ maxLen := hsz1
  have e0 : wL r 0 = (r.start ++ crlf).toList := by unfold wL; simp
  unfold rawT at c2 ⊢
  refine pcalls_of Tryz.func36 rfl rfl Tryz.ntmps36 rfl ?_
  repeat' (first | refine rg 0 (aq46 ?_) | (refine rg 1 (aq38 ?_); refine oC (c1) rfl (ac (ac .nil)) ?_; refine aq42 ?_) | (refine rg 2 (aq125 ?_) <;> (first | refine oC (c1) rfl (ac .nil) ?_ | refine oC (c2) rfl (ac .nil) ?_) <;> refine aq114 ?_) | (refine rg 4 ?_; refine oFb ?_; refine oLb ?_; refine sp (po_cat rfl rfl rfl (by omega)) ?_; refine sops_str_bytes 101 (.free rfl rfl) rfl rfl rfl rfl (tyR rfl) byt23 (by assumption) rfl ?_; refine aq0 ?_) | (refine rg 5 ?_; refine oFb ?_; refine oLb ?_; refine sp (pln rfl (tyS rfl)) ?_; refine oMv ?_; refine oN ?_) | refine gc ?_ | refine ct ?_ | refine cf ?_ | refine sc ?_ ?_ <;> intro hc | refine rq rfl (rt (rt .nil)) ?_)
  refine swp_for (fun k => ⟨[(1, .bp 1 0), (5, .own 101 ((wL r k).map byteT).length), (41, .t (headsT r.heads)), (42, .t (.v (.int .i64 ((r.heads.map headT).length : Int)))), (43, .t (.v (.int .i64 (k : Int))))], [(1, [.t (.v (.string r.start)), .t (headsT r.heads), .t (.sl 1 (r.body.map byteT))])], [(101, ⟨5, 1, (wL r k).map byteT⟩)]⟩) (fun _ => True) r.heads.length (weak_sub (.cons rfl (by first | rfl | ((rw [e0]))) rfl (.cons rfl (by first | rfl | ((rw [e0]))) rfl (.cons rfl (by first | rfl | ((rw [e0]))) rfl (.cons rfl (by first | rfl | ((rw [e0]))) rfl (.cons rfl (by first | rfl | ((rw [e0]))) rfl .nil))))) (.cons rfl (by first | rfl | ((rw [e0]))) rfl .nil) (.cons rfl (by first | rfl | ((rw [e0]))) .nil)) trivial ?_
  intro k hk _
  have hwk := hw k hk
  have hmw : ((wL r k).map byteT).length = (wL r k).length := List.length_map _
  by_cases hlt : k < r.heads.length
  · have hgk := hg.2 r.heads[k] (List.getElem_mem _)
    have c3 := line_ r.heads[k] (hh _ (List.getElem_mem _))
    rw [hgk, if_pos rfl] at c3
    have hmk : (r.heads.map headT)[k]? = some (headT r.heads[k]) := map_at hlt
    have hls := lineS_size hgk
    have hsc := wL_succ r hlt
    have hlc : (lineS r.heads[k] ++ crlf).size = (lineS r.heads[k]).size + 2 := by rw [ByteArray.size_append, hcr]
    generalize r.heads[k] = h at *
    unfold headT at hmk c3
    have hpos : 0 < (lineS h ++ crlf).size := by omega
    have hbb : ((wL r k).map byteT).length + (lineS h ++ crlf).size ≤ 140737488355328 := by omega
    repeat' (first | refine for_next hlt (weak_sub (.cons rfl (by rfl) rfl (.cons rfl (by first | rfl | ((rw [hsc, List.map_append]))) rfl (.cons rfl (by rfl) rfl (.cons rfl (by rfl) rfl (.cons rfl (by rfl) rfl .nil))))) (.cons rfl (by rfl) rfl .nil) (.cons rfl (by first | rfl | ((rw [hsc, List.map_append]))) .nil)) trivial | refine rg 6 (aq6 ?_) | (refine rg 7 (aq7 ?_); refine sal str65 ?_; refine aq8 ?_) | (refine rg 8 (aq41 ?_); (first | refine sops_append_str rfl rfl rfl rfl rfl rfl rfl rfl (tyE rfl) (tyR rfl) zByte hpos hbb ?_ | refine oC (c3) rfl (ac .nil) ?_); refine aq104 ?_) | (refine rg 9 ?_; refine oMv ?_; refine oMv ?_; refine sp (po_cat rfl rfl rfl (by omega)) ?_; refine sops_append_str rfl rfl rfl rfl rfl rfl rfl rfl (tyE rfl) (tyR rfl) zByte hpos hbb ?_; refine aq0 ?_) | refine rg 10 (aq9 ?_) | refine gc ?_ | refine ct ?_)
  · obtain rfl : k = r.heads.length := by omega
    have hpos : 0 < crlf.size := by decide
    have hbb : ((wL r r.heads.length).map byteT).length + crlf.size ≤ 140737488355328 := by omega
    have hL1 : ((wL r r.heads.length).map byteT ++ crlf.toList.map byteT).length = (wL r r.heads.length).length + 2 := by
      simp only [List.length_append, List.length_map, toList_len]; rfl
    rcases fram_ch r.heads with hc | hc
    · rw [hc] at c4
      have hb2 : (((wL r r.heads.length).map byteT ++ crlf.toList.map byteT).length + (r.body.map byteT).length) * 1 ≤ 140737488355328 := by omega
      have hm3 : ((wL r r.heads.length).map byteT ++ crlf.toList.map byteT).length + (r.body.map byteT).length ≤ maxLen := by unfold maxLen; omega
      have hfin : (msgP r).map byteT = (wL r r.heads.length).map byteT ++ crlf.toList.map byteT ++ r.body.map byteT := by
        unfold msgP tailL
        rw [hc, if_pos rfl, List.map_append, List.map_append, crlf_l]
      rw [hfin]
      repeat' (first | refine rg 6 (aq6 ?_) | (refine rg 11 ?_; refine oMv ?_; refine sops_append_str rfl rfl rfl rfl rfl rfl rfl rfl (tyE rfl) (tyR rfl) zByte hpos hbb ?_; refine aq0 ?_) | (refine rg 12 (aq38 ?_); (first | refine sops_append_str rfl rfl rfl rfl rfl rfl rfl rfl (tyE rfl) (tyR rfl) zByte hpos hbb ?_ | refine oC (c4) rfl (ac .nil) ?_); refine aq27 ?_; refine sal str89 ?_; refine aq58 ?_) | (refine rg 13 ?_; refine oFb ?_; refine oLb ?_; refine oCm ?_; refine oN ?_) | (refine rg 14 ?_; refine oMv ?_; refine oFb ?_; refine oLb ?_; (first | refine sops_append_str rfl rfl rfl rfl rfl rfl rfl rfl (tyE rfl) (tyR rfl) zByte hpos hbb ?_ | refine sap rfl (tyE rfl) ?_); refine aq47 ?_) | refine gc ?_ | refine ct ?_ | refine cf ?_ | refine sc ?_ ?_ <;> intro hc | refine rq rfl (rt (rt .nil)) ?_)
      rfl
    · rw [hc] at c4
      have hpe : 0 < endS.size := by decide
      have hes : endS.size = 5 := rfl
      by_cases hne : r.body = []
      · have hb0 : r.body.length = 0 := by rw [hne]; rfl
        have hbe : ((wL r r.heads.length).map byteT ++ crlf.toList.map byteT).length + endS.size ≤ 140737488355328 := by omega
        have hfin : (msgP r).map byteT = (wL r r.heads.length).map byteT ++ crlf.toList.map byteT ++ endS.toList.map byteT := by
          unfold msgP tailL
          rw [hc, if_neg (by decide), if_pos hne, List.map_append, List.map_append, crlf_l, end_l, List.nil_append]
        rw [hfin]
        repeat' (first | refine rg 6 (aq6 ?_) | (refine rg 11 ?_; refine oMv ?_; refine sops_append_str rfl rfl rfl rfl rfl rfl rfl rfl (tyE rfl) (tyR rfl) zByte hpos hbb ?_; refine aq0 ?_) | (refine rg 12 (aq38 ?_); (first | refine sops_append_str rfl rfl rfl rfl rfl rfl rfl rfl (tyE rfl) (tyR rfl) zByte hpos hbb ?_ | refine sops_append_str rfl rfl rfl rfl rfl rfl rfl rfl (tyE rfl) (tyR rfl) zByte hpe hbe ?_ | refine oC (c4) rfl (ac .nil) ?_); refine aq27 ?_; refine sal str89 ?_; refine aq58 ?_) | (refine rg 13 ?_; refine oFb ?_; refine oLb ?_; refine oCm ?_; refine oN ?_) | (refine rg 15 (aq38 ?_); (first | refine sops_append_str rfl rfl rfl rfl rfl rfl rfl rfl (tyE rfl) (tyR rfl) zByte hpos hbb ?_ | refine sops_append_str rfl rfl rfl rfl rfl rfl rfl rfl (tyE rfl) (tyR rfl) zByte hpe hbe ?_ | refine sp (pln rfl (tyS rfl)) ?_); refine aq0 ?_) | refine rg 16 (aq21 ?_) | (refine rg 19 ?_; refine oMv ?_; (first | refine sops_append_str rfl rfl rfl rfl rfl rfl rfl rfl (tyE rfl) (tyR rfl) zByte hpos hbb ?_ | refine sops_append_str rfl rfl rfl rfl rfl rfl rfl rfl (tyE rfl) (tyR rfl) zByte hpe hbe ?_); refine aq47 ?_) | refine gc ?_ | refine ct ?_ | refine cf ?_ | refine sc ?_ ?_ <;> intro hc | refine rq rfl (rt (rt .nil)) ?_)
        rfl
      · have hb0 : r.body.length ≠ 0 := fun h => hne (List.eq_nil_of_length_eq_zero h)
        have c5 : PCalls Tryz.prog 58 [.v (.int .i64 ((r.body.map byteT).length : Int))] (.v (.string (bs (hexL r.body.length)))) := by rw [hm2]; exact hex_ r.body.length hb4
        have h3 := hm_3 r.body.length
        have hxs : (bs (hexL r.body.length)).size = hm r.body.length := by rw [bs_size]; unfold hexL; rw [hexK_len]
        have hxc : (bs (hexL r.body.length) ++ crlf).size = hm r.body.length + 2 := by rw [ByteArray.size_append, hcr, hxs]
        have hfin : (msgP r).map byteT = (wL r r.heads.length).map byteT ++ crlf.toList.map byteT ++ (bs (hexL r.body.length) ++ crlf).toList.map byteT ++ r.body.map byteT ++ crlf.toList.map byteT ++ endS.toList.map byteT := by
          unfold msgP tailL
          rw [hc, if_neg (by decide), if_neg hne, crlf_list, bs_toList, crlf_l, end_l]
          simp only [List.map_append, List.append_assoc]
        rw [hfin]
        generalize hX : bs (hexL r.body.length) = X at *
        have hL2 : ((wL r r.heads.length).map byteT ++ crlf.toList.map byteT ++ (X ++ crlf).toList.map byteT).length = (wL r r.heads.length).length + 2 + (hm r.body.length + 2) := by
          rw [List.length_append, hL1, List.length_map, toList_len, hxc]
        have hL3 : ((wL r r.heads.length).map byteT ++ crlf.toList.map byteT ++ (X ++ crlf).toList.map byteT ++ r.body.map byteT).length = (wL r r.heads.length).length + 2 + (hm r.body.length + 2) + r.body.length := by
          rw [List.length_append, hL2, hm2]
        have hL4 : ((wL r r.heads.length).map byteT ++ crlf.toList.map byteT ++ (X ++ crlf).toList.map byteT ++ r.body.map byteT ++ crlf.toList.map byteT).length = (wL r r.heads.length).length + 2 + (hm r.body.length + 2) + r.body.length + 2 := by
          rw [List.length_append, hL3, List.length_map, toList_len, hcr]
        have hpx : 0 < (X ++ crlf).size := by omega
        have hbx : ((wL r r.heads.length).map byteT ++ crlf.toList.map byteT).length + (X ++ crlf).size ≤ 140737488355328 := by omega
        have hb2 : (((wL r r.heads.length).map byteT ++ crlf.toList.map byteT ++ (X ++ crlf).toList.map byteT).length + (r.body.map byteT).length) * 1 ≤ 140737488355328 := by omega
        have hm3 : ((wL r r.heads.length).map byteT ++ crlf.toList.map byteT ++ (X ++ crlf).toList.map byteT).length + (r.body.map byteT).length ≤ maxLen := by unfold maxLen; omega
        have hby : ((wL r r.heads.length).map byteT ++ crlf.toList.map byteT ++ (X ++ crlf).toList.map byteT ++ r.body.map byteT).length + crlf.size ≤ 140737488355328 := by omega
        have hbe : ((wL r r.heads.length).map byteT ++ crlf.toList.map byteT ++ (X ++ crlf).toList.map byteT ++ r.body.map byteT ++ crlf.toList.map byteT).length + endS.size ≤ 140737488355328 := by omega
        repeat' (first | refine rg 6 (aq6 ?_) | (refine rg 11 ?_; refine oMv ?_; refine sops_append_str rfl rfl rfl rfl rfl rfl rfl rfl (tyE rfl) (tyR rfl) zByte hpos hbb ?_; refine aq0 ?_) | (refine rg 12 (aq38 ?_); (first | refine sops_append_str rfl rfl rfl rfl rfl rfl rfl rfl (tyE rfl) (tyR rfl) zByte hpos hbb ?_ | refine sops_append_str rfl rfl rfl rfl rfl rfl rfl rfl (tyE rfl) (tyR rfl) zByte hpe hbe ?_ | refine sops_append_str rfl rfl rfl rfl rfl rfl rfl rfl (tyE rfl) (tyR rfl) zByte hpx hbx ?_ | refine sops_append_str rfl rfl rfl rfl rfl rfl rfl rfl (tyE rfl) (tyR rfl) zByte hpos hby ?_ | refine oC (c4) rfl (ac .nil) ?_); refine aq27 ?_; refine sal str89 ?_; refine aq58 ?_) | (refine rg 13 ?_; refine oFb ?_; refine oLb ?_; refine oCm ?_; refine oN ?_) | (refine rg 15 (aq38 ?_); (first | refine sops_append_str rfl rfl rfl rfl rfl rfl rfl rfl (tyE rfl) (tyR rfl) zByte hpos hbb ?_ | refine sops_append_str rfl rfl rfl rfl rfl rfl rfl rfl (tyE rfl) (tyR rfl) zByte hpe hbe ?_ | refine sops_append_str rfl rfl rfl rfl rfl rfl rfl rfl (tyE rfl) (tyR rfl) zByte hpx hbx ?_ | refine sops_append_str rfl rfl rfl rfl rfl rfl rfl rfl (tyE rfl) (tyR rfl) zByte hpos hby ?_ | refine sp (pln rfl (tyS rfl)) ?_); refine aq0 ?_) | refine rg 16 (aq21 ?_) | (refine rg 17 (aq15 ?_); (first | refine sops_append_str rfl rfl rfl rfl rfl rfl rfl rfl (tyE rfl) (tyR rfl) zByte hpos hbb ?_ | refine sops_append_str rfl rfl rfl rfl rfl rfl rfl rfl (tyE rfl) (tyR rfl) zByte hpe hbe ?_ | refine sops_append_str rfl rfl rfl rfl rfl rfl rfl rfl (tyE rfl) (tyR rfl) zByte hpx hbx ?_ | refine sops_append_str rfl rfl rfl rfl rfl rfl rfl rfl (tyE rfl) (tyR rfl) zByte hpos hby ?_ | refine oC (c4) rfl (ac .nil) ?_ | refine oC (c5) rfl (ac .nil) ?_); refine sp (po_cat rfl rfl rfl (by omega)) ?_; (first | refine sops_append_str rfl rfl rfl rfl rfl rfl rfl rfl (tyE rfl) (tyR rfl) zByte hpos hbb ?_ | refine sops_append_str rfl rfl rfl rfl rfl rfl rfl rfl (tyE rfl) (tyR rfl) zByte hpe hbe ?_ | refine sops_append_str rfl rfl rfl rfl rfl rfl rfl rfl (tyE rfl) (tyR rfl) zByte hpx hbx ?_); refine aq0 ?_) | (refine rg 18 ?_; refine oMv ?_; refine oFb ?_; refine oLb ?_; (first | refine sops_append_str rfl rfl rfl rfl rfl rfl rfl rfl (tyE rfl) (tyR rfl) zByte hpos hbb ?_ | refine sops_append_str rfl rfl rfl rfl rfl rfl rfl rfl (tyE rfl) (tyR rfl) zByte hpe hbe ?_ | refine sops_append_str rfl rfl rfl rfl rfl rfl rfl rfl (tyE rfl) (tyR rfl) zByte hpx hbx ?_ | refine sops_append_str rfl rfl rfl rfl rfl rfl rfl rfl (tyE rfl) (tyR rfl) zByte hpos hby ?_ | refine sap rfl (tyE rfl) ?_); (first | refine sops_append_str rfl rfl rfl rfl rfl rfl rfl rfl (tyE rfl) (tyR rfl) zByte hpos hbb ?_ | refine sops_append_str rfl rfl rfl rfl rfl rfl rfl rfl (tyE rfl) (tyR rfl) zByte hpe hbe ?_ | refine sops_append_str rfl rfl rfl rfl rfl rfl rfl rfl (tyE rfl) (tyR rfl) zByte hpx hbx ?_ | refine sops_append_str rfl rfl rfl rfl rfl rfl rfl rfl (tyE rfl) (tyR rfl) zByte hpos hby ?_); refine aq0 ?_) | (refine rg 19 ?_; refine oMv ?_; (first | refine sops_append_str rfl rfl rfl rfl rfl rfl rfl rfl (tyE rfl) (tyR rfl) zByte hpos hbb ?_ | refine sops_append_str rfl rfl rfl rfl rfl rfl rfl rfl (tyE rfl) (tyR rfl) zByte hpe hbe ?_); refine aq47 ?_) | refine gc ?_ | refine ct ?_ | refine cf ?_ | refine sc ?_ ?_ <;> intro hc | refine rq rfl (rt (rt .nil)) ?_)
        rfl
def writeT (r : PRaw) : T := if wrP r then .tup [.sl 1 ((msgP r).map byteT), .v (.int .i64 0)] else .tup [.v (.slice none 0 0), .v (.int .i64 1)]
set_option maxRecDepth 100000 in
set_option maxHeartbeats 2000000 in
theorem write_ (r : PRaw) (hr : RawOk r) : PCalls Tryz.prog 36 [.agg (rawT r)] (writeT r) := by
  unfold writeT
  cases hw : wrP r with
  | true => exact writeOk_ r hr hw
  | false =>
    obtain ⟨hn, hh, hbd, hs⟩ := hr
    unfold maxLen at hs
    have c1 := containsFunc_ 55 write1_ r.start (by unfold maxLen; exact hs)
    have c2 := rfits_ r.start r.heads hn hh r.body hbd
    unfold wrP at hw
    unfold rawT at c2 ⊢
    refine pcalls_of Tryz.func36 rfl rfl Tryz.ntmps36 rfl ?_
    cases hp : plainP r.start with
    | false =>
      rw [hp] at c1
      repeat' (first | refine rg 0 (aq46 ?_) | (refine rg 1 (aq38 ?_); refine oC (c1) rfl (ac (ac .nil)) ?_; refine aq42 ?_) | (refine rg 2 ?_; refine oMv ?_; refine sp (po_not rfl rfl) ?_; refine oMv ?_; (first | refine oFb ?_ | refine oFd ?_ | refine oK ?_); (first | refine oLb ?_ | refine oLd ?_ | refine oK ?_); (first | refine sp (po_len_str rfl rfl (tyR rfl)) ?_ | refine oK ?_); (first | refine oCm ?_ | refine oK ?_); refine oPt ?_; refine oMv ?_; (first | refine oFb ?_ | refine oFd ?_ | refine oK ?_); (first | refine oLb ?_ | refine oLd ?_ | refine oK ?_); (first | refine sp (po_len_str rfl rfl (tyR rfl)) ?_ | refine oK ?_); (first | refine oCm ?_ | refine oK ?_); refine oPt ?_; refine oMv ?_; (first | refine sp (po_load_bx_agg rfl rfl (tyT rfl) rfl (vc (vc (vc .nil))) rfl) ?_ | refine sp (po_load_agg rfl rfl (tyT rfl) rfl rfl) ?_ | refine oK ?_) <;> (first | refine oC (c1) rfl (ac .nil) ?_ | refine oC (c2) rfl (ac .nil) ?_ | refine oK ?_) <;> refine aq112 ?_) | refine rg 3 (aq47 ?_) | refine gc ?_ | refine ct ?_ | refine cf ?_ | refine sc ?_ ?_ <;> intro hc | refine rq rfl (rt (rt .nil)) ?_)
      rfl
    | true =>
      rw [hp] at c1
      by_cases h1 : 1 ≤ r.start.size
      · by_cases h2 : r.start.size ≤ 578
        · rw [hp, decide_eq_true h1, decide_eq_true h2] at hw
          simp only [Bool.true_and] at hw
          rw [hw] at c2
          repeat' (first | refine rg 0 (aq46 ?_) | (refine rg 1 (aq38 ?_); refine oC (c1) rfl (ac (ac .nil)) ?_; refine aq42 ?_) | (refine rg 2 (aq125 ?_) <;> (first | refine oC (c1) rfl (ac .nil) ?_ | refine oC (c2) rfl (ac .nil) ?_) <;> refine aq114 ?_) | refine rg 3 (aq47 ?_) | refine gc ?_ | refine ct ?_ | refine cf ?_ | refine sc ?_ ?_ <;> intro hc | refine rq rfl (rt (rt .nil)) ?_)
          rfl
        · repeat' (first | refine rg 0 (aq46 ?_) | (refine rg 1 (aq38 ?_); refine oC (c1) rfl (ac (ac .nil)) ?_; refine aq42 ?_) | (refine rg 2 ?_; refine oMv ?_; refine sp (po_not rfl rfl) ?_; refine oMv ?_; refine oFb ?_; refine oLb ?_; refine sp (po_len_str rfl rfl (tyR rfl)) ?_; refine oCm ?_; (first | refine oPt ?_ | refine oPf ?_); refine oMv ?_; refine oFb ?_; refine oLb ?_; refine sp (po_len_str rfl rfl (tyR rfl)) ?_; refine oCm ?_; (first | refine oPt ?_ | refine oPf ?_); refine oMv ?_; (first | refine sp (po_load_bx_agg rfl rfl (tyT rfl) rfl (vc (vc (vc .nil))) rfl) ?_ | refine sp (po_load_agg rfl rfl (tyT rfl) rfl rfl) ?_ | refine oK ?_) <;> (first | refine oC (c1) rfl (ac .nil) ?_ | refine oC (c2) rfl (ac .nil) ?_ | refine oK ?_) <;> refine aq112 ?_) | refine rg 3 (aq47 ?_) | refine gc ?_ | refine ct ?_ | refine cf ?_ | refine sc ?_ ?_ <;> intro hc | refine rq rfl (rt (rt .nil)) ?_)
          rfl
      · repeat' (first | refine rg 0 (aq46 ?_) | (refine rg 1 (aq38 ?_); refine oC (c1) rfl (ac (ac .nil)) ?_; refine aq42 ?_) | (refine rg 2 ?_; refine oMv ?_; refine sp (po_not rfl rfl) ?_; refine oMv ?_; refine oFb ?_; refine oLb ?_; refine sp (po_len_str rfl rfl (tyR rfl)) ?_; refine oCm ?_; (first | refine oPt ?_ | refine oPf ?_); refine oMv ?_; (first | refine oFb ?_ | refine oFd ?_ | refine oK ?_); (first | refine oLb ?_ | refine oLd ?_ | refine oK ?_); (first | refine sp (po_len_str rfl rfl (tyR rfl)) ?_ | refine oK ?_); (first | refine oCm ?_ | refine oK ?_); refine oPt ?_; refine oMv ?_; (first | refine sp (po_load_bx_agg rfl rfl (tyT rfl) rfl (vc (vc (vc .nil))) rfl) ?_ | refine sp (po_load_agg rfl rfl (tyT rfl) rfl rfl) ?_ | refine oK ?_) <;> (first | refine oC (c1) rfl (ac .nil) ?_ | refine oC (c2) rfl (ac .nil) ?_ | refine oK ?_) <;> refine aq112 ?_) | refine rg 3 (aq47 ?_) | refine gc ?_ | refine ct ?_ | refine cf ?_ | refine sc ?_ ?_ <;> intro hc | refine rq rfl (rt (rt .nil)) ?_)
        rfl
end Go.Proofs.YtloippgblkoemaaGreatDoor.An
