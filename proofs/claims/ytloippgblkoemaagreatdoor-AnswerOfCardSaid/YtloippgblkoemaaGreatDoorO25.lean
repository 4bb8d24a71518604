/- Merged by bundles.py: SimWr, SimAn9, SimCb, SimAn10. -/
import Derived.Test.YtloippgblkoemaaGreatDoorO23
import Derived.Test.YtloippgblkoemaaGreatDoorO24
import Derived.Test.YtloippgblkoemaaGreatDoorO11
import Derived.Test.YtloippgblkoemaaGreatDoorO4
import Derived.Lib.SlBytesConst
/- Messages: hex digits, bytes; walks. -/
namespace Go.Proofs.YtloippgblkoemaaGreatDoor.An
set_option linter.unusedVariables false
set_option linter.unusedSimpArgs false
open Go.RowKit Mem Sim Opn Hd Str Rq
theorem enc_all : (List.range 128).all (fun n => decide (Utf8.encode (n : Int) = bs [UInt8.ofNat n])) = true := by kernel_rfl
theorem encode_ascii (c : UInt8) (h : c.toNat < 128) : Utf8.encode (c.toNat : Int) = bs [c] := by
  have := (List.all_eq_true.1 enc_all) c.toNat (List.mem_range.2 h)
  rw [decide_eq_true_eq] at this
  rw [this]; simp
theorem po_conv_rune {P : Program} {bx : List (Nat × List A)} {ow : List (Nat × Own)} {o : Oper} {ρ : Operand → Option A} {src dst : TypeId} {x : Operand} {ik : IntKind} {c : UInt8} (hc : c.toNat < 128) (ho : o.op = .convert src dst x) (hx : ρ x = some (.t (.v (.int ik (c.toNat : Int))))) (hs : intK P src = some ik) (hD : isStr P dst = true) : PureOp P bx ow o ρ (.t (.v (.string (bs [c])))) := pure_run fun C m g w a he h => by
  have h1 := tr_v (h x (by simp [ho, Op.operands]) _ hx)
  refine ⟨.string (bs [c]), ?_, .v _⟩
  simp [execOp, ho, h1, convert, run_underlying (intK_spec hs), run_underlying (isStr_spec hD), Conv.intToString, encode_ascii c hc]
abbrev hexS : ByteArray := ⟨#[48, 49, 50, 51, 52, 53, 54, 55, 56, 57, 97, 98, 99, 100, 101, 102]⟩
theorem hex_tab : ∀ j : Fin 16, hexS[j.1]'(j.2) = hexC j.1 := by decide
theorem hexC_mod (m : Nat) : hexC (m % 16) = hexC m := by unfold hexC; rw [Nat.mod_mod]
theorem hexC_lt (m : Nat) : (hexC m).toNat < 128 := by
  unfold hexC
  split <;> (rw [UInt8.toNat_ofNat']; omega)
theorem po_hexd {P : Program} {bx : List (Nat × List A)} {ow : List (Nat × Own)} {o : Oper} {ρ : Operand → Option A} {t : TypeId} {x ix : Operand} {m : Nat} (ho : o.op = .index t x ix) (hx : ρ x = some (.t (.v (.string hexS)))) (hi : ρ ix = some (.t (.v (.int .i64 ((m % 16 : Nat) : Int))))) (hR : isStr P t = true) : PureOp P bx ow o ρ (.t (.v (.int .u8 ((hexC m).toNat : Int)))) := by
  have hk : m % 16 < hexS.size := by show m % 16 < 16; omega
  have h := po_index_str (P := P) (bx := bx) (ow := ow) ho hx hi hR rfl hk
  have e : hexS[m % 16]'hk = hexC m := by
    have := hex_tab ⟨m % 16, by omega⟩
    rw [← hexC_mod m]; exact this
  rw [e] at h; exact h
theorem hm_lt {n k : Nat} (h : k < hm n) : 0 < n / 16 ^ k := by
  unfold hm at h
  have hk : k = 0 ∨ k = 1 ∨ k = 2 := by split at h <;> (try split at h) <;> (try split at h) <;> omega
  rcases hk with rfl | rfl | rfl
  · simp; split at h <;> (try split at h) <;> (try split at h) <;> omega
  · simp; split at h <;> (try split at h) <;> (try split at h) <;> omega
  · simp; split at h <;> (try split at h) <;> (try split at h) <;> omega
theorem hm_eq {n : Nat} (hn : n ≤ 1024) : n / 16 ^ hm n = 0 := by
  unfold hm
  split
  · simp; omega
  · split
    · simp; omega
    · split
      · simp; omega
      · simp; omega
theorem rem16 (n : Nat) : (n : Int).tmod 16 = ((n % 16 : Nat) : Int) := by rw [show (16 : Int) = ((16 : Nat) : Int) from rfl, Int.ofNat_tmod]
theorem div16 (n k : Nat) : n / 16 ^ k / 16 = n / 16 ^ (k + 1) := by rw [Nat.div_div_eq_div_mul, ← Nat.pow_succ]
set_option maxRecDepth 100000 in
set_option maxHeartbeats 2000000 in
theorem hex_ (n : Nat) (hn : n ≤ 1024) : PCalls Tryz.prog 58 [.v (.int .i64 (n : Int))] (.v (.string (bs (hexL n)))) := by
  refine pcalls_of Tryz.func58 rfl rfl Tryz.ntmps58 rfl ?_
  repeat' (first | (refine rg 0 ?_; refine oAs ?_; refine oN ?_) | (refine rg 1 ?_; refine oAs ?_; refine oN ?_) | refine gc ?_ | refine ct ?_ | refine cf ?_ | refine swp_cond rfl (fun hc => ?_) (fun hc => ?_) | refine rq rfl (rt .nil) ?_)
  refine swp_for (fun k => ⟨[(0, .t (.v (.int .i64 ((n / 16 ^ k : Nat) : Int)))), (3, .t (.v (.string (bs (hexK n k)))))], [], []⟩) (fun _ => True) (hm n) (weak_sub (.cons rfl (by first | rfl | ((simp; try rfl))) rfl (.cons rfl (by first | rfl | ((simp; try rfl))) rfl .nil)) .nil .nil) trivial ?_
  intro k hk _
  have h3 := hm_3 n
  have hsz : (bs (hexK n k)).size = k := by rw [bs_size, hexK_len]
  by_cases hlt : k < hm n
  · have h0 := hm_lt hlt
    have hb : n / 16 ^ k ≤ 1024 := Nat.le_trans (Nat.div_le_self _ _) hn
    have hq := div16 n k
    have hrm := rem16 (n / 16 ^ k)
    have hc := hexC_lt (n / 16 ^ k)
    have hs1 : (bs [hexC (n / 16 ^ k)]).size = 1 := rfl
    have hone := bs_one (hexC (n / 16 ^ k)) (hexK n k)
    have hnx : hexK n (k + 1) = hexC (n / 16 ^ k) :: hexK n k := rfl
    repeat' (first | refine for_next hlt (weak_sub (.cons rfl (by first | rfl | (first | rfl | (rw [hq]))) rfl (.cons rfl (by rfl) rfl .nil)) .nil .nil) trivial | (refine rg 2 ?_; (first | refine sp (po_hexd rfl rfl rfl (tyR rfl)) ?_ | refine oMv ?_); (first | refine sp (po_hexd rfl rfl rfl (tyR rfl)) ?_ | refine oCm ?_); refine oN ?_) | (refine rg 4 ?_; (first | refine sp (po_hexd rfl rfl rfl (tyR rfl)) ?_ | refine oMv ?_); refine sp (po_remc hrm rfl rfl rfl (by decide)) ?_; refine sp (po_hexd rfl rfl rfl (tyR rfl)) ?_; (first | refine sp (po_hexd rfl rfl rfl (tyR rfl)) ?_ | refine sp (po_conv_rune hc rfl rfl (tyK rfl) (tyR rfl)) ?_); (first | refine sp (po_hexd rfl rfl rfl (tyR rfl)) ?_ | refine oMv ?_); (first | refine sp (po_remc hrm rfl rfl rfl (by decide)) ?_ | refine sp (po_hexd rfl rfl rfl (tyR rfl)) ?_ | refine sp (po_quoN (d := 16) rfl rfl rfl (by omega) (by omega)) ?_ | refine sp (po_cat rfl rfl rfl (by omega)) ?_); (first | refine sp (po_hexd rfl rfl rfl (tyR rfl)) ?_ | refine oAs ?_); refine oN ?_) | (refine rg 3 ?_; (first | refine sp (po_hexd rfl rfl rfl (tyR rfl)) ?_ | refine oMv ?_); (first | refine sp (po_remc hrm rfl rfl rfl (by decide)) ?_ | refine sp (po_hexd rfl rfl rfl (tyR rfl)) ?_ | refine sp (po_quoN (d := 16) rfl rfl rfl (by omega) (by omega)) ?_); (first | refine sp (po_hexd rfl rfl rfl (tyR rfl)) ?_ | refine oAs ?_); refine oN ?_) | refine gc ?_ | refine ct ?_)
  · obtain rfl : k = hm n := by omega
    have h9 := hm_eq hn
    rw [h9]
    unfold hexL
    repeat' (first | (refine rg 2 ?_; refine oMv ?_; refine oCm ?_; refine oN ?_) | (refine rg 5 ?_; refine oMv ?_; refine oAs ?_; refine oN ?_) | refine gc ?_ | refine ct ?_ | refine cf ?_ | refine swp_cond rfl (fun hc => ?_) (fun hc => ?_) | refine rq rfl (rt .nil) ?_)
    rfl
theorem zByte : (Tryz.prog.info? 5).bind (·.zero) = some (.int .u8 0) := by kernel_rfl
abbrev endS : ByteArray := ⟨#[48, 13, 10, 13, 10]⟩
theorem crlf_l : (⟨#[13, 10]⟩ : ByteArray).toList = [13, 10] := bs_toList [13, 10]
theorem end_l : (⟨#[48, 13, 10, 13, 10]⟩ : ByteArray).toList = [48, 13, 10, 13, 10] := bs_toList [48, 13, 10, 13, 10]
set_option maxRecDepth 100000 in
set_option maxHeartbeats 8000000 in
theorem writeOk_ (r : PRaw) (hr : RawOk r) (hw : wrP r = true) : PCalls Tryz.prog 36 [.agg (rawT r)] (.tup [.sl 1 ((msgP r).map byteT), .v (.int .i64 0)]) := by
  unfold wrP at hw
  simp only [Bool.and_eq_true, decide_eq_true_eq] at hw
  obtain ⟨⟨⟨hp, h1⟩, h2⟩, hf⟩ := hw
  obtain ⟨hn, hh, hbd, hs⟩ := hr
  have hm1 : (r.heads.map headT).length = r.heads.length := List.length_map _
  have hm2 : (r.body.map byteT).length = r.body.length := List.length_map _
  have c1 := containsFunc_ 55 write1_ r.start hs
  rw [hp] at c1
  have c2 := rfits_ r.start r.heads hn hh r.body hbd
  rw [hf] at c2
  have c4 := framing_ r.heads hn hh
  unfold framT endT at c4
  have hg : (r.heads.length ≤ 24 ∧ ∀ h ∈ r.heads, good h = true) ∧ r.body.length ≤ 1024 := by
    unfold fitsP at hf
    simp only [Bool.and_eq_true, decide_eq_true_eq] at hf
    have h3 := hf.1.1.2
    unfold mayL at h3
    simp only [Bool.and_eq_true, decide_eq_true_eq] at h3
    exact ⟨⟨h3.1, fun h hh => (List.all_eq_true.1 h3.2) h hh⟩, hf.1.2⟩
  obtain ⟨hg, hb4⟩ := hg
  have hw := wL_len r hg.2 h2
  have hcr : crlf.size = 2 := rfl
  have hcs : (r.start ++ crlf).size = r.start.size + 2 := by rw [ByteArray.size_append, hcr]
  have hsz1 : (r.start ++ crlf).size ≤ maxLen := by unfold maxLen; omega
  have hcr' : (⟨#[13, 10]⟩ : ByteArray).size = 2 := rfl
  have hsz2 : (r.start ++ ⟨#[13, 10]⟩ : ByteArray).size ≤ maxLen := hsz1
  have e0 : wL r 0 = (r.start ++ crlf).toList := by unfold wL; simp
  unfold rawT at c2 ⊢
  refine pcalls_of Tryz.func36 rfl rfl Tryz.ntmps36 rfl ?_
  repeat' (first | (refine rg 0 ?_; refine sbx ?_; refine oAs ?_; refine oAs ?_; refine oN ?_) | (refine rg 1 ?_; refine oFb ?_; refine oLb ?_; refine oC (c1) rfl (ac (ac .nil)) ?_; refine sp (po_not rfl rfl) ?_; refine oAs ?_; refine oN ?_) | (refine rg 2 ?_; refine oMv ?_; refine sp (po_not rfl rfl) ?_; refine oMv ?_; refine oFb ?_ <;> refine oLb ?_ <;> refine sp (po_len_str rfl rfl (tyR rfl)) ?_ <;> refine oCm ?_ <;> (first | refine oPt ?_ | refine oPf ?_) <;> refine oMv ?_ <;> refine oFb ?_ <;> refine oLb ?_ <;> refine sp (po_len_str rfl rfl (tyR rfl)) ?_ <;> refine oCm ?_ <;> (first | refine oPt ?_ | refine oPf ?_) <;> refine oMv ?_ <;> (refine sp (po_load_bx_agg rfl rfl (tyT rfl) rfl (vc (vc (vc .nil))) rfl) ?_) <;> (first | refine oC (c1) rfl (ac .nil) ?_ | refine oC (c2) rfl (ac .nil) ?_) <;> refine sp (po_not rfl rfl) ?_ <;> (first | refine oPt ?_ | refine oPf ?_) <;> refine oN ?_) | (refine rg 4 ?_; refine oFb ?_; refine oLb ?_; refine sp (po_cat rfl rfl rfl (by omega)) ?_; refine sops_str_bytes 101 (.free rfl rfl) rfl rfl rfl rfl (tyR rfl) byt23 (by assumption) rfl ?_; refine oAs ?_; refine oN ?_) | (refine rg 5 ?_; refine oFb ?_; refine oLb ?_; refine sp (pln rfl (tyS rfl)) ?_; refine oMv ?_; refine oN ?_) | refine gc ?_ | refine ct ?_ | refine cf ?_ | refine swp_cond rfl (fun hc => ?_) (fun hc => ?_) | refine rq rfl (rt (rt .nil)) ?_)
  refine swp_for (fun k => ⟨[(1, .bp 1 0), (5, .own 101 ((wL r k).map byteT).length), (41, .t (headsT r.heads)), (42, .t (.v (.int .i64 ((r.heads.map headT).length : Int)))), (43, .t (.v (.int .i64 (k : Int))))], [(1, [.t (.v (.string r.start)), .t (headsT r.heads), .t (.sl 1 (r.body.map byteT))])], [(101, ⟨5, 1, (wL r k).map byteT⟩)]⟩) (fun _ => True) r.heads.length (weak_sub (.cons rfl (by first | rfl | ((rw [e0]))) rfl (.cons rfl (by first | rfl | ((rw [e0]))) rfl (.cons rfl (by first | rfl | ((rw [e0]))) rfl (.cons rfl (by first | rfl | ((rw [e0]))) rfl (.cons rfl (by first | rfl | ((rw [e0]))) rfl .nil))))) (.cons rfl (by first | rfl | ((rw [e0]))) rfl .nil) (.cons rfl (by first | rfl | ((rw [e0]))) .nil)) trivial ?_
  intro k hk _
  have hwk := hw k hk
  have hmw : ((wL r k).map byteT).length = (wL r k).length := List.length_map _
  by_cases hlt : k < r.heads.length
  · have hgk := hg.2 r.heads[k] (List.getElem_mem _)
    have c3 := line_ r.heads[k] (hh _ (List.getElem_mem _))
    rw [hgk, if_pos rfl] at c3
    have hmk : (r.heads.map headT)[k]? = some (headT r.heads[k]) := map_at hlt
    have hls := lineS_size hgk
    have hsc := wL_succ r hlt
    have hlc : (lineS r.heads[k] ++ crlf).size = (lineS r.heads[k]).size + 2 := by rw [ByteArray.size_append, hcr]
    generalize r.heads[k] = h at *
    unfold headT at hmk c3
    have hpos : 0 < (lineS h ++ crlf).size := by omega
    have hbb : ((wL r k).map byteT).length + (lineS h ++ crlf).size ≤ 140737488355328 := by omega
    repeat' (first | refine for_next hlt (weak_sub (.cons rfl (by rfl) rfl (.cons rfl (by first | rfl | ((rw [hsc, List.map_append]))) rfl (.cons rfl (by rfl) rfl (.cons rfl (by rfl) rfl (.cons rfl (by rfl) rfl .nil))))) (.cons rfl (by rfl) rfl .nil) (.cons rfl (by first | rfl | ((rw [hsc, List.map_append]))) .nil)) trivial | (refine rg 6 ?_; refine oCm ?_; refine oN ?_) | (refine rg 7 ?_; refine sp (pix rfl (tyS rfl)) ?_; (first | refine sp (po_load_bx_agg rfl rfl (tyT rfl) rfl (vc (vc .nil)) rfl) ?_ | refine sp (po_load_agg rfl rfl (tyT rfl) rfl rfl) ?_); refine sal str65 ?_; refine oS ?_; refine oN ?_) | (refine rg 8 ?_; refine sp (po_load_bx_agg rfl rfl (tyT rfl) rfl (vc (vc .nil)) rfl) ?_; (first | refine sops_append_str rfl rfl rfl rfl rfl rfl rfl rfl (tyE rfl) (tyR rfl) zByte hpos hbb ?_ | refine oC (c3) rfl (ac .nil) ?_); refine oMv ?_; refine oEx ?_; refine oEx ?_; refine oAs ?_; refine oAs ?_; refine oN ?_) | (refine rg 9 ?_; refine oMv ?_; refine oMv ?_; refine sp (po_cat rfl rfl rfl (by omega)) ?_; refine sops_append_str rfl rfl rfl rfl rfl rfl rfl rfl (tyE rfl) (tyR rfl) zByte hpos hbb ?_; refine oAs ?_; refine oN ?_) | (refine rg 10 ?_; refine sp (xinc rfl) ?_; refine oMv ?_; refine oN ?_) | refine gc ?_ | refine ct ?_)
  · obtain rfl : k = r.heads.length := by omega
    have hpos : 0 < crlf.size := by decide
    have hbb : ((wL r r.heads.length).map byteT).length + crlf.size ≤ 140737488355328 := by omega
    have hL1 : ((wL r r.heads.length).map byteT ++ crlf.toList.map byteT).length = (wL r r.heads.length).length + 2 := by
      simp only [List.length_append, List.length_map, toList_len]; rfl
    rcases fram_ch r.heads with hc | hc
    · rw [hc] at c4
      have hb2 : (((wL r r.heads.length).map byteT ++ crlf.toList.map byteT).length + (r.body.map byteT).length) * 1 ≤ 140737488355328 := by omega
      have hm3 : ((wL r r.heads.length).map byteT ++ crlf.toList.map byteT).length + (r.body.map byteT).length ≤ maxLen := by unfold maxLen; omega
      have hfin : (msgP r).map byteT = (wL r r.heads.length).map byteT ++ crlf.toList.map byteT ++ r.body.map byteT := by
        unfold msgP tailL
        rw [hc, if_pos rfl, List.map_append, List.map_append, crlf_l]
      rw [hfin]
      repeat' (first | (refine rg 6 ?_; refine oCm ?_; refine oN ?_) | (refine rg 11 ?_; refine oMv ?_; refine sops_append_str rfl rfl rfl rfl rfl rfl rfl rfl (tyE rfl) (tyR rfl) zByte hpos hbb ?_; refine oAs ?_; refine oN ?_) | (refine rg 12 ?_; refine oFb ?_; refine oLb ?_; (first | refine sops_append_str rfl rfl rfl rfl rfl rfl rfl rfl (tyE rfl) (tyR rfl) zByte hpos hbb ?_ | refine oC (c4) rfl (ac .nil) ?_); refine oMv ?_; refine oEx ?_; refine oEx ?_; refine sal str89 ?_; refine oS ?_; refine oAs ?_; refine oN ?_) | (refine rg 13 ?_; refine oFb ?_; refine oLb ?_; refine oCm ?_; refine oN ?_) | (refine rg 14 ?_; refine oMv ?_; refine oFb ?_; refine oLb ?_; (first | refine sops_append_str rfl rfl rfl rfl rfl rfl rfl rfl (tyE rfl) (tyR rfl) zByte hpos hbb ?_ | refine sap rfl (tyE rfl) ?_); refine oAs ?_; refine oAs ?_; refine oN ?_) | refine gc ?_ | refine ct ?_ | refine cf ?_ | refine swp_cond rfl (fun hc => ?_) (fun hc => ?_) | refine rq rfl (rt (rt .nil)) ?_)
      rfl
    · rw [hc] at c4
      have hpe : 0 < endS.size := by decide
      have hes : endS.size = 5 := rfl
      by_cases hne : r.body = []
      · have hb0 : r.body.length = 0 := by rw [hne]; rfl
        have hbe : ((wL r r.heads.length).map byteT ++ crlf.toList.map byteT).length + endS.size ≤ 140737488355328 := by omega
        have hfin : (msgP r).map byteT = (wL r r.heads.length).map byteT ++ crlf.toList.map byteT ++ endS.toList.map byteT := by
          unfold msgP tailL
          rw [hc, if_neg (by decide), if_pos hne, List.map_append, List.map_append, crlf_l, end_l, List.nil_append]
        rw [hfin]
        repeat' (first | (refine rg 6 ?_; refine oCm ?_; refine oN ?_) | (refine rg 11 ?_; refine oMv ?_; refine sops_append_str rfl rfl rfl rfl rfl rfl rfl rfl (tyE rfl) (tyR rfl) zByte hpos hbb ?_; refine oAs ?_; refine oN ?_) | (refine rg 12 ?_; refine oFb ?_; refine oLb ?_; (first | refine sops_append_str rfl rfl rfl rfl rfl rfl rfl rfl (tyE rfl) (tyR rfl) zByte hpos hbb ?_ | refine sops_append_str rfl rfl rfl rfl rfl rfl rfl rfl (tyE rfl) (tyR rfl) zByte hpe hbe ?_ | refine oC (c4) rfl (ac .nil) ?_); refine oMv ?_; refine oEx ?_; refine oEx ?_; refine sal str89 ?_; refine oS ?_; refine oAs ?_; refine oN ?_) | (refine rg 13 ?_; refine oFb ?_; refine oLb ?_; refine oCm ?_; refine oN ?_) | (refine rg 15 ?_; refine oFb ?_; refine oLb ?_; (first | refine sops_append_str rfl rfl rfl rfl rfl rfl rfl rfl (tyE rfl) (tyR rfl) zByte hpos hbb ?_ | refine sops_append_str rfl rfl rfl rfl rfl rfl rfl rfl (tyE rfl) (tyR rfl) zByte hpe hbe ?_ | refine sp (pln rfl (tyS rfl)) ?_); refine oAs ?_; refine oN ?_) | (refine rg 16 ?_; refine oMv ?_; refine oCm ?_; refine oN ?_) | (refine rg 19 ?_; refine oMv ?_; (first | refine sops_append_str rfl rfl rfl rfl rfl rfl rfl rfl (tyE rfl) (tyR rfl) zByte hpos hbb ?_ | refine sops_append_str rfl rfl rfl rfl rfl rfl rfl rfl (tyE rfl) (tyR rfl) zByte hpe hbe ?_); refine oAs ?_; refine oAs ?_; refine oN ?_) | refine gc ?_ | refine ct ?_ | refine cf ?_ | refine swp_cond rfl (fun hc => ?_) (fun hc => ?_) | refine rq rfl (rt (rt .nil)) ?_)
        rfl
      · have hb0 : r.body.length ≠ 0 := fun h => hne (List.eq_nil_of_length_eq_zero h)
        have c5 : PCalls Tryz.prog 58 [.v (.int .i64 ((r.body.map byteT).length : Int))] (.v (.string (bs (hexL r.body.length)))) := by rw [hm2]; exact hex_ r.body.length hb4
        have h3 := hm_3 r.body.length
        have hxs : (bs (hexL r.body.length)).size = hm r.body.length := by rw [bs_size]; unfold hexL; rw [hexK_len]
        have hxc : (bs (hexL r.body.length) ++ crlf).size = hm r.body.length + 2 := by rw [ByteArray.size_append, hcr, hxs]
        have hfin : (msgP r).map byteT = (wL r r.heads.length).map byteT ++ crlf.toList.map byteT ++ (bs (hexL r.body.length) ++ crlf).toList.map byteT ++ r.body.map byteT ++ crlf.toList.map byteT ++ endS.toList.map byteT := by
          unfold msgP tailL
          rw [hc, if_neg (by decide), if_neg hne, crlf_list, bs_toList, crlf_l, end_l]
          simp only [List.map_append, List.append_assoc]
        rw [hfin]
        generalize hX : bs (hexL r.body.length) = X at *
        have hL2 : ((wL r r.heads.length).map byteT ++ crlf.toList.map byteT ++ (X ++ crlf).toList.map byteT).length = (wL r r.heads.length).length + 2 + (hm r.body.length + 2) := by
          rw [List.length_append, hL1, List.length_map, toList_len, hxc]
        have hL3 : ((wL r r.heads.length).map byteT ++ crlf.toList.map byteT ++ (X ++ crlf).toList.map byteT ++ r.body.map byteT).length = (wL r r.heads.length).length + 2 + (hm r.body.length + 2) + r.body.length := by
          rw [List.length_append, hL2, hm2]
        have hL4 : ((wL r r.heads.length).map byteT ++ crlf.toList.map byteT ++ (X ++ crlf).toList.map byteT ++ r.body.map byteT ++ crlf.toList.map byteT).length = (wL r r.heads.length).length + 2 + (hm r.body.length + 2) + r.body.length + 2 := by
          rw [List.length_append, hL3, List.length_map, toList_len, hcr]
        have hpx : 0 < (X ++ crlf).size := by omega
        have hbx : ((wL r r.heads.length).map byteT ++ crlf.toList.map byteT).length + (X ++ crlf).size ≤ 140737488355328 := by omega
        have hb2 : (((wL r r.heads.length).map byteT ++ crlf.toList.map byteT ++ (X ++ crlf).toList.map byteT).length + (r.body.map byteT).length) * 1 ≤ 140737488355328 := by omega
        have hm3 : ((wL r r.heads.length).map byteT ++ crlf.toList.map byteT ++ (X ++ crlf).toList.map byteT).length + (r.body.map byteT).length ≤ maxLen := by unfold maxLen; omega
        have hby : ((wL r r.heads.length).map byteT ++ crlf.toList.map byteT ++ (X ++ crlf).toList.map byteT ++ r.body.map byteT).length + crlf.size ≤ 140737488355328 := by omega
        have hbe : ((wL r r.heads.length).map byteT ++ crlf.toList.map byteT ++ (X ++ crlf).toList.map byteT ++ r.body.map byteT ++ crlf.toList.map byteT).length + endS.size ≤ 140737488355328 := by omega
        repeat' (first | (refine rg 6 ?_; refine oCm ?_; refine oN ?_) | (refine rg 11 ?_; refine oMv ?_; refine sops_append_str rfl rfl rfl rfl rfl rfl rfl rfl (tyE rfl) (tyR rfl) zByte hpos hbb ?_; refine oAs ?_; refine oN ?_) | (refine rg 12 ?_; refine oFb ?_; refine oLb ?_; (first | refine sops_append_str rfl rfl rfl rfl rfl rfl rfl rfl (tyE rfl) (tyR rfl) zByte hpos hbb ?_ | refine sops_append_str rfl rfl rfl rfl rfl rfl rfl rfl (tyE rfl) (tyR rfl) zByte hpe hbe ?_ | refine sops_append_str rfl rfl rfl rfl rfl rfl rfl rfl (tyE rfl) (tyR rfl) zByte hpx hbx ?_ | refine sops_append_str rfl rfl rfl rfl rfl rfl rfl rfl (tyE rfl) (tyR rfl) zByte hpos hby ?_ | refine oC (c4) rfl (ac .nil) ?_); refine oMv ?_; refine oEx ?_; refine oEx ?_; refine sal str89 ?_; refine oS ?_; refine oAs ?_; refine oN ?_) | (refine rg 13 ?_; refine oFb ?_; refine oLb ?_; refine oCm ?_; refine oN ?_) | (refine rg 15 ?_; refine oFb ?_; refine oLb ?_; (first | refine sops_append_str rfl rfl rfl rfl rfl rfl rfl rfl (tyE rfl) (tyR rfl) zByte hpos hbb ?_ | refine sops_append_str rfl rfl rfl rfl rfl rfl rfl rfl (tyE rfl) (tyR rfl) zByte hpe hbe ?_ | refine sops_append_str rfl rfl rfl rfl rfl rfl rfl rfl (tyE rfl) (tyR rfl) zByte hpx hbx ?_ | refine sops_append_str rfl rfl rfl rfl rfl rfl rfl rfl (tyE rfl) (tyR rfl) zByte hpos hby ?_ | refine sp (pln rfl (tyS rfl)) ?_); refine oAs ?_; refine oN ?_) | (refine rg 16 ?_; refine oMv ?_; refine oCm ?_; refine oN ?_) | (refine rg 17 ?_; refine oMv ?_; refine oMv ?_; (first | refine sops_append_str rfl rfl rfl rfl rfl rfl rfl rfl (tyE rfl) (tyR rfl) zByte hpos hbb ?_ | refine sops_append_str rfl rfl rfl rfl rfl rfl rfl rfl (tyE rfl) (tyR rfl) zByte hpe hbe ?_ | refine sops_append_str rfl rfl rfl rfl rfl rfl rfl rfl (tyE rfl) (tyR rfl) zByte hpx hbx ?_ | refine sops_append_str rfl rfl rfl rfl rfl rfl rfl rfl (tyE rfl) (tyR rfl) zByte hpos hby ?_ | refine oC (c4) rfl (ac .nil) ?_ | refine oC (c5) rfl (ac .nil) ?_); refine sp (po_cat rfl rfl rfl (by omega)) ?_; (first | refine sops_append_str rfl rfl rfl rfl rfl rfl rfl rfl (tyE rfl) (tyR rfl) zByte hpos hbb ?_ | refine sops_append_str rfl rfl rfl rfl rfl rfl rfl rfl (tyE rfl) (tyR rfl) zByte hpe hbe ?_ | refine sops_append_str rfl rfl rfl rfl rfl rfl rfl rfl (tyE rfl) (tyR rfl) zByte hpx hbx ?_); refine oAs ?_; refine oN ?_) | (refine rg 18 ?_; refine oMv ?_; refine oFb ?_; refine oLb ?_; (first | refine sops_append_str rfl rfl rfl rfl rfl rfl rfl rfl (tyE rfl) (tyR rfl) zByte hpos hbb ?_ | refine sops_append_str rfl rfl rfl rfl rfl rfl rfl rfl (tyE rfl) (tyR rfl) zByte hpe hbe ?_ | refine sops_append_str rfl rfl rfl rfl rfl rfl rfl rfl (tyE rfl) (tyR rfl) zByte hpx hbx ?_ | refine sops_append_str rfl rfl rfl rfl rfl rfl rfl rfl (tyE rfl) (tyR rfl) zByte hpos hby ?_ | refine sap rfl (tyE rfl) ?_); (first | refine sops_append_str rfl rfl rfl rfl rfl rfl rfl rfl (tyE rfl) (tyR rfl) zByte hpos hbb ?_ | refine sops_append_str rfl rfl rfl rfl rfl rfl rfl rfl (tyE rfl) (tyR rfl) zByte hpe hbe ?_ | refine sops_append_str rfl rfl rfl rfl rfl rfl rfl rfl (tyE rfl) (tyR rfl) zByte hpx hbx ?_ | refine sops_append_str rfl rfl rfl rfl rfl rfl rfl rfl (tyE rfl) (tyR rfl) zByte hpos hby ?_); refine oAs ?_; refine oN ?_) | (refine rg 19 ?_; refine oMv ?_; (first | refine sops_append_str rfl rfl rfl rfl rfl rfl rfl rfl (tyE rfl) (tyR rfl) zByte hpos hbb ?_ | refine sops_append_str rfl rfl rfl rfl rfl rfl rfl rfl (tyE rfl) (tyR rfl) zByte hpe hbe ?_); refine oAs ?_; refine oAs ?_; refine oN ?_) | refine gc ?_ | refine ct ?_ | refine cf ?_ | refine swp_cond rfl (fun hc => ?_) (fun hc => ?_) | refine rq rfl (rt (rt .nil)) ?_)
        rfl
end Go.Proofs.YtloippgblkoemaaGreatDoor.An

/- Answers: the chapter's examples; walks. -/
namespace Go.Proofs.YtloippgblkoemaaGreatDoor.An
set_option linter.unusedVariables false
set_option linter.unusedSimpArgs false
open Go.RowKit Mem Sim Opn Hd Str Rq
theorem k2 : (List.range 1025).all (fun n => decide (lenP (digitsP n) = ((n : Int), 0)) && mayValue (digitsP n)) = true := by kernel_rfl
theorem k2at {n : Nat} (h : n ≤ 1024) : lenP (digitsP n) = ((n : Int), 0) ∧ mayValue (digitsP n) = true := by
  have := (List.all_eq_true.1 k2) n (List.mem_range.2 (by omega))
  simp only [Bool.and_eq_true, decide_eq_true_eq] at this
  exact this
theorem clNm : mayName clS = true := by kernel_rfl
theorem fram_simp {n : Nat} (h : n ≤ 1024) : fram [⟨clS, digitsP n⟩] = (⟨0, 1, n⟩, 0) := by
  have h1 : valsOf clS [⟨clS, digitsP n⟩] = [digitsP n] := by simp [valsOf]
  have h2 : valsOf teS [⟨clS, digitsP n⟩] = [] := by
    have : clS ≠ teS := by decide
    simp [valsOf, this]
  unfold fram
  rw [h1, h2]
  show (if (lenP (digitsP n)).2 = 0 then ((⟨0, 1, (lenP (digitsP n)).1⟩ : BodyEnd), (0 : Int)) else ((⟨0, 0, 0⟩ : BodyEnd), (lenP (digitsP n)).2)) = _
  rw [(k2at h).1]; rfl
theorem mayL_simp {n : Nat} (h : n ≤ 1024) : mayL [⟨clS, digitsP n⟩] = true := by
  unfold mayL good
  simp [clNm, (k2at h).2]
theorem fits_simp {s : ByteArray} (h : s.size ≤ 1024) : fitsP [⟨clS, digitsP s.size⟩] s.toList = true := by
  unfold fitsP
  rw [fram_simp h, mayL_simp h]
  have hl := toList_len s
  simp [hl, h]
theorem mayA_simp {code : Int} {s : ByteArray} (h1 : 200 ≤ code) (h2 : code ≤ 599) (h : s.size ≤ 1024) : mayA (simpA code s) = true := by
  unfold mayA simpA
  rw [fits_simp h, decide_eq_true h1, decide_eq_true h2]; rfl
abbrev noS : ByteArray := ⟨#[110, 111]⟩
def noR : PRaw := ⟨startS 403, [⟨clS, digitsP 2⟩], noS.toList⟩
theorem k4w : wrP noR = true := by kernel_rfl
theorem k3s : (startS 403).size = 22 := by kernel_rfl
def noB : List UInt8 := [72, 84, 84, 80, 47, 49, 46, 49, 32, 52, 48, 51, 32, 70, 111, 114, 98, 105, 100, 100, 101, 110, 13, 10, 99, 111, 110, 116, 101, 110, 116, 45, 108, 101, 110, 103, 116, 104, 58, 32, 50, 13, 10, 13, 10, 110, 111]
theorem k4 : msgP noR = noB := by kernel_rfl
def l5 : List UInt8 := [72, 84, 84, 80, 47, 49, 46, 49, 32, 53, 48, 51, 32, 13, 10, 13, 10]
def r5 : PRaw := ⟨⟨#[72, 84, 84, 80, 47, 49, 46, 49, 32, 53, 48, 51, 32]⟩, [], []⟩
theorem k5 : rawsL l5 = ([r5], 0) := by kernel_rfl
def l6 : List UInt8 := [72, 84, 84, 80, 47, 49, 46, 49, 32, 50, 48, 48, 13, 10, 13, 10]
def r6 : PRaw := ⟨⟨#[72, 84, 84, 80, 47, 49, 46, 49, 32, 50, 48, 48]⟩, [], []⟩
theorem k6 : rawsL l6 = ([r6], 0) := by kernel_rfl
theorem k7 : ofP r5 = true := by kernel_rfl
theorem k7b : num3 (codeS r5.start) = 503 := by kernel_rfl
theorem k8 : ofP r6 = false := by kernel_rfl
theorem one5 : oneT l5 = .tup [.agg [.v (.int .i64 503), headsT [], .sl 1 (([] : List UInt8).map byteT)], .v (.int .i64 0)] := by
  unfold oneT
  rw [k5, if_neg (by decide)]
  show ofT r5 = _
  unfold ofT ansT ansOf
  rw [k7, if_pos rfl]
  show T.tup [.agg [.v (.int .i64 (num3 (codeS r5.start))), _, _], _] = _
  rw [k7b]; rfl
theorem one6 : oneT l6 = .tup [.agg ansT0, .v (.int .i64 2)] := by
  unfold oneT
  rw [k6, if_neg (by decide)]
  show ofT r6 = _
  unfold ofT
  rw [k8]; rfl
theorem simp403 : simpT 403 noS = .tup [.agg (ansT (simpA 403 noS)), .v (.int .i64 0)] := by
  unfold simpT
  rw [mayA_simp (by decide) (by decide) (by decide), if_pos rfl]
set_option maxRecDepth 100000 in
set_option maxHeartbeats 1000000 in
theorem bytes0_ : PCalls Tryz.prog 23 [.agg (ansT (simpA 403 noS))] (.tup [.sl 1 (noB.map byteT), .v (.int .i64 0)]) := by
  have hm := may_ (simpA 403 noS) (by decide) (fun h hh => by
    simp [simpA] at hh; subst hh
    exact ⟨cl_okA, by have := digitsP_size noS.size; show (digitsP noS.size).size ≤ maxLen; unfold maxLen; omega⟩) (by simp [simpA])
  rw [mayA_simp (by decide) (by decide) (by decide)] at hm
  have c2 := raw_ 403 (by decide) [⟨clS, digitsP 2⟩] noS.toList
  have c3 := writeOk_ noR ⟨by decide, fun h hh => by
    simp [noR] at hh; subst hh
    exact ⟨cl_okA, by have := digitsP_size 2; show (digitsP 2).size ≤ maxLen; unfold maxLen; omega⟩, by show noS.toList.length ≤ 100000; rw [toList_len]; decide, by show (startS 403).size ≤ maxLen; rw [k3s]; unfold maxLen; decide⟩ k4w
  rw [k4] at c3
  unfold noR at c3
  unfold ansT simpA at hm ⊢
  unfold ansT at c2
  unfold rawT at c2 c3
  refine pcalls_of Tryz.func23 rfl rfl Tryz.ntmps23 rfl ?_
  repeat' (first | (refine rg 0 ?_; refine sbx ?_; refine oAs ?_; refine oAs ?_; refine oN ?_) | (refine rg 1 ?_; (refine sp (po_load_bx_agg rfl rfl (tyT rfl) rfl (vc (vc (vc .nil))) rfl) ?_); refine oC (hm) rfl (ac .nil) ?_; refine sp (po_not rfl rfl) ?_; refine oN ?_) | (refine rg 3 ?_; (refine sp (po_load_bx_agg rfl rfl (tyT rfl) rfl (vc (vc (vc .nil))) rfl) ?_); (first | refine oC (hm) rfl (ac .nil) ?_ | refine oC (c2) rfl (ac .nil) ?_); (first | refine oC (hm) rfl (ac .nil) ?_ | refine oC (c2) rfl (ac .nil) ?_ | refine oC (c3) rfl (ac .nil) ?_); refine oEx ?_; refine oEx ?_; refine oAs ?_; refine oAs ?_; refine oN ?_) | refine gc ?_ | refine ct ?_ | refine cf ?_ | refine swp_cond rfl (fun hc => ?_) (fun hc => ?_) | refine rq rfl (rt (rt .nil)) ?_)
  rfl
end Go.Proofs.YtloippgblkoemaaGreatDoor.An

/- A logic of states: a constant text's bytes. -/
namespace Go.Proofs.YtloippgblkoemaaGreatDoor.Sim
set_option linter.unusedVariables false
set_option linter.unusedSimpArgs false
open Go.RowKit Mem
section
variable {P : Program} {N : Nat} {Q : Exit → St → Prop} {ops : Array Oper} {rest : List Oper} {o : Oper} {tm : List (Nat × A)} {bx : List (Nat × List A)} {ow : List (Nat × Own)}
/-- behind a constant's row: its conversion comes next -/
structure SMk (P : Program) (N : Nat) (ops : Array Oper) (Q : Exit → St → Prop) (d e : Nat) (rows : List (List T)) (l : List Oper) (st : St) : Prop where
  go : ∀ C a w m g, RelG C N st a w m g → ∀ vs : List Value, vs.length = rows.length * 1 → (∀ r ∈ rows, r.length = 1) → CellsAre m rows.flatten vs → wpList P ops (Good C N Q) l (a.put (some d) (.slice (some ⟨w.heap.size, 0, none⟩) rows.length rows.length)) (w.alloc (.cells vs.toArray e))
theorem sops_cb1 {t e by_ len d : Nat} {xs : List (Nat × Operand)} {rows : List (List T)} (hg : GuardIs ops tm o true) (ho : o.op = .buildSlice t len xs.toArray) (hd : o.dst = some d) (hT : sliceE P t = some (e, 1, by_)) (hx : DParts ow (evA tm) 1 0 xs rows) (hlen : rows.length = len) (h0 : Nat.blt 0 len = true) (hsm : Nat.ble (len * 1) (2 ^ 24) = true)
    (k : SMk P N ops Q d e rows rest ⟨tm, bx, ow⟩) : SOps P N ops Q (o :: rest) ⟨tm, bx, ow⟩ := by
  refine .mk fun C a w ⟨m, g, hr⟩ => ?_
  obtain ⟨vs, h1, h2, h3, h4, h5⟩ := hx.ok hr.env (a := a) (fun x _ y hy => hr.ev hy)
  have hrun := built_run (P := P) hT w vs h3 (by omega) (Nat.lt_of_succ_le (Nat.le_of_ble_eq_true h0)) hsm
  refine wpList_step fun K hK => ?_
  rw [if_pos (hg.wanted (m := m) (g := g) fun j want e _ _ y hy => hr.tmps e y hy)]
  subst hlen
  refine wp_of_run (v := .slice (some ⟨w.heap.size, 0, none⟩) rows.length rows.length) (w' := w.alloc (.cells (vs.flatMap fun v => v.cells.toList).toArray e)) ?_ (hK _ _ ?_)
  · simp only [execOp, ho, List.map_toArray]
    rw [show (xs.map fun x => (x.1, a.eval x.2)) = (vs.zipIdx 0).map (fun x => (x.2, x.1)) from h1, Sem.run_bind, hrun]; rfl
  · rw [hd]
    exact k.go C a w m g hr _ (by rw [flatMap_cells_len h3, h2]) h4 h5
theorem sops_cb2 {t e d d2 : Nat} {rows : List (List T)} (hg : GuardIs ops ((d, .t (.sl 1 rows)) :: tm) o true) (ho : o.op = .convert t t (.tmp d)) (hd : o.dst = some d2) (hN : Nat.blt d N = true) (hN2 : Nat.blt d2 N = true) (hT : byE P t = some e) (hsm : Nat.ble rows.length (2 ^ 24) = true)
    (h : SOps P N ops Q rest ⟨(d2, .t (.sl 1 rows)) :: (d, .t (.sl 1 rows)) :: tm, bx, ow⟩) : SMk P N ops Q d e rows (o :: rest) ⟨tm, bx, ow⟩ := by
  refine .mk fun C a w m g hr vs hl h4 h5 => ?_
  obtain ⟨t1, t2⟩ := byE_spec hT
  have hle := Nat.le_of_ble_eq_true hsm
  have hrl : rows.length ≤ maxLen := by unfold maxLen; omega
  have hd1 : d < N := Nat.lt_of_succ_le (Nat.le_of_ble_eq_true hN)
  have hlo : Lo w (w.alloc (.cells vs.toArray e (vs.toArray.size, vs.toArray.size + 1))) := (Lo.refl w).alloc _
  have hs := upm_sub hr.env.sub hlo
  have he := ext_upm (w' := w.alloc (.cells vs.toArray e (vs.toArray.size, vs.toArray.size + 1))) hr.env.sub
  have hnew : (w.alloc (.cells vs.toArray e (vs.toArray.size, vs.toArray.size + 1))).heap[w.heap.size]? = some (.cells vs.toArray e (vs.toArray.size, vs.toArray.size + 1)) := heap_alloc_new w _
  have hTR : TR (upm m w (w.alloc (.cells vs.toArray e (vs.toArray.size, vs.toArray.size + 1)))) (.sl 1 rows) (.slice (some ⟨w.heap.size, 0, none⟩) rows.length rows.length) := by
    refine tr_owns (w := w.alloc (.cells vs.toArray e (vs.toArray.size, vs.toArray.size + 1))) (base := 0) (e := e) (vs := vs) ⟨hl, .inr ⟨w.heap.size, rows.length, vs.toArray, rfl, Nat.zero_le _, ⟨_, hnew, .inr (Nat.le_refl _)⟩, Nat.le_refl _, hrl, by simp [hl], ?_⟩⟩ h4 (h5.mono he.1) ?_
    · simp only; rw [← hl]; exact List.take_length
    · intro b hb k u hu
      injection hb with hb; subst hb
      unfold upm
      rw [if_neg (Nat.lt_irrefl _)]
      unfold World.cell?
      rw [hnew]
      simpa using hu
  have R1 := hr.put (x := .t (.sl 1 rows)) (v := .slice (some ⟨w.heap.size, 0, none⟩) rows.length rows.length) (hr.env.step hlo he hs) (fun x v h => h.mono he.1) hd1 hTR
  have R2 := R1.put (d := d2) (x := .t (.sl 1 rows)) (v := .slice (some ⟨w.heap.size, 0, none⟩) rows.length rows.length) R1.env (fun x v h => h) (Nat.lt_of_succ_le (Nat.le_of_ble_eq_true hN2)) hTR
  refine wpList_step fun K hK => ?_
  rw [if_pos (hg.wanted (m := upm m w (w.alloc (.cells vs.toArray e (vs.toArray.size, vs.toArray.size + 1)))) (g := g) fun j want e _ _ y hy => R1.tmps e y hy)]
  refine wp_of_run (v := .slice (some ⟨w.heap.size, 0, none⟩) rows.length rows.length) (w' := w.alloc (.cells vs.toArray e (vs.toArray.size, vs.toArray.size + 1))) ?_ (hK _ _ (h.go C _ _ ⟨_, _, by rw [hd]; exact R2⟩))
  have hev := eval_put_same (a := a) (.slice (some ⟨w.heap.size, 0, none⟩) rows.length rows.length) hr.size hd1
  have hc := Lib.run_convert_bytes_const (P := P) w t e vs.toArray rows.length rows.length t1 t2
  simp only [execOp, ho, hev, Sem.run_bind, hc]
  rfl
end
end Go.Proofs.YtloippgblkoemaaGreatDoor.Sim

/- Answers: the chapter's examples, joined; walks. -/
namespace Go.Proofs.YtloippgblkoemaaGreatDoor.An
set_option linter.unusedVariables false
set_option linter.unusedSimpArgs false
open Go.RowKit Mem Sim Opn Hd Str Rq
set_option maxRecDepth 100000 in
set_option maxHeartbeats 2000000 in
theorem same0_ : PCalls Tryz.prog 10 [.agg ansT0, .agg ansT0] (.v (.bool true)) := by
  have c1 := same_ [] (by simp)
  refine pcalls_of Tryz.func10 rfl rfl Tryz.ntmps10 rfl ?_
  repeat' (first | (refine rg 0 ?_; refine sbx ?_; refine sbx ?_; refine oAs ?_; refine oN ?_) | (refine rg 1 ?_; refine oFb ?_; refine oLb ?_; refine oFb ?_; refine oLb ?_; refine oCm ?_; refine oMv ?_; refine oFb ?_ <;> refine oLb ?_ <;> refine oFb ?_ <;> refine oLb ?_ <;> refine oC (c1) rfl (ac (ac .nil)) ?_ <;> refine oPt ?_ <;> refine oMv ?_ <;> refine oFb ?_ <;> refine oLb ?_ <;> refine sp (po_bytes_str (l := []) rfl rfl (.nil 1) byt23' rfl) ?_ <;> refine oFb ?_ <;> refine oLb ?_ <;> refine sp (po_bytes_str (l := []) rfl rfl (.nil 1) byt23' rfl) ?_ <;> refine sp (po_str rfl rfl rfl rfl) ?_ <;> refine oPt ?_ <;> refine oAs ?_ <;> refine oN ?_) | refine gc ?_ | refine ct ?_ | refine cf ?_ | refine swp_cond rfl (fun hc => ?_) (fun hc => ?_) | refine rq rfl (rt .nil) ?_)
  rfl
set_option maxRecDepth 100000 in
set_option maxHeartbeats 4000000 in
theorem awake_ : PCalls Tryz.prog 7 [] (.v (.bool true)) := by
  have c1 := simple_ 403 noS (by decide)
  rw [simp403] at c1
  have c2 := bytes0_
  have c5 := one_ l5 (by decide) (by rw [k5]; intro r hr; simp at hr; subst hr; exact ⟨by decide, fun h hh => (by cases hh), by decide, by unfold maxLen; decide⟩)
  rw [one5] at c5
  have c6 := one_ l6 (by decide) (by rw [k6]; intro r hr; simp at hr; subst hr; exact ⟨by decide, fun h hh => (by cases hh), by decide, by unfold maxLen; decide⟩)
  rw [one6] at c6
  unfold ansT simpA at c1 c2
  refine pcalls_of Tryz.func7 rfl rfl Tryz.ntmps7 rfl ?_
  repeat' (first | (refine rg 0 ?_; refine oAs ?_; refine oN ?_) | (refine rg 1 ?_; refine oC (c1) rfl (ac (ac .nil)) ?_; refine oMv ?_; refine oEx ?_; refine oEx ?_; refine sal str28 ?_; refine oS ?_; refine oAs ?_; refine oN ?_) | (refine rg 2 ?_; (refine sp (po_load_bx_agg rfl rfl (tyT rfl) rfl (vc (vc (vc .nil))) rfl) ?_); (first | refine oC (c1) rfl (ac .nil) ?_ | refine oC (c2) rfl (ac .nil) ?_); refine oMv ?_; refine oEx ?_; refine oEx ?_; refine oAs ?_; refine oAs ?_; refine oN ?_) | (refine rg 3 ?_; refine sops_cb1 (.free rfl rfl) rfl rfl (tyE rfl) (dc (dc (dc (dc (dc (dc (dc (dc (dc (dc (dc (dc (dc (dc (dc (dc (dc (.nil _)))))))))))))))))) rfl rfl rfl ?_; refine sops_cb2 (.free rfl rfl) rfl rfl rfl rfl byt23 rfl ?_; (first | refine oC (c1) rfl (ac .nil) ?_ | refine oC (c2) rfl (ac .nil) ?_ | refine oC (c5) rfl (ac .nil) ?_); refine oMv ?_; refine oEx ?_; refine oEx ?_; refine sal str28 ?_; refine oS ?_; refine oAs ?_; refine oN ?_) | (refine rg 4 ?_; refine sops_cb1 (.free rfl rfl) rfl rfl (tyE rfl) (dc (dc (dc (dc (dc (dc (dc (dc (dc (dc (dc (dc (dc (dc (dc (dc (.nil _))))))))))))))))) rfl rfl rfl ?_; refine sops_cb2 (.free rfl rfl) rfl rfl rfl rfl byt23 rfl ?_; (first | refine oC (c1) rfl (ac .nil) ?_ | refine oC (c2) rfl (ac .nil) ?_ | refine oC (c5) rfl (ac .nil) ?_ | refine oC (c6) rfl (ac .nil) ?_); refine oMv ?_; refine oEx ?_; refine oEx ?_; refine sal str28 ?_; refine oS ?_; refine oAs ?_; refine oN ?_) | (refine rg 5 ?_; refine oMv ?_; refine oCm ?_; refine oMv ?_; refine oMv ?_ <;> refine oCm ?_ <;> refine oPt ?_ <;> refine oMv ?_ <;> refine oMv ?_ <;> refine sp (po_bytes_str (l := noB) rfl rfl (.t _) byt23' rfl) ?_ <;> refine sp (po_str rfl rfl rfl rfl) ?_ <;> refine oPt ?_ <;> refine oMv ?_ <;> refine oMv ?_ <;> refine oCm ?_ <;> refine oPt ?_ <;> refine oMv ?_ <;> refine oFb ?_ <;> refine oLb ?_ <;> refine oCm ?_ <;> refine oPt ?_ <;> refine oMv ?_ <;> refine oMv ?_ <;> refine oCm ?_ <;> refine oPt ?_ <;> refine oAs ?_ <;> refine oN ?_) | refine gc ?_ | refine ct ?_ | refine cf ?_ | refine swp_cond rfl (fun hc => ?_) (fun hc => ?_) | refine rq rfl (rt .nil) ?_)
  rfl
end Go.Proofs.YtloippgblkoemaaGreatDoor.An
