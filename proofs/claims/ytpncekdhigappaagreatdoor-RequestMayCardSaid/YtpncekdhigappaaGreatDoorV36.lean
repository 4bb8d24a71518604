/- Merged by bundles.py: SimAnR. -/
import Derived.Test.YtpncekdhigappaaGreatDoorV34
/- Answers, messages: the document's reasons, first lines, bytes; walks. -/
namespace Go.Proofs.YtpncekdhigappaaGreatDoor.An
set_option linter.unusedVariables false
set_option linter.unusedSimpArgs false
open Go.RowKit Mem Sim Opn Hd Str Rq
set_option maxRecDepth 100000 in
set_option maxHeartbeats 2000000 in
theorem refFitsR_ (l : List Pl.Head) (hn : l.length ≤ 1000) (hh : ∀ h ∈ l, okHead h) (b : List UInt8) (hb : b.length ≤ 100000) : PCalls Tryz.prog 66 [headsT l, .sl 1 (b.map byteT)] (.v (.bool (fitsP l b))) := by
  have hm2 : (b.map byteT).length = b.length := List.length_map _
  have c1 := refFraming_ l hn hh
  have c2 := Hd.refMay_ l hn hh
  unfold framT endT at c1
  unfold fitsP
  generalize (fram l).2 = e at *
  generalize (fram l).1 = f at *
  have hlast : decide (((b.map byteT).length : Int) = f.length) = decide ((b.length : Int) = f.length) := by rw [hm2]
  refine pcalls_of Tryz.func66 rfl rfl Tryz.ntmps66 rfl ?_
  by_cases he : e = 0
  · rw [decide_eq_true he]
    cases hmy : Hd.mayL l with
    | false =>
      rw [hmy] at c2
      repeat' (first | (refine rg 0 ?_; refine oAs ?_; refine oN ?_) | (refine rg 1 ?_; refine oMv ?_; refine oC (c1) rfl (ac .nil) ?_; refine oMv ?_; refine oEx ?_; refine oEx ?_; refine sal str100 ?_; refine oS ?_; refine oAs ?_; refine oN ?_) | (refine rg 2 ?_; refine oMv ?_; refine oCm ?_; refine oMv ?_; refine oMv ?_ <;> (first | refine oC (c1) rfl (ac .nil) ?_ | refine oC (c2) rfl (ac .nil) ?_) <;> refine oPt ?_ <;> refine oMv ?_ <;> (first | refine oMv ?_ | refine oK ?_) <;> (first | refine sp (pln rfl (tyS rfl)) ?_ | refine oK ?_) <;> (first | refine oCm ?_ | refine oK ?_) <;> (first | refine oPt ?_ | refine oPf ?_) <;> refine oMv ?_ <;> (first | refine oFb ?_ | refine oFd ?_ | refine oK ?_) <;> (first | refine oLb ?_ | refine oLd ?_ | refine oK ?_) <;> (first | refine oCm ?_ | refine oK ?_) <;> (first | refine oMv ?_ | refine oK ?_) <;> (first | refine oMv ?_ | refine oK ?_) <;> (first | refine sp (pln rfl (tyS rfl)) ?_ | refine oK ?_) <;> (first | refine oFb ?_ | refine oFd ?_ | refine oK ?_) <;> (first | refine oLb ?_ | refine oLd ?_ | refine oK ?_) <;> (first | refine oCm ?_ | refine oK ?_) <;> (first | refine oPt ?_ | refine oPf ?_ | refine oK ?_) <;> (first | refine oPt ?_ | refine oPf ?_) <;> refine oAs ?_ <;> refine oN ?_) | refine gc ?_ | refine ct ?_ | refine cf ?_ | refine swp_cond rfl (fun hc => ?_) (fun hc => ?_) | refine rq rfl (rt .nil) ?_)
      rfl
    | true =>
      rw [hmy] at c2
      by_cases hbl : b.length ≤ 1024
      · rw [decide_eq_true hbl]
        by_cases hc : f.chunked = 1
        · rw [decide_eq_true hc]
          repeat' (first | (refine rg 0 ?_; refine oAs ?_; refine oN ?_) | (refine rg 1 ?_; refine oMv ?_; refine oC (c1) rfl (ac .nil) ?_; refine oMv ?_; refine oEx ?_; refine oEx ?_; refine sal str100 ?_; refine oS ?_; refine oAs ?_; refine oN ?_) | (refine rg 2 ?_; refine oMv ?_; refine oCm ?_; refine oMv ?_; refine oMv ?_ <;> (first | refine oC (c1) rfl (ac .nil) ?_ | refine oC (c2) rfl (ac .nil) ?_) <;> refine oPt ?_ <;> refine oMv ?_ <;> refine oMv ?_ <;> refine sp (pln rfl (tyS rfl)) ?_ <;> refine oCm ?_ <;> refine oPt ?_ <;> refine oMv ?_ <;> refine oFb ?_ <;> refine oLb ?_ <;> refine oCm ?_ <;> refine oMv ?_ <;> (first | refine oMv ?_ | refine oK ?_) <;> (first | refine sp (pln rfl (tyS rfl)) ?_ | refine oK ?_) <;> (first | refine oFb ?_ | refine oFd ?_ | refine oK ?_) <;> (first | refine oLb ?_ | refine oLd ?_ | refine oK ?_) <;> (first | refine oCm ?_ | refine oK ?_) <;> refine oPt ?_ <;> refine oPt ?_ <;> refine oAs ?_ <;> refine oN ?_) | refine gc ?_ | refine ct ?_ | refine cf ?_ | refine swp_cond rfl (fun hc => ?_) (fun hc => ?_) | refine rq rfl (rt .nil) ?_)
          rfl
        · rw [decide_eq_false hc]
          repeat' (first | (refine rg 0 ?_; refine oAs ?_; refine oN ?_) | (refine rg 1 ?_; refine oMv ?_; refine oC (c1) rfl (ac .nil) ?_; refine oMv ?_; refine oEx ?_; refine oEx ?_; refine sal str100 ?_; refine oS ?_; refine oAs ?_; refine oN ?_) | (refine rg 2 ?_; refine oMv ?_; refine oCm ?_; refine oMv ?_; refine oMv ?_ <;> (first | refine oC (c1) rfl (ac .nil) ?_ | refine oC (c2) rfl (ac .nil) ?_) <;> refine oPt ?_ <;> refine oMv ?_ <;> refine oMv ?_ <;> refine sp (pln rfl (tyS rfl)) ?_ <;> refine oCm ?_ <;> refine oPt ?_ <;> refine oMv ?_ <;> refine oFb ?_ <;> refine oLb ?_ <;> refine oCm ?_ <;> refine oMv ?_ <;> refine oMv ?_ <;> refine sp (pln rfl (tyS rfl)) ?_ <;> refine oFb ?_ <;> refine oLb ?_ <;> refine oCm ?_ <;> (first | refine oPt ?_ | refine oPf ?_) <;> refine oPt ?_ <;> refine oAs ?_ <;> refine oN ?_) | refine gc ?_ | refine ct ?_ | refine cf ?_ | refine swp_cond rfl (fun hc => ?_) (fun hc => ?_) | refine rq rfl (rt .nil) ?_)
          rw [← hlast]; rfl
      · rw [decide_eq_false hbl]
        repeat' (first | (refine rg 0 ?_; refine oAs ?_; refine oN ?_) | (refine rg 1 ?_; refine oMv ?_; refine oC (c1) rfl (ac .nil) ?_; refine oMv ?_; refine oEx ?_; refine oEx ?_; refine sal str100 ?_; refine oS ?_; refine oAs ?_; refine oN ?_) | (refine rg 2 ?_; refine oMv ?_; refine oCm ?_; refine oMv ?_; refine oMv ?_ <;> (first | refine oC (c1) rfl (ac .nil) ?_ | refine oC (c2) rfl (ac .nil) ?_) <;> refine oPt ?_ <;> refine oMv ?_ <;> refine oMv ?_ <;> refine sp (pln rfl (tyS rfl)) ?_ <;> refine oCm ?_ <;> refine oPt ?_ <;> refine oMv ?_ <;> (first | refine oFb ?_ | refine oFd ?_ | refine oK ?_) <;> (first | refine oLb ?_ | refine oLd ?_ | refine oK ?_) <;> (first | refine oCm ?_ | refine oK ?_) <;> (first | refine oMv ?_ | refine oK ?_) <;> (first | refine oMv ?_ | refine oK ?_) <;> (first | refine sp (pln rfl (tyS rfl)) ?_ | refine oK ?_) <;> (first | refine oFb ?_ | refine oFd ?_ | refine oK ?_) <;> (first | refine oLb ?_ | refine oLd ?_ | refine oK ?_) <;> (first | refine oCm ?_ | refine oK ?_) <;> (first | refine oPt ?_ | refine oPf ?_ | refine oK ?_) <;> (first | refine oPt ?_ | refine oPf ?_) <;> refine oAs ?_ <;> refine oN ?_) | refine gc ?_ | refine ct ?_ | refine cf ?_ | refine swp_cond rfl (fun hc => ?_) (fun hc => ?_) | refine rq rfl (rt .nil) ?_)
        rfl
  · rw [decide_eq_false he]
    repeat' (first | (refine rg 0 ?_; refine oAs ?_; refine oN ?_) | (refine rg 1 ?_; refine oMv ?_; refine oC (c1) rfl (ac .nil) ?_; refine oMv ?_; refine oEx ?_; refine oEx ?_; refine sal str100 ?_; refine oS ?_; refine oAs ?_; refine oN ?_) | (refine rg 2 ?_; refine oMv ?_; refine oCm ?_; refine oMv ?_; (first | refine oMv ?_ | refine oK ?_) <;> (first | refine oC (c1) rfl (ac .nil) ?_ | refine oK ?_) <;> (first | refine oPt ?_ | refine oPf ?_) <;> refine oMv ?_ <;> (first | refine oMv ?_ | refine oK ?_) <;> (first | refine sp (pln rfl (tyS rfl)) ?_ | refine oK ?_) <;> (first | refine oCm ?_ | refine oK ?_) <;> (first | refine oPt ?_ | refine oPf ?_) <;> refine oMv ?_ <;> (first | refine oFb ?_ | refine oFd ?_ | refine oK ?_) <;> (first | refine oLb ?_ | refine oLd ?_ | refine oK ?_) <;> (first | refine oCm ?_ | refine oK ?_) <;> (first | refine oMv ?_ | refine oK ?_) <;> (first | refine oMv ?_ | refine oK ?_) <;> (first | refine sp (pln rfl (tyS rfl)) ?_ | refine oK ?_) <;> (first | refine oFb ?_ | refine oFd ?_ | refine oK ?_) <;> (first | refine oLb ?_ | refine oLd ?_ | refine oK ?_) <;> (first | refine oCm ?_ | refine oK ?_) <;> (first | refine oPt ?_ | refine oPf ?_ | refine oK ?_) <;> (first | refine oPt ?_ | refine oPf ?_) <;> refine oAs ?_ <;> refine oN ?_) | refine gc ?_ | refine ct ?_ | refine cf ?_ | refine swp_cond rfl (fun hc => ?_) (fun hc => ?_) | refine rq rfl (rt .nil) ?_)
    rfl
theorem and15s : (List.range 1025).all (fun k => decide (IntKind.i64.wrap ((BitVec.ofInt IntKind.i64.bits (k : Int) &&& BitVec.ofInt IntKind.i64.bits 15).toNat : Int) = ((k % 16 : Nat) : Int))) = true := by kernel_rfl
theorem and15 {k : Nat} (h : k ≤ 1024) : IntKind.i64.wrap ((BitVec.ofInt IntKind.i64.bits (k : Int) &&& BitVec.ofInt IntKind.i64.bits 15).toNat : Int) = ((k % 16 : Nat) : Int) :=
  of_decide_eq_true ((List.all_eq_true.1 and15s) k (List.mem_range.2 (by omega)))
theorem po_andq {P : Program} {bx : List (Nat × List A)} {ow : List (Nat × Own)} {o : Oper} {ρ : Operand → Option A} {t t2 : TypeId} {x y : Operand} {k : IntKind} {i j c : Int} (hc : k.wrap (BitVec.ofInt k.bits i &&& BitVec.ofInt k.bits j).toNat = c) (ho : o.op = .binOp .and t x y t2) (hx : ρ x = some (.t (.v (.int k i)))) (hy : ρ y = some (.t (.v (.int k j)))) : PureOp P bx ow o ρ (.t (.v (.int k c))) := by
  subst hc; exact po_and ho hx hy
theorem po_shr4 {P : Program} {bx : List (Nat × List A)} {ow : List (Nat × Own)} {o : Oper} {ρ : Operand → Option A} {t t2 : TypeId} {x y : Operand} {m : Nat} (ho : o.op = .binOp .shr t x y t2) (hx : ρ x = some (.t (.v (.int .i64 (m : Int))))) (hy : ρ y = some (.t (.v (.int .u64 4)))) : PureOp P bx ow o ρ (.t (.v (.int .i64 ((m / 16 : Nat) : Int)))) :=
  po_ex2 ho hx hy (.v _) (.v _) (by
    intro w a b
    have : (m : Int).fdiv 16 = ((m / 16 : Nat) : Int) := by
      rw [show (16 : Int) = ((16 : Nat) : Int) from rfl, ← Int.ofNat_fdiv]
    simp [eqGuard, binOp, Op.shift, IntKind.bits, this])
theorem hex_slice {m : Nat} : hexS.extract (m % 16) (m % 16 + 1) = bs [hexC m] := by
  have h : m % 16 < 16 := Nat.mod_lt _ (by decide)
  have hs : ∀ j : Fin 16, hexS.extract j.1 (j.1 + 1) = bs [hexC j.1] := by decide
  have := hs ⟨m % 16, h⟩
  rw [hexC_mod] at this; exact this
theorem hm_1 {n : Nat} (h0 : n ≠ 0) : 1 ≤ hm n := by unfold hm; split <;> (try split) <;> (try split) <;> omega
theorem sz_app (a b : ByteArray) : (a ++ b).size = a.size + b.size := ByteArray.size_append
set_option maxRecDepth 100000 in
set_option maxHeartbeats 8000000 in
theorem refWriteOk_ (r : PRaw) (hr : RawOk r) (hw : wrP r = true) : PCalls Tryz.prog 28 [.agg (rawT r)] (.tup [.sl 1 ((msgP r).map byteT), .v (.bool true)]) := by
  unfold wrP at hw
  simp only [Bool.and_eq_true, decide_eq_true_eq] at hw
  obtain ⟨⟨⟨hp, h1⟩, h2⟩, hf⟩ := hw
  obtain ⟨hn, hh, hbd, hs⟩ := hr
  have hm1 : (r.heads.map headT).length = r.heads.length := List.length_map _
  have hm2 : (r.body.map byteT).length = r.body.length := List.length_map _
  have c2 := refFitsR_ r.heads hn hh r.body hbd
  rw [hf] at c2
  have c4 := refFraming_ r.heads hn hh
  unfold framT endT at c4
  have hg : (r.heads.length ≤ 24 ∧ ∀ h ∈ r.heads, good h = true) ∧ r.body.length ≤ 1024 := by
    unfold fitsP at hf
    simp only [Bool.and_eq_true, decide_eq_true_eq] at hf
    have h3 := hf.1.1.2
    unfold mayL at h3
    simp only [Bool.and_eq_true, decide_eq_true_eq] at h3
    exact ⟨⟨h3.1, fun h hh => (List.all_eq_true.1 h3.2) h hh⟩, hf.1.2⟩
  obtain ⟨hg, hb4⟩ := hg
  have hw := wL_len r hg.2 h2
  have hcr : (⟨#[13, 10]⟩ : ByteArray).size = 2 := rfl
  have e0 : r.start ++ ⟨#[13, 10]⟩ = bs (wL r 0) := by
    refine bs_inj ?_
    rw [bs_toList]; unfold wL; simp
  refine pcalls_of Tryz.func28 rfl rfl Tryz.ntmps28 rfl ?_
  unfold rawT
  repeat' (first | (refine rg 0 ?_; refine sbx ?_; refine oAs ?_; refine oAs ?_; refine oN ?_) | (refine rg 1 ?_; refine oFb ?_; refine oLb ?_; refine sp (po_len_str rfl rfl (tyR rfl)) ?_; refine oCm ?_; refine oMv ?_; refine oFb ?_ <;> refine oLb ?_ <;> refine sp (po_len_str rfl rfl (tyR rfl)) ?_ <;> refine oCm ?_ <;> (first | refine oPt ?_ | refine oPf ?_) <;> refine oMv ?_ <;> refine oFb ?_ <;> refine oLb ?_ <;> refine oFb ?_ <;> refine oLb ?_ <;> refine oC (c2) rfl (ac (ac .nil)) ?_ <;> refine sp (po_not rfl rfl) ?_ <;> (first | refine oPt ?_ | refine oPf ?_) <;> refine oN ?_) | (refine rg 3 ?_; refine oAs ?_; refine oN ?_) | refine gc ?_ | refine ct ?_ | refine cf ?_ | refine swp_cond rfl (fun hc => ?_) (fun hc => ?_) | refine rq rfl (rt (rt .nil)) ?_)
  refine swp_for (fun k => ⟨[(1, .bp 1 0), (4, .t (.v (.int .i64 (k : Int))))], [(1, [.t (.v (.string r.start)), .t (headsT r.heads), .t (.sl 1 (r.body.map byteT))])], []⟩) (fun _ => True) r.start.size (weak_sub (.cons rfl rfl rfl (.cons rfl rfl rfl .nil)) (.cons rfl rfl rfl .nil) .nil) trivial ?_
  intro k hk _
  by_cases hlt : k < r.start.size
  · have hev : evenB r.start[k] = true := (List.all_eq_true.1 hp) _ (by rw [← toList_at r.start hlt]; exact List.getElem_mem _)
    unfold evenB oddB oddR at hev
    simp at hev
    obtain ⟨hev1, hev2⟩ := hev
    repeat' (first | refine for_next hlt (weak_sub (.cons rfl rfl rfl (.cons rfl rfl rfl .nil)) (.cons rfl rfl rfl .nil) .nil) trivial | (refine rg 4 ?_; refine oMv ?_; refine oFb ?_; refine oLb ?_; refine sp (po_len_str rfl rfl (tyR rfl)) ?_; refine oCm ?_; refine oN ?_) | (refine rg 6 ?_; refine oFb ?_; refine oLb ?_; refine oMv ?_; refine sp (xist rfl) ?_; refine oCm ?_; refine oMv ?_; refine oFb ?_ <;> refine oLb ?_ <;> refine oMv ?_ <;> refine sp (xist rfl) ?_ <;> refine oCm ?_ <;> (first | refine oPt ?_ | refine oPf ?_) <;> refine oN ?_) | (refine rg 5 ?_; refine oMv ?_; refine sp (xinc rfl) ?_; refine oAs ?_; refine oN ?_) | refine gc ?_ | refine ct ?_ | refine cf ?_)
  · obtain rfl : k = r.start.size := by omega
    repeat' (first | (refine rg 4 ?_; refine oMv ?_; refine oFb ?_; refine oLb ?_; refine sp (po_len_str rfl rfl (tyR rfl)) ?_; refine oCm ?_; refine oN ?_) | (refine rg 8 ?_; refine oFb ?_; refine oLb ?_; refine sp (po_cat rfl rfl rfl (by omega)) ?_; refine oAs ?_; refine oN ?_) | (refine rg 9 ?_; refine oAs ?_; refine oN ?_) | refine gc ?_ | refine ct ?_ | refine cf ?_ | refine swp_cond rfl (fun hc => ?_) (fun hc => ?_) | refine rq rfl (rt (rt .nil)) ?_)
    refine swp_for (fun k => ⟨[(1, .bp 1 0), (5, .t (.v (.string (bs (wL r k))))), (6, .t (.v (.int .i64 (k : Int))))], [(1, [.t (.v (.string r.start)), .t (headsT r.heads), .t (.sl 1 (r.body.map byteT))])], []⟩) (fun _ => True) r.heads.length (weak_sub (.cons rfl (by first | rfl | ((rw [← e0]))) rfl (.cons rfl (by first | rfl | ((rw [← e0]))) rfl (.cons rfl (by first | rfl | ((rw [← e0]))) rfl .nil))) (.cons rfl (by first | rfl | ((rw [← e0]))) rfl .nil) .nil) trivial ?_
    clear hk hlt
    intro k hk _
    have hwk := hw k hk
    have hbw : (bs (wL r k)).size = (wL r k).length := bs_size _
    by_cases hlt : k < r.heads.length
    · have hgk := hg.2 r.heads[k] (List.getElem_mem _)
      have hmk : (r.heads.map headT)[k]? = some (headT r.heads[k]) := map_at hlt
      have hsc := wL_succ r hlt
      obtain ⟨hz1, hz2, hz3⟩ := good_size hgk
      have hnx : bs (wL r k) ++ r.heads[k].name ++ ⟨#[58, 32]⟩ ++ r.heads[k].value ++ ⟨#[13, 10]⟩ = bs (wL r (k + 1)) := by
        refine bs_inj ?_
        rw [hsc, bs_toList]
        unfold lineS
        simp only [toList_append, bs_toList, List.append_assoc]
      generalize r.heads[k] = h at *
      have hy1 := sz_app (bs (wL r k)) h.name
      have hy0 : (⟨#[58, 32]⟩ : ByteArray).size = 2 := rfl
      have hy2 := sz_app (bs (wL r k) ++ h.name) ⟨#[58, 32]⟩
      have hy3 := sz_app (bs (wL r k) ++ h.name ++ ⟨#[58, 32]⟩) h.value
      unfold headT at hmk
      repeat' (first | refine for_next hlt (weak_sub (.cons rfl (by rfl) rfl (.cons rfl (by first | rfl | (first | rfl | (rw [hnx]))) rfl (.cons rfl (by rfl) rfl .nil))) (.cons rfl (by rfl) rfl .nil) .nil) trivial | (refine rg 10 ?_; refine oMv ?_; refine oFb ?_; refine oLb ?_; refine sp (pln rfl (tyS rfl)) ?_; refine oCm ?_; refine oN ?_) | (refine swp_draw (id := 12) 17 mixed (by kernel_rfl) (by kernel_rfl) ?_; refine dMv ?_; refine dFb ?_; refine dLb ?_; refine dMv ?_; refine dp (pix rfl (tyS rfl)) ?_; (first | refine dFb ?_ | refine dFd ?_); (first | refine dLb ?_ | refine dLd ?_); refine dp (po_cat rfl rfl rfl (by omega)) ?_; refine dp (po_cat rfl rfl rfl (by omega)) ?_; refine dFb ?_; refine dLb ?_; refine dMv ?_; refine dp (pix rfl (tyS rfl)) ?_; (first | refine dFb ?_ | refine dFd ?_); (first | refine dLb ?_ | refine dLd ?_); refine dp (po_cat rfl rfl rfl (by omega)) ?_; refine dp (po_cat rfl rfl rfl (by omega)) ?_; refine dN ?_; refine oAs ?_; refine oN ?_) | (refine rg 11 ?_; refine oMv ?_; refine sp (xinc rfl) ?_; refine oAs ?_; refine oN ?_) | refine gc ?_ | refine ct ?_)
    · obtain rfl : k = r.heads.length := by omega
      have hyc := sz_app (bs (wL r r.heads.length)) ⟨#[13, 10]⟩
      have hyb : (bs r.body).size = r.body.length := bs_size _
      have hyd := sz_app (bs (wL r r.heads.length) ++ ⟨#[13, 10]⟩) (bs r.body)
      rcases fram_ch r.heads with hc | hc
      · rw [hc] at c4
        have hmx : (bs (wL r r.heads.length) ++ ⟨#[13, 10]⟩ ++ bs r.body).size ≤ maxLen := by unfold maxLen; omega
        have hfin : (msgP r).map byteT = (bs (wL r r.heads.length) ++ ⟨#[13, 10]⟩ ++ bs r.body).toList.map byteT := by
          unfold msgP tailL
          rw [hc, if_pos rfl, toList_append, toList_append, bs_toList, bs_toList, crlf_l]
        rw [hfin]
        repeat' (first | (refine rg 10 ?_; refine oMv ?_; refine oFb ?_; refine oLb ?_; refine sp (pln rfl (tyS rfl)) ?_; refine oCm ?_; refine oN ?_) | (refine rg 13 ?_; refine oMv ?_; refine sp (po_cat rfl rfl rfl (by omega)) ?_; refine oAs ?_; refine oN ?_) | (refine rg 14 ?_; refine oFb ?_; refine oLb ?_; refine oC (c4) rfl (ac .nil) ?_; refine oMv ?_; refine oEx ?_; refine oEx ?_; refine sal str100 ?_; refine oS ?_; refine oAs ?_; refine oN ?_) | (refine rg 15 ?_; refine oFb ?_; refine oLb ?_; refine oCm ?_; refine oN ?_) | (refine rg 16 ?_; refine oMv ?_; refine oFb ?_; refine oLb ?_; refine sp (po_bytes_str rfl rfl (by exact .t _) byt23 (tyR rfl)) ?_; refine sp (po_cat rfl rfl rfl (by omega)) ?_; refine sops_str_bytes 101 (.free rfl rfl) rfl rfl rfl rfl (tyR rfl) byt23 (by assumption) rfl ?_; refine oAs ?_; refine oAs ?_; refine oN ?_) | refine gc ?_ | refine ct ?_ | refine cf ?_ | refine swp_cond rfl (fun hc => ?_) (fun hc => ?_) | refine rq rfl (rt (rt .nil)) ?_)
        rfl
      · rw [hc] at c4
        have hes : (⟨#[48, 13, 10, 13, 10]⟩ : ByteArray).size = 5 := rfl
        by_cases hne : r.body = []
        · have hb0 : r.body.length = 0 := by rw [hne]; rfl
          have hye := sz_app (bs (wL r r.heads.length) ++ ⟨#[13, 10]⟩) ⟨#[48, 13, 10, 13, 10]⟩
          have hmx : (bs (wL r r.heads.length) ++ ⟨#[13, 10]⟩ ++ ⟨#[48, 13, 10, 13, 10]⟩).size ≤ maxLen := by unfold maxLen; omega
          have hfin : (msgP r).map byteT = (bs (wL r r.heads.length) ++ ⟨#[13, 10]⟩ ++ ⟨#[48, 13, 10, 13, 10]⟩).toList.map byteT := by
            unfold msgP tailL
            rw [hc, if_neg (by decide), if_pos hne, toList_append, toList_append, bs_toList, crlf_l, end_l, List.nil_append]
          rw [hfin]
          repeat' (first | (refine rg 10 ?_; refine oMv ?_; refine oFb ?_; refine oLb ?_; refine sp (pln rfl (tyS rfl)) ?_; refine oCm ?_; refine oN ?_) | (refine rg 13 ?_; refine oMv ?_; refine sp (po_cat rfl rfl rfl (by omega)) ?_; refine oAs ?_; refine oN ?_) | (refine rg 14 ?_; refine oFb ?_; refine oLb ?_; refine oC (c4) rfl (ac .nil) ?_; refine oMv ?_; refine oEx ?_; refine oEx ?_; refine sal str100 ?_; refine oS ?_; refine oAs ?_; refine oN ?_) | (refine rg 15 ?_; refine oFb ?_; refine oLb ?_; refine oCm ?_; refine oN ?_) | (refine rg 17 ?_; refine oFb ?_; refine oLb ?_; refine sp (pln rfl (tyS rfl)) ?_; refine oCm ?_; refine oN ?_) | (refine rg 25 ?_; refine oMv ?_; refine sp (po_cat rfl rfl rfl (by omega)) ?_; refine sops_str_bytes 101 (.free rfl rfl) rfl rfl rfl rfl (tyR rfl) byt23 (by assumption) rfl ?_; refine oAs ?_; refine oAs ?_; refine oN ?_) | refine gc ?_ | refine ct ?_ | refine cf ?_ | refine swp_cond rfl (fun hc => ?_) (fun hc => ?_) | refine rq rfl (rt (rt .nil)) ?_)
          rfl
        · have hb0 : r.body.length ≠ 0 := fun h => hne (List.eq_nil_of_length_eq_zero h)
          have ha0 := and15 (k := (r.body.map byteT).length) (by omega)
          have hi0 := hex_slice (m := (r.body.map byteT).length)
          have hlt16 : (r.body.map byteT).length % 16 < 16 := Nat.mod_lt _ (by decide)
          have hh16 : (⟨#[48, 49, 50, 51, 52, 53, 54, 55, 56, 57, 97, 98, 99, 100, 101, 102]⟩ : ByteArray).size = 16 := rfl
          have hk1' : hexK r.body.length (0 + 1) = [hexC r.body.length] := by show [hexC (r.body.length / 16 ^ 0)] = _; simp
          have hs1' : r.body.length / 16 ^ (0 + 1) = r.body.length / 16 := by simp
          repeat' (first | (refine rg 10 ?_; refine oMv ?_; refine oFb ?_; refine oLb ?_; refine sp (pln rfl (tyS rfl)) ?_; (first | refine sp (po_shr4 rfl rfl rfl) ?_ | refine oCm ?_); refine oN ?_) | (refine rg 13 ?_; refine oMv ?_; refine sp (po_cat rfl rfl rfl (by omega)) ?_; refine oAs ?_; refine oN ?_) | (refine rg 14 ?_; refine oFb ?_; refine oLb ?_; refine oC (c4) rfl (ac .nil) ?_; refine oMv ?_; refine oEx ?_; refine oEx ?_; refine sal str100 ?_; refine oS ?_; refine oAs ?_; refine oN ?_) | (refine rg 15 ?_; refine oFb ?_; refine oLb ?_; (first | refine sp (po_shr4 rfl rfl rfl) ?_ | refine oCm ?_); refine oN ?_) | (refine rg 17 ?_; refine oFb ?_; refine oLb ?_; refine sp (pln rfl (tyS rfl)) ?_; (first | refine sp (po_shr4 rfl rfl rfl) ?_ | refine oCm ?_); refine oN ?_) | (refine rg 18 ?_; refine oFb ?_; refine oLb ?_; refine sp (pln rfl (tyS rfl)) ?_; refine oAs ?_; refine oN ?_) | (refine rg 19 ?_; refine oMv ?_; refine sp (po_andq ha0 rfl rfl rfl) ?_; refine oMv ?_; refine sp (po_andq ha0 rfl rfl rfl) ?_; refine sp (xinc rfl) ?_; refine sp (po_slice_str rfl rfl (tyR rfl) (by first | rfl | exact ⟨_, rfl⟩) (by first | rfl | exact ⟨_, rfl⟩) (by omega) (by omega)) ?_; refine oAs ?_; refine oN ?_) | (refine rg 20 ?_; refine oMv ?_; refine sp (po_shr4 rfl rfl rfl) ?_; refine oAs ?_; refine oN ?_) | refine gc ?_ | refine ct ?_ | refine cf ?_ | refine swp_cond rfl (fun hc => ?_) (fun hc => ?_) | refine rq rfl (rt (rt .nil)) ?_)
          refine swp_for (fun k => ⟨[(1, .bp 1 0), (5, .t (.v (.string (bs (wL r r.heads.length) ++ ⟨#[13, 10]⟩)))), (9, .t (.v (.int .i64 ((r.body.length / 16 ^ (k + 1) : Nat) : Int)))), (10, .t (.v (.string (bs (hexK r.body.length (k + 1))))))], [(1, [.t (.v (.string r.start)), .t (headsT r.heads), .t (.sl 1 (r.body.map byteT))])], []⟩) (fun _ => True) (hm r.body.length - 1) (weak_sub (.cons rfl (by first | rfl | (first | rfl | (rw [hk1', hi0, hm2]) | (rw [hs1', hm2]))) rfl (.cons rfl (by first | rfl | (first | rfl | (rw [hk1', hi0, hm2]) | (rw [hs1', hm2]))) rfl (.cons rfl (by first | rfl | (first | rfl | (rw [hk1', hi0, hm2]) | (rw [hs1', hm2]))) rfl (.cons rfl (by first | rfl | (first | rfl | (rw [hk1', hi0, hm2]) | (rw [hs1', hm2]))) rfl .nil)))) (.cons rfl (by first | rfl | (first | rfl | (rw [hk1', hi0, hm2]) | (rw [hs1', hm2]))) rfl .nil) .nil) trivial ?_
          clear hk hlt
          intro k hk _
          by_cases hlt : k < hm r.body.length - 1
          · have h3 := hm_3 r.body.length
            have h0 := hm_lt (n := r.body.length) (k := k + 1) (by omega)
            have hb5 : r.body.length / 16 ^ (k + 1) ≤ 1024 := Nat.le_trans (Nat.div_le_self _ _) hb4
            have ha := and15 (k := r.body.length / 16 ^ (k + 1)) hb5
            have hi := hex_slice (m := r.body.length / 16 ^ (k + 1))
            have hq := div16 r.body.length (k + 1)
            have hl16 : r.body.length / 16 ^ (k + 1) % 16 < 16 := Nat.mod_lt _ (by decide)
            have hxk : (bs (hexK r.body.length (k + 1))).size = k + 1 := by rw [bs_size, hexK_len]
            have hsl1 : ((⟨#[48, 49, 50, 51, 52, 53, 54, 55, 56, 57, 97, 98, 99, 100, 101, 102]⟩ : ByteArray).extract (r.body.length / 16 ^ (k + 1) % 16) (r.body.length / 16 ^ (k + 1) % 16 + 1)).size = 1 := by rw [hi]; rfl
            have hone := bs_one (hexC (r.body.length / 16 ^ (k + 1))) (hexK r.body.length (k + 1))
            have hq2 : hexK r.body.length (k + 1 + 1) = hexC (r.body.length / 16 ^ (k + 1)) :: hexK r.body.length (k + 1) := rfl
            repeat' (first | refine for_next hlt (weak_sub (.cons rfl (by rfl) rfl (.cons rfl (by rfl) rfl (.cons rfl (by first | rfl | (first | rfl | (rw [hq]))) rfl (.cons rfl (by first | rfl | (first | rfl | (rw [hq]) | (rw [hi, hone, ← hq2]))) rfl .nil)))) (.cons rfl (by rfl) rfl .nil) .nil) trivial | (refine rg 21 ?_; refine oMv ?_; (first | refine sp (po_shr4 rfl rfl rfl) ?_ | refine oCm ?_); refine oN ?_) | (refine rg 23 ?_; refine oMv ?_; refine sp (po_andq ha rfl rfl rfl) ?_; refine oMv ?_; refine sp (po_andq ha rfl rfl rfl) ?_; refine sp (xinc rfl) ?_; refine sp (po_slice_str rfl rfl (tyR rfl) (by first | rfl | exact ⟨_, rfl⟩) (by first | rfl | exact ⟨_, rfl⟩) (by omega) (by omega)) ?_; refine oMv ?_; refine sp (po_cat rfl rfl rfl (by omega)) ?_; refine oAs ?_; refine oN ?_) | (refine rg 22 ?_; refine oMv ?_; refine sp (po_shr4 rfl rfl rfl) ?_; refine oAs ?_; refine oN ?_) | refine gc ?_ | refine ct ?_)
          · obtain rfl : k = hm r.body.length - 1 := by omega
            have h1m := hm_1 hb0
            have hk1 : hm r.body.length - 1 + 1 = hm r.body.length := by omega
            have h9 := hm_eq hb4
            have h3 := hm_3 r.body.length
            rw [hk1, h9]
            have hxs : (bs (hexK r.body.length (hm r.body.length))).size = hm r.body.length := by rw [bs_size, hexK_len]
            have hfin : (msgP r).map byteT = (bs (wL r r.heads.length) ++ ⟨#[13, 10]⟩ ++ bs (hexK r.body.length (hm r.body.length)) ++ ⟨#[13, 10]⟩ ++ bs r.body ++ ⟨#[13, 10]⟩ ++ ⟨#[48, 13, 10, 13, 10]⟩).toList.map byteT := by
              unfold msgP tailL hexL
              rw [hc, if_neg (by decide), if_neg hne]
              simp only [toList_append, bs_toList, crlf_l, end_l, List.append_assoc]
            rw [hfin]
            generalize hX : bs (hexK r.body.length (hm r.body.length)) = X at *
            have y1 := sz_app (bs (wL r r.heads.length) ++ ⟨#[13, 10]⟩) X
            have y2 := sz_app (bs (wL r r.heads.length) ++ ⟨#[13, 10]⟩ ++ X) ⟨#[13, 10]⟩
            have y3 := sz_app (bs (wL r r.heads.length) ++ ⟨#[13, 10]⟩ ++ X ++ ⟨#[13, 10]⟩) (bs r.body)
            have y4 := sz_app (bs (wL r r.heads.length) ++ ⟨#[13, 10]⟩ ++ X ++ ⟨#[13, 10]⟩ ++ bs r.body) ⟨#[13, 10]⟩
            have y5 := sz_app (bs (wL r r.heads.length) ++ ⟨#[13, 10]⟩ ++ X ++ ⟨#[13, 10]⟩ ++ bs r.body ++ ⟨#[13, 10]⟩) ⟨#[48, 13, 10, 13, 10]⟩
            have hmx : (bs (wL r r.heads.length) ++ ⟨#[13, 10]⟩ ++ X ++ ⟨#[13, 10]⟩ ++ bs r.body ++ ⟨#[13, 10]⟩ ++ ⟨#[48, 13, 10, 13, 10]⟩).size ≤ maxLen := by unfold maxLen; omega
            repeat' (first | (refine rg 21 ?_; refine oMv ?_; refine oCm ?_; refine oN ?_) | (refine rg 24 ?_; refine oMv ?_; refine oMv ?_; refine sp (po_cat rfl rfl rfl (by omega)) ?_; refine sp (po_cat rfl rfl rfl (by omega)) ?_; refine oFb ?_; refine oLb ?_; refine sp (po_bytes_str rfl rfl (by exact .t _) byt23 (tyR rfl)) ?_; refine sp (po_cat rfl rfl rfl (by omega)) ?_; refine sp (po_cat rfl rfl rfl (by omega)) ?_; refine oAs ?_; refine oN ?_) | (refine rg 25 ?_; refine oMv ?_; refine sp (po_cat rfl rfl rfl (by omega)) ?_; refine sops_str_bytes 101 (.free rfl rfl) rfl rfl rfl rfl (tyR rfl) byt23 (by assumption) rfl ?_; refine oAs ?_; refine oAs ?_; refine oN ?_) | refine gc ?_ | refine ct ?_ | refine cf ?_ | refine swp_cond rfl (fun hc => ?_) (fun hc => ?_) | refine rq rfl (rt (rt .nil)) ?_)
            rfl
def refWriteT (r : PRaw) : T := if wrP r then .tup [.sl 1 ((msgP r).map byteT), .v (.bool true)] else .tup [.v (.slice none 0 0), .v (.bool false)]
set_option maxRecDepth 100000 in
set_option maxHeartbeats 4000000 in
theorem refWrite_ (r : PRaw) (hr : RawOk r) : PCalls Tryz.prog 28 [.agg (rawT r)] (refWriteT r) := by
  unfold refWriteT
  cases hw : wrP r with
  | true => exact refWriteOk_ r hr hw
  | false =>
    obtain ⟨hn, hh, hbd, hs⟩ := hr
    unfold maxLen at hs
    have c2 := refFitsR_ r.heads hn hh r.body hbd
    unfold wrP at hw
    unfold rawT
    refine pcalls_of Tryz.func28 rfl rfl Tryz.ntmps28 rfl ?_
    by_cases h1 : 1 ≤ r.start.size
    · by_cases h2 : r.start.size ≤ 578
      · rw [decide_eq_true h1, decide_eq_true h2, Bool.and_true, Bool.and_true] at hw
        cases hf : fitsP r.heads r.body with
        | false =>
          rw [hf] at c2
          repeat' (first | (refine rg 0 ?_; refine sbx ?_; refine oAs ?_; refine oAs ?_; refine oN ?_) | (refine rg 1 ?_; refine oFb ?_; refine oLb ?_; refine sp (po_len_str rfl rfl (tyR rfl)) ?_; refine oCm ?_; refine oMv ?_; refine oFb ?_ <;> refine oLb ?_ <;> refine sp (po_len_str rfl rfl (tyR rfl)) ?_ <;> refine oCm ?_ <;> (first | refine oPt ?_ | refine oPf ?_) <;> refine oMv ?_ <;> refine oFb ?_ <;> refine oLb ?_ <;> refine oFb ?_ <;> refine oLb ?_ <;> refine oC (c2) rfl (ac (ac .nil)) ?_ <;> refine sp (po_not rfl rfl) ?_ <;> (first | refine oPt ?_ | refine oPf ?_) <;> refine oN ?_) | (refine rg 2 ?_; refine oAs ?_; refine oAs ?_; refine oN ?_) | refine gc ?_ | refine ct ?_ | refine cf ?_ | refine swp_cond rfl (fun hc => ?_) (fun hc => ?_) | refine rq rfl (rt (rt .nil)) ?_)
          rfl
        | true =>
          rw [hf] at c2 hw
          rw [Bool.and_true] at hw
          repeat' (first | (refine rg 0 ?_; refine sbx ?_; refine oAs ?_; refine oAs ?_; refine oN ?_) | (refine rg 1 ?_; refine oFb ?_; refine oLb ?_; refine sp (po_len_str rfl rfl (tyR rfl)) ?_; refine oCm ?_; refine oMv ?_; refine oFb ?_ <;> refine oLb ?_ <;> refine sp (po_len_str rfl rfl (tyR rfl)) ?_ <;> refine oCm ?_ <;> (first | refine oPt ?_ | refine oPf ?_) <;> refine oMv ?_ <;> refine oFb ?_ <;> refine oLb ?_ <;> refine oFb ?_ <;> refine oLb ?_ <;> refine oC (c2) rfl (ac (ac .nil)) ?_ <;> refine sp (po_not rfl rfl) ?_ <;> (first | refine oPt ?_ | refine oPf ?_) <;> refine oN ?_) | (refine rg 3 ?_; refine oAs ?_; refine oN ?_) | refine gc ?_ | refine ct ?_ | refine cf ?_ | refine swp_cond rfl (fun hc => ?_) (fun hc => ?_) | refine rq rfl (rt (rt .nil)) ?_)
          refine swp_for (fun k => ⟨[(1, .bp 1 0), (4, .t (.v (.int .i64 (k : Int))))], [(1, [.t (.v (.string r.start)), .t (headsT r.heads), .t (.sl 1 (r.body.map byteT))])], []⟩) (fun k => (r.start.toList.take k).all evenB = true) r.start.size (weak_sub (.cons rfl rfl rfl (.cons rfl rfl rfl .nil)) (.cons rfl rfl rfl .nil) .nil) rfl ?_
          intro k hk hI
          by_cases hlt : k < r.start.size
          · cases hev : evenB r.start[k] with
            | true =>
              have hev' := hev
              unfold evenB oddB oddR at hev
              simp at hev
              obtain ⟨hev1, hev2⟩ := hev
              repeat' (first | refine for_next hlt (weak_sub (.cons rfl rfl rfl (.cons rfl rfl rfl .nil)) (.cons rfl rfl rfl .nil) .nil) (all_snoc hI hlt hev') | (refine rg 4 ?_; refine oMv ?_; refine oFb ?_; refine oLb ?_; refine sp (po_len_str rfl rfl (tyR rfl)) ?_; refine oCm ?_; refine oN ?_) | (refine rg 6 ?_; refine oFb ?_; refine oLb ?_; refine oMv ?_; refine sp (xist rfl) ?_; refine oCm ?_; refine oMv ?_; refine oFb ?_ <;> refine oLb ?_ <;> refine oMv ?_ <;> refine sp (xist rfl) ?_ <;> refine oCm ?_ <;> (first | refine oPt ?_ | refine oPf ?_) <;> refine oN ?_) | (refine rg 5 ?_; refine oMv ?_; refine sp (xinc rfl) ?_; refine oAs ?_; refine oN ?_) | refine gc ?_ | refine ct ?_ | refine cf ?_)
            | false =>
              unfold evenB oddB oddR at hev
              have hev2 : r.start[k].toNat < 32 ∨ 126 < r.start[k].toNat := by simp at hev; omega
              rcases hev2 with h3 | h3
              all_goals
                repeat' (first | (refine rg 4 ?_; refine oMv ?_; refine oFb ?_; refine oLb ?_; refine sp (po_len_str rfl rfl (tyR rfl)) ?_; refine oCm ?_; refine oN ?_) | (refine rg 6 ?_; refine oFb ?_; refine oLb ?_; refine oMv ?_; refine sp (xist rfl) ?_; refine oCm ?_; refine oMv ?_; (first | refine oFb ?_ | refine oFd ?_ | refine oK ?_) <;> (first | refine oLb ?_ | refine oLd ?_ | refine oK ?_) <;> (first | refine oMv ?_ | refine oK ?_) <;> (first | refine sp (xist rfl) ?_ | refine oK ?_) <;> (first | refine oCm ?_ | refine oK ?_) <;> (first | refine oPt ?_ | refine oPf ?_) <;> refine oN ?_) | (refine rg 7 ?_; refine oAs ?_; refine oAs ?_; refine oN ?_) | refine gc ?_ | refine ct ?_ | refine cf ?_ | refine swp_cond rfl (fun hc => ?_) (fun hc => ?_) | refine rq rfl (rt (rt .nil)) ?_)
                rfl
          · obtain rfl : k = r.start.size := by omega
            rw [take_full r.start (Nat.lt_irrefl _)] at hI
            unfold plainP at hw
            rw [hI] at hw; cases hw
      · repeat' (first | (refine rg 0 ?_; refine sbx ?_; refine oAs ?_; refine oAs ?_; refine oN ?_) | (refine rg 1 ?_; refine oFb ?_; refine oLb ?_; refine sp (po_len_str rfl rfl (tyR rfl)) ?_; refine oCm ?_; refine oMv ?_; refine oFb ?_ <;> refine oLb ?_ <;> refine sp (po_len_str rfl rfl (tyR rfl)) ?_ <;> refine oCm ?_ <;> (first | refine oPt ?_ | refine oPf ?_) <;> refine oMv ?_ <;> (first | refine oFb ?_ | refine oFd ?_ | refine oK ?_) <;> (first | refine oLb ?_ | refine oLd ?_ | refine oK ?_) <;> (first | refine oFb ?_ | refine oFd ?_ | refine oK ?_) <;> (first | refine oLb ?_ | refine oLd ?_ | refine oK ?_) <;> (first | refine oC (c2) rfl (ac (ac .nil)) ?_ | refine oK ?_) <;> (first | refine sp (po_not rfl rfl) ?_ | refine oK ?_) <;> refine oPt ?_ <;> refine oN ?_) | (refine rg 2 ?_; refine oAs ?_; refine oAs ?_; refine oN ?_) | refine gc ?_ | refine ct ?_ | refine cf ?_ | refine swp_cond rfl (fun hc => ?_) (fun hc => ?_) | refine rq rfl (rt (rt .nil)) ?_)
        rfl
    · repeat' (first | (refine rg 0 ?_; refine sbx ?_; refine oAs ?_; refine oAs ?_; refine oN ?_) | (refine rg 1 ?_; refine oFb ?_; refine oLb ?_; refine sp (po_len_str rfl rfl (tyR rfl)) ?_; refine oCm ?_; refine oMv ?_; (first | refine oFb ?_ | refine oFd ?_ | refine oK ?_) <;> (first | refine oLb ?_ | refine oLd ?_ | refine oK ?_) <;> (first | refine sp (po_len_str rfl rfl (tyR rfl)) ?_ | refine oK ?_) <;> (first | refine oCm ?_ | refine oK ?_) <;> refine oPt ?_ <;> refine oMv ?_ <;> (first | refine oFb ?_ | refine oFd ?_ | refine oK ?_) <;> (first | refine oLb ?_ | refine oLd ?_ | refine oK ?_) <;> (first | refine oFb ?_ | refine oFd ?_ | refine oK ?_) <;> (first | refine oLb ?_ | refine oLd ?_ | refine oK ?_) <;> (first | refine oC (c2) rfl (ac (ac .nil)) ?_ | refine oK ?_) <;> (first | refine sp (po_not rfl rfl) ?_ | refine oK ?_) <;> refine oPt ?_ <;> refine oN ?_) | (refine rg 2 ?_; refine oAs ?_; refine oAs ?_; refine oN ?_) | refine gc ?_ | refine ct ?_ | refine cf ?_ | refine swp_cond rfl (fun hc => ?_) (fun hc => ?_) | refine rq rfl (rt (rt .nil)) ?_)
      rfl
end Go.Proofs.YtpncekdhigappaaGreatDoor.An
