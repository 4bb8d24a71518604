/- Merged by bundles.py: SimPc. -/
import Derived.Test.YtpncekdhigappaaGreatDoorU35
import Derived.Test.YtpncekdhigappaaGreatDoorU31
import Derived.Test.YtpncekdhigappaaGreatDoorU13
/- Requests: bytes in pieces, long messages: walks. -/
namespace Go.Proofs.YtpncekdhigappaaGreatDoor.Ro
set_option linter.unusedVariables false
set_option linter.unusedSimpArgs false
open Go.RowKit Mem Sim Opn Hd Str Pth Rq
theorem wf_i64 {c : Int} (h : (Lit.int .i64 c).wf = true) : -9223372036854775808 ≤ c ∧ c ≤ 9223372036854775807 := by
  unfold Lit.wf at h
  simp at h
  have e1 : IntKind.i64.min = -9223372036854775808 := by decide

  rw [e1] at h
  exact h
def nK (L a : Nat) (cuts : List Int) (k : Nat) : Nat := match cuts[k]? with
  | some c => min (L - a) c.toNat
  | none => L - a
def atK (L : Nat) (cuts : List Int) : Nat → Nat
  | 0 => 0
  | k + 1 => atK L cuts k + nK L (atK L cuts k) cuts k
theorem atK_le (L : Nat) (cuts : List Int) : ∀ k, atK L cuts k ≤ L
  | 0 => Nat.zero_le _
  | k + 1 => by
    have ih := atK_le L cuts k
    show atK L cuts k + nK L (atK L cuts k) cuts k ≤ L
    have : nK L (atK L cuts k) cuts k ≤ L - atK L cuts k := by
      unfold nK
      split
      · omega
      · omega
    omega
theorem atK_some {L : Nat} {cuts : List Int} {k : Nat} (h : k < cuts.length) : (atK L cuts k : Int) + min ((L : Int) - (atK L cuts k : Int)) (max 0 cuts[k]) = (atK L cuts (k + 1) : Int) := by
  have h1 := atK_le L cuts k
  show _ = ((atK L cuts k + nK L (atK L cuts k) cuts k : Nat) : Int)
  unfold nK
  rw [List.getElem?_eq_getElem h]
  dsimp only
  omega
theorem atK_none {L : Nat} {cuts : List Int} : (atK L cuts cuts.length : Int) + ((L : Int) - (atK L cuts cuts.length : Int)) = (atK L cuts (cuts.length + 1) : Int) ∧ atK L cuts (cuts.length + 1) = L := by
  have h1 := atK_le L cuts cuts.length
  have h2 : atK L cuts (cuts.length + 1) = atK L cuts cuts.length + nK L (atK L cuts cuts.length) cuts cuts.length := rfl
  have h3 : nK L (atK L cuts cuts.length) cuts cuts.length = L - atK L cuts cuts.length := by
    unfold nK; rw [List.getElem?_eq_none (Nat.le_refl _)]
  omega
def out0 (r : PRd) : PRd := ⟨r.phase, r.line, r.raw, r.left, r.err, []⟩
theorem piece (b : L8) {a a' : Nat} (h : a ≤ a') : feedP rd0 (b.take a') = addO (feedP rd0 (b.take a)).out (feedP (out0 (feedP rd0 (b.take a))) ((b.take a').drop a)) := by
  have e : b.take a' = b.take a ++ (b.take a').drop a := by
    have := (List.take_append_drop a (b.take a')).symm
    rw [List.take_take, Nat.min_eq_left h] at this
    exact this
  conv => lhs; rw [e, feedP_app]
  have h2 : feedP rd0 (b.take a) = addO (feedP rd0 (b.take a)).out (out0 (feedP rd0 (b.take a))) := by
    unfold addO out0; simp
  conv => lhs; rw [h2]
  rw [feed_addO]
theorem inv_out {n : Nat} {r : PRd} (h : Inv n r) : Inv n (out0 r) := ⟨h.hn, h.hh, Nat.zero_le _, h.hl, h.hb, h.hf, h.hp⟩
theorem int_at {l : List Int} {k : Nat} (h : k < l.length) : (l.map intT)[k]? = some (intT l[k]) := by
  rw [List.getElem?_map, List.getElem?_eq_getElem h]; rfl
abbrev z7 : List A := [.t (.v (.int .i64 0)), .t (.v (.slice none 0 0)), .t (.v (.string ⟨#[]⟩)), .t (.v (.slice none 0 0)), .t (.v (.slice none 0 0)), .t (.v (.int .i64 0)), .t (.v (.int .i64 0))]
abbrev p7 (r : PRd) : List A := [.t (.v (.int .i64 r.phase)), .t (.sl 1 (r.line.map byteT)), .t (.v (.string r.raw.start)), .t (headsT r.raw.heads), .t (.sl 1 (r.raw.body.map byteT)), .t (.v (.int .i64 r.left)), .t (.v (.int .i64 r.err))]
theorem po_sl {P : Program} {bx : List (Nat × List A)} {ow : List (Nat × Own)} {o : Oper} {ρ : Operand → Option A} {x y : List (List T)} {sz : Nat} (he : x = y) (h : PureOp P bx ow o ρ (.t (.sl sz x))) : PureOp P bx ow o ρ (.t (.sl sz y)) := he ▸ h
def PSt (b : L8) (cuts : List Int) (k : Nat) : St := ⟨[(0, .t (.sl 1 (b.map byteT))), (1, .t (.sl 1 (cuts.map intT))), (4, .bp 4 0), (7, .t (.v (.string (bs b)))), (8, .bp 8 0), (9, .own 150 ((feedP rd0 (b.take (atK b.length cuts k))).out.map rawT).length), (10, .t (.v (.int .i64 ((atK b.length cuts k : Nat) : Int)))), (11, .t (.v (.int .i64 (k : Int))))], [(4, z7), (8, p7 (feedP rd0 (b.take (atK b.length cuts k))))], [(150, ⟨25, 3, (feedP rd0 (b.take (atK b.length cuts k))).out.map rawT⟩)]⟩
def piecesT (b : L8) : T := .tup [.agg (parsC (feedP rd0 b)), .sl 3 ((feedP rd0 b).out.map rawT), .v (.bool true)]
set_option maxRecDepth 100000 in
set_option maxHeartbeats 8000000 in
theorem pieces_ (b : L8) (cuts : List Int) (hb : b.length ≤ 100000) (hc : cuts.length ≤ 100000) (hi : ∀ c ∈ cuts, -9223372036854775808 ≤ c ∧ c ≤ 9223372036854775807) : PCalls Tryz.prog 31 [.sl 1 (b.map byteT), .sl 1 (cuts.map intT)] (piecesT b) := by
  have hmb : (b.map byteT).length = b.length := List.length_map _
  have hmc : (cuts.map intT).length = cuts.length := List.length_map _
  have c0 := new_
  refine pcalls_of Tryz.func31 rfl rfl Tryz.ntmps31 rfl ?_
  repeat' (first | (refine rg 0 ?_; refine sal str45 ?_; refine aq49 ?_) | (refine rg 1 ?_; refine oMv ?_; refine sp (po_bytes_str (l := b) rfl rfl (.t _) byt23' rfl) ?_; refine aq0 ?_) | (refine rg 2 ?_; refine oC (c0) rfl .nil ?_; refine sal str45 ?_; refine aq8 ?_) | refine rg 3 (aq0 ?_) | refine rg 4 (aq0 ?_) | refine rg 5 (aq0 ?_) | refine gc ?_ | refine ct ?_ | refine cf ?_ | refine sc ?_ ?_ <;> intro hc | refine rq rfl (.cell rfl rfl (tyT rfl) (vc (vc (vc (vc (vc (vc (vc .nil))))))) rfl (rt (rt .nil))) ?_)
  clear c0
  refine swp_for (PSt b cuts) (fun _ => True) (cuts.length + 1) ?_ trivial ?_
  · refine Weak.trans (weak_own0 (i := 150) 25 3 (s := 9) rfl rfl) ?_
    exact (weak_sub (.cons rfl rfl rfl (.cons rfl rfl rfl (.cons rfl rfl rfl (.cons rfl rfl rfl (.cons rfl rfl rfl (.cons rfl rfl rfl (.cons rfl rfl rfl (.cons rfl rfl rfl .nil)))))))) (.cons rfl rfl rfl (.cons rfl rfl rfl .nil)) (.cons rfl rfl .nil))
  intro k hk _
  by_cases hlt : k < cuts.length + 1
  · have h1 := atK_le b.length cuts k
    have h2 := atK_le b.length cuts (k + 1)
    have h3 : atK b.length cuts k ≤ atK b.length cuts (k + 1) := Nat.le_add_right _ _
    have hI := inv0.feed b (by omega) (atK b.length cuts k) h1
    rw [Nat.zero_add] at hI
    have hI2 := inv0.feed b (by omega) (atK b.length cuts (k + 1)) h2
    rw [Nat.zero_add] at hI2
    have hp := piece b h3
    have hln : ((b.take (atK b.length cuts (k + 1))).drop (atK b.length cuts k)).length ≤ b.length := by rw [List.length_drop, List.length_take]; omega
    have c1 := feed_ _ (inv_out hI) rfl ((b.take (atK b.length cuts (k + 1))).drop (atK b.length cuts k)) (by omega)
    have hlk : k ≤ cuts.length := by omega
    have hz1 := hI.ho
    have hz2 := hI2.ho
    have hout : (feedP rd0 (b.take (atK b.length cuts (k + 1)))).out.map rawT = (feedP rd0 (b.take (atK b.length cuts k))).out.map rawT ++ (feedP (out0 (feedP rd0 (b.take (atK b.length cuts k)))) ((b.take (atK b.length cuts (k + 1))).drop (atK b.length cuts k))).out.map rawT := by
      rw [hp]; unfold addO; rw [List.map_append]
    have hol := congrArg List.length hout
    rw [List.length_append, List.length_map] at hol
    have hp7 : p7 (feedP rd0 (b.take (atK b.length cuts (k + 1)))) = p7 (feedP (out0 (feedP rd0 (b.take (atK b.length cuts k)))) ((b.take (atK b.length cuts (k + 1))).drop (atK b.length cuts k))) := by
      rw [hp]; rfl
    have hsl : ((b.map byteT).take (atK b.length cuts (k + 1))).drop (atK b.length cuts k) = ((b.take (atK b.length cuts (k + 1))).drop (atK b.length cuts k)).map byteT := by
      rw [← List.map_take, ← List.map_drop]
    have g1 : (((feedP rd0 (b.take (atK b.length cuts k))).out.map rawT).length + ((feedP (out0 (feedP rd0 (b.take (atK b.length cuts k)))) ((b.take (atK b.length cuts (k + 1))).drop (atK b.length cuts k))).out.map rawT).length) * 64 ≤ 140737488355328 := by omega
    have g2 : ((feedP rd0 (b.take (atK b.length cuts k))).out.map rawT).length + ((feedP (out0 (feedP rd0 (b.take (atK b.length cuts k)))) ((b.take (atK b.length cuts (k + 1))).drop (atK b.length cuts k))).out.map rawT).length ≤ maxLen := by unfold maxLen; omega
    unfold PSt
    have hcase : (∃ h : k < cuts.length, (atK b.length cuts k : Int) + min (((b.map byteT).length : Int) - (atK b.length cuts k : Int)) (max 0 cuts[k]) = (atK b.length cuts (k + 1) : Int)) ∨ (¬ k < cuts.length ∧ (atK b.length cuts k : Int) + (((b.map byteT).length : Int) - (atK b.length cuts k : Int)) = (atK b.length cuts (k + 1) : Int)) := by
      rw [hmb]
      by_cases h : k < cuts.length
      · exact .inl ⟨h, atK_some h⟩
      · obtain rfl : k = cuts.length := by omega
        exact .inr ⟨h, atK_none.1⟩
    have hir : ∀ h : k < cuts.length, -9223372036854775808 ≤ cuts[k] ∧ cuts[k] ≤ 9223372036854775807 := fun h => hi _ (List.getElem_mem h)
    have hia : ∀ h : k < cuts.length, (cuts.map intT)[k]? = some (intT cuts[k]) := fun h => int_at h
    unfold feedT parsC at c1
    clear hp hI hI2 hz1 hz2 hi hol hln
    generalize hRa : feedP rd0 (b.take (atK b.length cuts k)) = R at *
    generalize hQ : feedP (out0 R) ((b.take (atK b.length cuts (k + 1))).drop (atK b.length cuts k)) = Q at *
    clear hRa hQ
    generalize (b.take (atK b.length cuts (k + 1))).drop (atK b.length cuts k) = ch at *
    generalize atK b.length cuts k = a at *
    rcases hcase with ⟨hkc, hA⟩ | ⟨hkc, hA⟩
    · have hx := hia hkc
      have hir := hir hkc
      clear hia
      unfold intT at hx
      generalize cuts[k] = ck at *
      repeat' (first | refine for_next hlt (weak_sub (.cons rfl (by rfl) rfl (.cons rfl (by rfl) rfl (.cons rfl (by rfl) rfl (.cons rfl (by rfl) rfl (.cons rfl (by rfl) rfl (.cons rfl (by first | rfl | (first | exact hp7.symm | (rw [hout]; done))) rfl (.cons rfl (by rfl) rfl (.cons rfl (by rfl) rfl .nil)))))))) (.cons rfl (by rfl) rfl (.cons rfl (by first | rfl | (exact hp7.symm)) rfl .nil)) (.cons rfl (by first | rfl | (first | exact hp7.symm | (rw [hout]; done))) .nil)) trivial | refine rg 6 (aq219 ?_) | (refine rg 8 (aq200 ?_); (first | refine sp (po_arith (c := ((atK b.length cuts (k + 1) : Nat) : Int)) rfl rfl rfl (ar_add (by refine wrap_i64 ?_; omega) hA)) ?_ | refine sp (po_dec rfl rfl rfl (by omega)) ?_ | refine sp (po_arith rfl rfl rfl (ar_sub (by first | rfl | (refine wrap_i64 ?_; omega)) rfl)) ?_); refine aq0 ?_) | refine rg 9 (aq219 ?_) | (refine rg 10 ?_; refine oMv ?_; refine oMv ?_; refine oMv ?_; (first | refine sp (ixo rfl) ?_ | refine sp (pix rfl (tyS rfl)) ?_); (first | refine oLb ?_ | refine oLd ?_); refine sp (po_max rfl rfl rfl) ?_; refine sp (po_min rfl rfl rfl) ?_; refine oAs ?_; refine oN ?_) | refine rg 11 (aq0 ?_) | ((refine swp_any (id := 12) [[], [], [], [], [], [], [], [], [], [], [], [8], []] [[], [], [], [], [], [], [], [], [], [], [8], [], []] mixed (by kernel_rfl) ?_) <;> (first | refine yp (fun _ _ => po_arith (c := ((atK b.length cuts (k + 1) : Nat) : Int)) rfl rfl rfl (ar_add (by refine wrap_i64 ?_; omega) hA)) ?_ | refine yp (fun _ _ => po_sl hsl (po_slice rfl rfl (.t _) (tyS rfl) ⟨_, rfl⟩ ⟨_, rfl⟩ (by omega) (by omega))) ?_ | refine yp (fun _ _ => po_load_bx_agg rfl rfl (tyT rfl) rfl (vc (vc (vc (vc (vc (vc (vc .nil))))))) rfl) ?_) <;> (first | refine yp (fun _ _ => po_arith (c := ((atK b.length cuts (k + 1) : Nat) : Int)) rfl rfl rfl (ar_add (by refine wrap_i64 ?_; omega) hA)) ?_ | refine yp (fun _ _ => po_sl hsl (po_slice rfl rfl (.t _) (tyS rfl) ⟨_, rfl⟩ ⟨_, rfl⟩ (by omega) (by omega))) ?_ | refine yp (fun _ _ => po_move rfl rfl) ?_) <;> (first | refine yp (fun _ _ => po_arith (c := ((atK b.length cuts (k + 1) : Nat) : Int)) rfl rfl rfl (ar_add (by refine wrap_i64 ?_; omega) hA)) ?_ | refine yp (fun _ _ => po_sl hsl (po_slice rfl rfl (.t _) (tyS rfl) ⟨_, rfl⟩ ⟨_, rfl⟩ (by omega) (by omega))) ?_ | refine yp (fun _ _ => po_move rfl rfl) ?_) <;> (first | refine yp (fun _ _ => po_arith (c := ((atK b.length cuts (k + 1) : Nat) : Int)) rfl rfl rfl (ar_add (by refine wrap_i64 ?_; omega) hA)) ?_ | refine yp (fun _ _ => po_sl hsl (po_slice rfl rfl (.t _) (tyS rfl) ⟨_, rfl⟩ ⟨_, rfl⟩ (by omega) (by omega))) ?_ | refine yp (fun _ _ => po_move rfl rfl) ?_) <;> (first | refine yp (fun _ _ => po_arith (c := ((atK b.length cuts (k + 1) : Nat) : Int)) rfl rfl rfl (ar_add (by refine wrap_i64 ?_; omega) hA)) ?_ | refine yp (fun _ _ => po_sl hsl (po_slice rfl rfl (.t _) (tyS rfl) ⟨_, rfl⟩ ⟨_, rfl⟩ (by omega) (by omega))) ?_ | refine yp (fun _ _ => po_move rfl rfl) ?_) <;> (refine yp (fun _ _ => po_arith (c := ((atK b.length cuts (k + 1) : Nat) : Int)) rfl rfl rfl (ar_add (by refine wrap_i64 ?_; omega) hA)) ?_) <;> (first | refine yp (fun _ _ => po_arith (c := ((atK b.length cuts (k + 1) : Nat) : Int)) rfl rfl rfl (ar_add (by refine wrap_i64 ?_; omega) hA)) ?_ | refine yp (fun _ _ => po_sl hsl (po_slice rfl rfl (.t _) (tyS rfl) ⟨_, rfl⟩ ⟨_, rfl⟩ (by omega) (by omega))) ?_) <;> (first | refine yp (fun _ _ => po_arith (c := ((atK b.length cuts (k + 1) : Nat) : Int)) rfl rfl rfl (ar_add (by refine wrap_i64 ?_; omega) hA)) ?_ | refine yp (fun _ _ => po_sl hsl (po_slice rfl rfl (.t _) (tyS rfl) ⟨_, rfl⟩ ⟨_, rfl⟩ (by omega) (by omega))) ?_ | refine yp (fun _ _ => po_call (c1) rfl (ac (ac .nil))) ?_) <;> (first | refine yp (fun _ _ => po_arith (c := ((atK b.length cuts (k + 1) : Nat) : Int)) rfl rfl rfl (ar_add (by refine wrap_i64 ?_; omega) hA)) ?_ | refine yp (fun _ _ => po_sl hsl (po_slice rfl rfl (.t _) (tyS rfl) ⟨_, rfl⟩ ⟨_, rfl⟩ (by omega) (by omega))) ?_ | refine yp (fun _ _ => po_move rfl rfl) ?_) <;> (first | refine yp (fun _ _ => po_arith (c := ((atK b.length cuts (k + 1) : Nat) : Int)) rfl rfl rfl (ar_add (by refine wrap_i64 ?_; omega) hA)) ?_ | refine yp (fun _ _ => po_sl hsl (po_slice rfl rfl (.t _) (tyS rfl) ⟨_, rfl⟩ ⟨_, rfl⟩ (by omega) (by omega))) ?_ | refine yp (fun _ _ => po_extract rfl rfl rfl) ?_) <;> (first | refine yp (fun _ _ => po_arith (c := ((atK b.length cuts (k + 1) : Nat) : Int)) rfl rfl rfl (ar_add (by refine wrap_i64 ?_; omega) hA)) ?_ | refine yp (fun _ _ => po_sl hsl (po_slice rfl rfl (.t _) (tyS rfl) ⟨_, rfl⟩ ⟨_, rfl⟩ (by omega) (by omega))) ?_ | refine yp (fun _ _ => po_extract rfl rfl rfl) ?_) <;> refine sany_eff [(8, _)] [] (.free rfl rfl) rfl rfl (fun _ _ _ _ => e_store rfl rfl rfl rfl rfl rfl (tyT rfl) rfl rfl) ?_ <;> (first | refine yp (fun _ _ => po_arith (c := ((atK b.length cuts (k + 1) : Nat) : Int)) rfl rfl rfl (ar_add (by refine wrap_i64 ?_; omega) hA)) ?_ | refine yp (fun _ _ => po_sl hsl (po_slice rfl rfl (.t _) (tyS rfl) ⟨_, rfl⟩ ⟨_, rfl⟩ (by omega) (by omega))) ?_ | refine yp (fun _ _ => po_assign rfl rfl) ?_) <;> refine sany_nil ?_) | (refine rg 13 ?_; refine oMv ?_; refine oMv ?_; refine sap rfl (tyE rfl) ?_; refine oAs ?_; refine oN ?_) | (refine rg 14 (aq16 ?_); (refine sp (po_arith (c := ((atK b.length cuts (k + 1) : Nat) : Int)) rfl rfl rfl (ar_add (by refine wrap_i64 ?_; omega) hA)) ?_); refine aq0 ?_) | (refine rg 7 ?_; refine oMv ?_; (first | refine sp (po_arith (c := ((atK b.length cuts (k + 1) : Nat) : Int)) rfl rfl rfl (ar_add (by refine wrap_i64 ?_; omega) hA)) ?_ | refine sp (xinc rfl) ?_); refine aq0 ?_) | refine gc ?_ | refine ct ?_)
    · clear hia hir
      repeat' (first | refine for_next hlt (weak_sub (.cons rfl (by rfl) rfl (.cons rfl (by rfl) rfl (.cons rfl (by rfl) rfl (.cons rfl (by rfl) rfl (.cons rfl (by rfl) rfl (.cons rfl (by first | rfl | (first | exact hp7.symm | (rw [hout]; done))) rfl (.cons rfl (by rfl) rfl (.cons rfl (by rfl) rfl .nil)))))))) (.cons rfl (by rfl) rfl (.cons rfl (by first | rfl | (exact hp7.symm)) rfl .nil)) (.cons rfl (by first | rfl | (first | exact hp7.symm | (rw [hout]; done))) .nil)) trivial | refine rg 6 (aq219 ?_) | (refine rg 8 (aq200 ?_); (first | refine sp (po_arith (c := ((atK b.length cuts (k + 1) : Nat) : Int)) rfl rfl rfl (ar_add (by refine wrap_i64 ?_; omega) hA)) ?_ | refine sp (po_dec rfl rfl rfl (by omega)) ?_ | refine sp (po_arith rfl rfl rfl (ar_sub (by first | rfl | (refine wrap_i64 ?_; omega)) rfl)) ?_); refine aq0 ?_) | refine rg 9 (aq219 ?_) | refine rg 11 (aq0 ?_) | ((refine swp_any (id := 12) [[], [], [], [], [], [], [], [], [], [], [], [8], []] [[], [], [], [], [], [], [], [], [], [], [8], [], []] mixed (by kernel_rfl) ?_) <;> (first | refine yp (fun _ _ => po_arith (c := ((atK b.length cuts (k + 1) : Nat) : Int)) rfl rfl rfl (ar_add (by refine wrap_i64 ?_; omega) hA)) ?_ | refine yp (fun _ _ => po_sl hsl (po_slice rfl rfl (.t _) (tyS rfl) ⟨_, rfl⟩ ⟨_, rfl⟩ (by omega) (by omega))) ?_ | refine yp (fun _ _ => po_load_bx_agg rfl rfl (tyT rfl) rfl (vc (vc (vc (vc (vc (vc (vc .nil))))))) rfl) ?_) <;> (first | refine yp (fun _ _ => po_arith (c := ((atK b.length cuts (k + 1) : Nat) : Int)) rfl rfl rfl (ar_add (by refine wrap_i64 ?_; omega) hA)) ?_ | refine yp (fun _ _ => po_sl hsl (po_slice rfl rfl (.t _) (tyS rfl) ⟨_, rfl⟩ ⟨_, rfl⟩ (by omega) (by omega))) ?_ | refine yp (fun _ _ => po_move rfl rfl) ?_) <;> (first | refine yp (fun _ _ => po_arith (c := ((atK b.length cuts (k + 1) : Nat) : Int)) rfl rfl rfl (ar_add (by refine wrap_i64 ?_; omega) hA)) ?_ | refine yp (fun _ _ => po_sl hsl (po_slice rfl rfl (.t _) (tyS rfl) ⟨_, rfl⟩ ⟨_, rfl⟩ (by omega) (by omega))) ?_ | refine yp (fun _ _ => po_move rfl rfl) ?_) <;> (first | refine yp (fun _ _ => po_arith (c := ((atK b.length cuts (k + 1) : Nat) : Int)) rfl rfl rfl (ar_add (by refine wrap_i64 ?_; omega) hA)) ?_ | refine yp (fun _ _ => po_sl hsl (po_slice rfl rfl (.t _) (tyS rfl) ⟨_, rfl⟩ ⟨_, rfl⟩ (by omega) (by omega))) ?_ | refine yp (fun _ _ => po_move rfl rfl) ?_) <;> (first | refine yp (fun _ _ => po_arith (c := ((atK b.length cuts (k + 1) : Nat) : Int)) rfl rfl rfl (ar_add (by refine wrap_i64 ?_; omega) hA)) ?_ | refine yp (fun _ _ => po_sl hsl (po_slice rfl rfl (.t _) (tyS rfl) ⟨_, rfl⟩ ⟨_, rfl⟩ (by omega) (by omega))) ?_ | refine yp (fun _ _ => po_move rfl rfl) ?_) <;> (refine yp (fun _ _ => po_arith (c := ((atK b.length cuts (k + 1) : Nat) : Int)) rfl rfl rfl (ar_add (by refine wrap_i64 ?_; omega) hA)) ?_) <;> (first | refine yp (fun _ _ => po_arith (c := ((atK b.length cuts (k + 1) : Nat) : Int)) rfl rfl rfl (ar_add (by refine wrap_i64 ?_; omega) hA)) ?_ | refine yp (fun _ _ => po_sl hsl (po_slice rfl rfl (.t _) (tyS rfl) ⟨_, rfl⟩ ⟨_, rfl⟩ (by omega) (by omega))) ?_) <;> (first | refine yp (fun _ _ => po_arith (c := ((atK b.length cuts (k + 1) : Nat) : Int)) rfl rfl rfl (ar_add (by refine wrap_i64 ?_; omega) hA)) ?_ | refine yp (fun _ _ => po_sl hsl (po_slice rfl rfl (.t _) (tyS rfl) ⟨_, rfl⟩ ⟨_, rfl⟩ (by omega) (by omega))) ?_ | refine yp (fun _ _ => po_call (c1) rfl (ac (ac .nil))) ?_) <;> (first | refine yp (fun _ _ => po_arith (c := ((atK b.length cuts (k + 1) : Nat) : Int)) rfl rfl rfl (ar_add (by refine wrap_i64 ?_; omega) hA)) ?_ | refine yp (fun _ _ => po_sl hsl (po_slice rfl rfl (.t _) (tyS rfl) ⟨_, rfl⟩ ⟨_, rfl⟩ (by omega) (by omega))) ?_ | refine yp (fun _ _ => po_move rfl rfl) ?_) <;> (first | refine yp (fun _ _ => po_arith (c := ((atK b.length cuts (k + 1) : Nat) : Int)) rfl rfl rfl (ar_add (by refine wrap_i64 ?_; omega) hA)) ?_ | refine yp (fun _ _ => po_sl hsl (po_slice rfl rfl (.t _) (tyS rfl) ⟨_, rfl⟩ ⟨_, rfl⟩ (by omega) (by omega))) ?_ | refine yp (fun _ _ => po_extract rfl rfl rfl) ?_) <;> (first | refine yp (fun _ _ => po_arith (c := ((atK b.length cuts (k + 1) : Nat) : Int)) rfl rfl rfl (ar_add (by refine wrap_i64 ?_; omega) hA)) ?_ | refine yp (fun _ _ => po_sl hsl (po_slice rfl rfl (.t _) (tyS rfl) ⟨_, rfl⟩ ⟨_, rfl⟩ (by omega) (by omega))) ?_ | refine yp (fun _ _ => po_extract rfl rfl rfl) ?_) <;> refine sany_eff [(8, _)] [] (.free rfl rfl) rfl rfl (fun _ _ _ _ => e_store rfl rfl rfl rfl rfl rfl (tyT rfl) rfl rfl) ?_ <;> (first | refine yp (fun _ _ => po_arith (c := ((atK b.length cuts (k + 1) : Nat) : Int)) rfl rfl rfl (ar_add (by refine wrap_i64 ?_; omega) hA)) ?_ | refine yp (fun _ _ => po_sl hsl (po_slice rfl rfl (.t _) (tyS rfl) ⟨_, rfl⟩ ⟨_, rfl⟩ (by omega) (by omega))) ?_ | refine yp (fun _ _ => po_assign rfl rfl) ?_) <;> refine sany_nil ?_) | (refine rg 13 ?_; refine oMv ?_; refine oMv ?_; refine sap rfl (tyE rfl) ?_; refine oAs ?_; refine oN ?_) | (refine rg 14 (aq16 ?_); (refine sp (po_arith (c := ((atK b.length cuts (k + 1) : Nat) : Int)) rfl rfl rfl (ar_add (by refine wrap_i64 ?_; omega) hA)) ?_); refine aq0 ?_) | (refine rg 7 ?_; refine oMv ?_; (first | refine sp (po_arith (c := ((atK b.length cuts (k + 1) : Nat) : Int)) rfl rfl rfl (ar_add (by refine wrap_i64 ?_; omega) hA)) ?_ | refine sp (xinc rfl) ?_); refine aq0 ?_) | refine gc ?_ | refine ct ?_ | refine cf ?_)
  · have hkn : k = cuts.length + 1 := by omega
    subst hkn
    have hat := (atK_none (L := b.length) (cuts := cuts)).2
    unfold PSt
    rw [hat, List.take_length]
    unfold piecesT parsC
    repeat' (first | refine rg 6 (aq219 ?_) | ((refine swp_any (id := 15) [[], [], [], [], [], [], [4], [], []] [[], [4], [4], [4], [4], [4], [], [], []] mixed (by kernel_rfl) ?_) <;> (first | refine yp (fun _ _ => po_bytes_str (l := b) rfl rfl (.t _) byt23' rfl) ?_ | refine yp (fun _ _ => po_load_bx_agg rfl rfl (tyT rfl) rfl (vc (vc (vc (vc (vc (vc (vc .nil))))))) rfl) ?_) <;> (first | refine yp (fun _ _ => po_bytes_str (l := b) rfl rfl (.t _) byt23' rfl) ?_ | refine yp (fun _ _ => po_move rfl rfl) ?_) <;> (first | refine yp (fun _ _ => po_bytes_str (l := b) rfl rfl (.t _) byt23' rfl) ?_ | refine yp (fun _ _ => po_move rfl rfl) ?_) <;> refine yp (fun _ _ => po_bytes_str (l := b) rfl rfl (.t _) byt23' rfl) ?_ <;> (first | refine yp (fun _ _ => po_bytes_str (l := b) rfl rfl (.t _) byt23' rfl) ?_ | refine yp (fun _ _ => po_move rfl rfl) ?_) <;> (first | refine yp (fun _ _ => po_bytes_str (l := b) rfl rfl (.t _) byt23' rfl) ?_ | refine yp (fun _ _ => po_str rfl rfl rfl rfl) ?_) <;> refine sany_eff [(4, _)] [] (.free rfl rfl) rfl rfl (fun _ _ _ _ => e_store rfl rfl rfl rfl rfl rfl (tyT rfl) rfl rfl) ?_ <;> (first | refine yp (fun _ _ => po_bytes_str (l := b) rfl rfl (.t _) byt23' rfl) ?_ | refine yp (fun _ _ => po_assign rfl rfl) ?_) <;> (first | refine yp (fun _ _ => po_bytes_str (l := b) rfl rfl (.t _) byt23' rfl) ?_ | refine yp (fun _ _ => po_assign rfl rfl) ?_) <;> refine sany_nil ?_) | refine gc ?_ | refine ct ?_ | refine cf ?_ | refine sc ?_ ?_ <;> intro hc | refine rq rfl (.cell rfl rfl (tyT rfl) (vc (vc (vc (vc (vc (vc (vc .nil))))))) rfl (rt (rt .nil))) ?_)
    rw [decide_eq_true rfl]; rfl
end Go.Proofs.YtpncekdhigappaaGreatDoor.Ro
