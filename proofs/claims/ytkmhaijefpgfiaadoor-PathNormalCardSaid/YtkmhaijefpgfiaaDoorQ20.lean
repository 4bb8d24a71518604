/- Merged by bundles.py: SimPath12, SimPath13, Rel08. -/
import Derived.Test.YtkmhaijefpgfiaaDoorQ19
import Derived.Test.YtkmhaijefpgfiaaDoorQ9
import Derived.Test.YtkmhaijefpgfiaaDoorQ12
import Derived.OpenShut
/- Targets: the document's answer: walks. -/
namespace Go.Proofs.YtkmhaijefpgfiaaDoor.Pth
set_option linter.unusedVariables false
set_option linter.unusedSimpArgs false
open Go.RowKit Mem Sim Opn Str
theorem swp_join_b {P : Program} {N : Nat} {Q : Exit → St → Prop} {st : St} {id : Nat} {c : Code} (st' : St) (h : Hold (SWp P N (.block id c) (JoinQ N st' Q) st)) (k : Q .normal st') : SWp P N (.block id c) Q st := swp_joinQ st' h.go k
def refNormT (x : Option (L8 × L8)) : T := match x with
  | some (p, q) => .tup [.v (.string (bs p)), .v (.string (bs q)), .v (.bool true)]
  | none => .tup [.v (.string ⟨#[]⟩), .v (.string ⟨#[]⟩), .v (.bool false)]
theorem badR_t : badR true = hiddenB := by funext c; unfold badR; simp
theorem badR_f : badR false = fun _ => false := by funext c; unfold badR; simp
theorem noq_take {l : L8} {k : Nat} (hk : k < l.findIdx (· == 63)) (hl : k < l.length) : l[k] ≠ 63 := by
  intro e
  have := List.not_of_lt_findIdx hk
  simp [e] at this
theorem saidF_ok : ∀ (l : L8), okL l = true → (saidL (fun _ => false) l).2 = true
  | [], _ => rfl
  | c :: l, h => by
    by_cases hc : c = 37
    · subst hc
      have hp := okL_pct h
      match l, hp with
      | a :: b :: l', _ =>
        rw [saidL_pct, if_neg (by simp)]
        have := saidF_ok l' (okL_tail (okL_tail (okL_tail h)))
        split <;> exact this
    · rw [saidL_cons hc]
      exact saidF_ok l (okL_tail h)
theorem last_strs {l : List L8} {z : L8} (h : l.getLast? = some z) : (l.map strT)[(l.map strT).length - 1]? = some [T.v (.string (bs z))] := by
  rw [List.length_map, List.getElem?_map, ← List.getLast?_eq_getElem?, h]; rfl
set_option maxRecDepth 100000 in
set_option maxHeartbeats 2000000 in
theorem refNormal_ (s : ByteArray) (hs : s.size ≤ 100000) : PCalls Tryd.prog 9 [.v (.string s)] (refNormT (normL s.toList)) := by
  have c0 := refMay_ s hs
  unfold normL
  refine pcalls_of Tryd.func9 rfl rfl Tryd.ntmps9 rfl ?_
  cases hmay : mayL s.toList with
  | false =>
    rw [hmay] at c0
    repeat' (first | (refine rg 0 ?_; refine oAs ?_; refine oAs ?_; refine oAs ?_; refine oN ?_) | (refine rg 1 ?_; refine oMv ?_; refine oC (c0) rfl (ac .nil) ?_; refine sp (po_not rfl rfl) ?_; refine oN ?_) | (refine rg 2 ?_; refine oAs ?_; refine oAs ?_; refine oAs ?_; refine oN ?_) | refine gc ?_ | refine ct ?_ | refine cf ?_ | refine swp_cond rfl (fun hc => ?_) (fun hc => ?_) | refine rq rfl (rt (rt (rt .nil))) ?_)
    rfl
  | true =>
    rw [hmay] at c0
    obtain ⟨m1, m2, m3⟩ := may_parts hmay
    have hl := toList_len s
    rw [if_pos rfl]
    obtain ⟨k1, k2⟩ := cut_ok m3
    obtain ⟨n1, n2⟩ := cut_len s.toList
    have hh := head_cut m2
    have c2 := refSaid_ true (bs (cutL s.toList).1) (by rw [bs_size]; omega) (by rw [bs_toList]; exact k1)
    have c3 := refSaid_ false (bs (cutL s.toList).2) (by rw [bs_size]; omega) (by rw [bs_toList]; exact k2)
    rw [bs_toList] at c2 c3
    rw [badR_t] at c2
    rw [badR_f] at c3
    have hq3 := saidF_ok _ k2
    have hh2 := said_head (bad := hiddenB) hh.1
    have l2 := saidL_len hiddenB (cutL s.toList).1
    have hci := cut_idx s.toList
    have hex : ∀ a b, s.extract a b = bs ((s.toList.take b).drop a) := fun a b => by
      have := ext_bs s.toList a b
      rwa [toList_bs] at this
    repeat' (first | refine swp_join_b ⟨[(0, .t (.v (.string s))), (5, .t (.v (.string (bs (cutL s.toList).1)))), (6, .t (.v (.string (bs (cutL s.toList).2))))], [], []⟩ ?_ ?_ | refine then_go ?_ | refine swp_seq ?_ | (refine rg 0 ?_; refine oAs ?_; refine oAs ?_; refine oAs ?_; refine oN ?_) | (refine rg 1 ?_; refine oMv ?_; refine oC (c0) rfl (ac .nil) ?_; refine sp (po_not rfl rfl) ?_; refine oN ?_) | (refine rg 3 ?_; refine oMv ?_; refine oAs ?_; refine oAs ?_; refine oN ?_) | (refine rg 4 ?_; refine oAs ?_; refine oN ?_) | refine swp_ret ?_ | refine swp_skip ?_ | refine swp_block ?_ | refine swp_exit ?_ | refine block_go ?_ | refine block_exit ?_ | refine block_far rfl ?_ | refine block_ret ?_ | refine then_ret ?_ | refine then_exit ?_ | refine for_ret ?_ | refine for_exit ?_ | refine ct ?_ | refine cf ?_ | refine swp_cond rfl (fun hc => ?_) (fun hc => ?_) | refine rq rfl (rt (rt (rt .nil))) ?_)
    · refine ⟨swp_block ?_⟩
      refine swp_for (fun k => ⟨[(0, .t (.v (.string s))), (5, .t (.v (.string s))), (6, .t (.v (.string ⟨#[]⟩))), (7, .t (.v (.int .i64 (k : Int))))], [], []⟩) (fun k => k ≤ s.toList.findIdx (· == 63)) s.size (weak_sub (.cons rfl rfl rfl (.cons rfl rfl rfl (.cons rfl rfl rfl (.cons rfl rfl rfl .nil)))) .nil .nil) (Nat.zero_le _) ?_
      intro k hk hI
      have hfl := List.findIdx_le_length (xs := s.toList) (p := (· == 63))
      by_cases hlt : k < s.size
      · have hat : s.toList[k]'(by omega) = s[k] := by
          have := toList_get s k hlt
          rw [List.getElem?_eq_getElem (by omega)] at this
          injection this
        by_cases hq : s[k].toNat = 63
        · have hq' : s[k] = 63 := UInt8.toNat_inj.1 hq
          have hki : k = s.toList.findIdx (· == 63) := by
            refine Nat.le_antisymm hI (Nat.le_of_not_lt fun h => ?_)
            exact noq_take h (by omega) (hat.trans hq')
          have e1 : s.extract 0 k = bs (cutL s.toList).1 := by rw [hex, hci, ← hki]; rfl
          have e2 : s.extract (k + 1) s.size = bs (cutL s.toList).2 := by rw [hex, hci, ← hki, List.take_of_length_le (by omega)]
          repeat' (first | refine gc ?_ | refine for_exit ?_ | refine join_go (weak_sub (.cons rfl (by first | rfl | (first | exact str_eq e1 | exact str_eq e2)) rfl (.cons rfl (by first | rfl | (first | exact str_eq e1 | exact str_eq e2)) rfl (.cons rfl (by first | rfl | (first | exact str_eq e1 | exact str_eq e2)) rfl .nil))) .nil .nil) | (refine rg 5 ?_; refine oMv ?_; refine oMv ?_; refine sp (po_len_str rfl rfl (tyR rfl)) ?_; refine oCm ?_; refine oN ?_) | (refine rg 7 ?_; refine oMv ?_; refine oMv ?_; refine sp (xist rfl) ?_; refine oCm ?_; refine oN ?_) | (refine rd 8 ?_; refine dMv ?_; refine dMv ?_; (first | refine dp (po_slice_str (l := 0) (h' := k) rfl rfl (tyR rfl) rfl ⟨_, rfl⟩ (by omega) (by omega)) ?_ | refine dp (po_slice_str rfl rfl (tyR rfl) (by first | rfl | exact ⟨_, rfl⟩) (by first | rfl | exact ⟨_, rfl⟩) (by omega) (by omega)) ?_); refine dMv ?_; refine dMv ?_; (first | refine dp (xinc rfl) ?_ | refine dp (xadd rfl) ?_); (first | refine dp (po_slice_str (l := 0) (h' := k) rfl rfl (tyR rfl) rfl ⟨_, rfl⟩ (by omega) (by omega)) ?_ | refine dp (po_slice_str rfl rfl (tyR rfl) (by first | rfl | exact ⟨_, rfl⟩) (by first | rfl | exact ⟨_, rfl⟩) (by omega) (by omega)) ?_); refine dAs ?_; refine dAs ?_; refine dN ?_; refine oN ?_) | refine ct ?_ | refine cf ?_ | refine swp_cond rfl (fun hc => ?_) (fun hc => ?_) | refine rq rfl (rt (rt (rt .nil))) ?_)
        · have hne : s.toList[k]'(by omega) ≠ 63 := fun e => hq (by rw [← hat, e]; rfl)
          have hkl : k + 1 ≤ s.toList.findIdx (· == 63) := by
            refine Nat.lt_of_le_of_ne hI fun e => hne ?_
            have := List.findIdx_getElem (xs := s.toList) (p := (· == 63)) (w := by omega)
            simp only [← e] at this
            simpa using this
          repeat' (first | refine for_next hlt (weak_sub (.cons rfl rfl rfl (.cons rfl rfl rfl (.cons rfl rfl rfl (.cons rfl rfl rfl .nil)))) .nil .nil) hkl | (refine rg 5 ?_; refine oMv ?_; refine oMv ?_; refine sp (po_len_str rfl rfl (tyR rfl)) ?_; refine oCm ?_; refine oN ?_) | (refine rg 7 ?_; refine oMv ?_; refine oMv ?_; refine sp (xist rfl) ?_; refine oCm ?_; refine oN ?_) | (refine rg 6 ?_; refine oMv ?_; (first | refine sp (xinc rfl) ?_ | refine sp (xadd rfl) ?_); refine oAs ?_; refine oN ?_) | refine gc ?_ | refine ct ?_ | refine cf ?_ | refine swp_cond rfl (fun hc => ?_) (fun hc => ?_) | refine rq rfl (rt (rt (rt .nil))) ?_)
      · obtain rfl : k = s.size := by omega
        have hfi : s.toList.findIdx (· == 63) = s.toList.length := by omega
        have e1 : s = bs (cutL s.toList).1 := by rw [hci, hfi, List.take_length, toList_bs]
        have e2 : (⟨#[]⟩ : ByteArray) = bs (cutL s.toList).2 := by rw [hci, hfi, List.drop_of_length_le (by omega)]; rfl
        repeat' (first | refine gc ?_ | refine for_exit ?_ | refine join_go (weak_sub (.cons rfl (by first | rfl | (first | exact str_eq e1 | exact str_eq e2)) rfl (.cons rfl (by first | rfl | (first | exact str_eq e1 | exact str_eq e2)) rfl (.cons rfl (by first | rfl | (first | exact str_eq e1 | exact str_eq e2)) rfl .nil))) .nil .nil) | (refine rg 5 ?_; refine oMv ?_; refine oMv ?_; refine sp (po_len_str rfl rfl (tyR rfl)) ?_; refine oCm ?_; refine oN ?_) | refine ct ?_ | refine cf ?_ | refine swp_cond rfl (fun hc => ?_) (fun hc => ?_) | refine rq rfl (rt (rt (rt .nil))) ?_)
    · clear hci hex
      generalize (cutL s.toList).1 = road0 at *
      generalize (cutL s.toList).2 = q0 at *
      generalize saidL hiddenB road0 = rd at *
      generalize saidL (fun _ => false) q0 = qd at *
      obtain ⟨road, ok⟩ := rd
      obtain ⟨q, qok⟩ := qd
      dsimp only at *
      subst hq3
      unfold refSaidT at c2 c3
      dsimp only at c2 c3
      rw [if_pos rfl] at c3
      have c4 := refSplit_ (bs road) (by rw [bs_size]; exact hh2.2) (by rw [bs_size]; omega)
      rw [bs_toList] at c4
      rw [keptL_G]
      have htot := tot_splL (road.drop 1)
      rw [List.length_drop] at htot
      have hsl : (splL (road.drop 1)).length ≤ 100000 := by unfold tot at htot; omega
      have c5 := refKept_ (splL (road.drop 1)) hsl
      have ht : ∀ r, keptL road = some r → tot r.1 ≤ road.length := fun r => tot_keptL hh2.2
      rw [keptL_G] at ht
      have hne := splL_ne (road.drop 1)
      obtain ⟨z, hz⟩ : ∃ z, (splL (road.drop 1)).getLast? = some z := Option.isSome_iff_exists.1 (by cases hq : splL (road.drop 1) with | nil => exact absurd hq hne | cons a b => simp)
      have hrow := last_strs hz
      have hlen : 1 ≤ ((splL (road.drop 1)).map strT).length := by rw [List.length_map]; cases hq : splL (road.drop 1) with | nil => exact absurd hq hne | cons a b => simp
      rw [hz] at ht
      cases ok with
      | false =>
        rw [if_neg (by simp)] at c2
        repeat' (first | (refine rg 9 ?_; refine oMv ?_; refine oC (c2) rfl (ac (ac .nil)) ?_; refine oMv ?_; refine oEx ?_; refine oEx ?_; refine oAs ?_; refine oAs ?_; refine oN ?_) | (refine rg 10 ?_; refine oMv ?_; refine sp (po_not rfl rfl) ?_; refine oN ?_) | (refine rg 11 ?_; refine oAs ?_; refine oAs ?_; refine oAs ?_; refine oN ?_) | refine gc ?_ | refine ct ?_ | refine cf ?_ | refine swp_cond rfl (fun hc => ?_) (fun hc => ?_) | refine rq rfl (rt (rt (rt .nil))) ?_)
        cases keptG [] (splL (road.drop 1)) <;> rfl
      | true =>
        rw [if_pos rfl] at c2
        generalize splL (road.drop 1) = segs at *
        cases hk : keptG [] segs with
        | none =>
          rw [hk] at c5
          unfold refKeptT at c5
          dsimp only at c5
          repeat' (first | (refine rg 9 ?_; refine oMv ?_; (first | refine oC (c2) rfl (ac (ac .nil)) ?_ | refine oC (c4) rfl (ac (ac .nil)) ?_ | refine oC (c5) rfl (ac (ac .nil)) ?_); refine oMv ?_; refine oEx ?_; refine oEx ?_; refine oAs ?_; refine oAs ?_; refine oN ?_) | (refine rg 10 ?_; refine oMv ?_; refine sp (po_not rfl rfl) ?_; refine oN ?_) | (refine rg 12 ?_; refine oMv ?_; (first | refine oC (c2) rfl (ac .nil) ?_ | refine oC (c4) rfl (ac .nil) ?_ | refine oC (c5) rfl (ac .nil) ?_); refine oAs ?_; refine oN ?_) | (refine rg 13 ?_; refine oMv ?_; (first | refine oC (c2) rfl (ac .nil) ?_ | refine oC (c4) rfl (ac .nil) ?_ | refine oC (c5) rfl (ac .nil) ?_); refine oMv ?_; refine oEx ?_; refine oEx ?_; refine oAs ?_; refine oAs ?_; refine oN ?_) | (refine rg 14 ?_; refine oMv ?_; refine sp (po_not rfl rfl) ?_; refine oN ?_) | (refine rg 15 ?_; refine oAs ?_; refine oAs ?_; refine oAs ?_; refine oN ?_) | refine gc ?_ | refine ct ?_ | refine cf ?_ | refine swp_cond rfl (fun hc => ?_) (fun hc => ?_) | refine rq rfl (rt (rt (rt .nil))) ?_)
          rfl
        | some out =>
          rw [hk] at c5 ht
          unfold refKeptT at c5
          dsimp only at c5
          have ht' := ht _ rfl
          dsimp only at ht'
          have hjn : ∀ d, joinL (d && decide (out ≠ [])) out = joinL d out := fun d => by unfold joinL; cases d <;> simp
          show SWp _ _ _ (Then _ _ _ _) _
          have hgoal : (Option.map (fun x : List L8 => (x, ((some z).map dotB).getD false && decide (x ≠ []))) (some out)) = some (out, dotB z && decide (out ≠ [])) := rfl
          rw [hz, hgoal]
          dsimp only
          rw [if_pos rfl, hjn]
          have g0 : decide (bs z = ⟨#[]⟩) = decide (z = []) := bs_dec z []
          have g1 : decide (bs z = ⟨#[46]⟩) = decide (z = [46]) := bs_dec z [46]
          have g2 : decide (bs z = ⟨#[46, 46]⟩) = decide (z = [46, 46]) := bs_dec z [46, 46]
          have c6 := refJoin_ (dotB z) out (by omega)
          have hub : (segs.map strT).length ≤ 100000 := by rw [List.length_map]; exact hsl
          clear hk ht hz hgoal hjn htot hsl
          unfold refNormT
          dsimp only
          by_cases hs0 : z = []
          · have g0' := g0.trans (decide_eq_true hs0)
            rw [show dotB z = true by subst hs0; rfl] at *
            clear g0 g1 g2
            repeat' (first | (refine rg 9 ?_; refine oMv ?_; (first | refine oC (c2) rfl (ac (ac .nil)) ?_ | refine oC (c3) rfl (ac (ac .nil)) ?_ | refine oC (c4) rfl (ac (ac .nil)) ?_ | refine oC (c5) rfl (ac (ac .nil)) ?_ | refine oC (c6) rfl (ac (ac .nil)) ?_); refine oMv ?_; refine oEx ?_; refine oEx ?_; refine oAs ?_; refine oAs ?_; refine oN ?_) | (refine rg 10 ?_; refine oMv ?_; refine sp (po_not rfl rfl) ?_; refine oN ?_) | (refine rg 12 ?_; refine oMv ?_; (first | refine oC (c2) rfl (ac .nil) ?_ | refine oC (c3) rfl (ac .nil) ?_ | refine oC (c4) rfl (ac .nil) ?_ | refine oC (c5) rfl (ac .nil) ?_ | refine oC (c6) rfl (ac .nil) ?_); refine oAs ?_; refine oN ?_) | (refine rg 13 ?_; refine oMv ?_; (first | refine oC (c2) rfl (ac .nil) ?_ | refine oC (c3) rfl (ac .nil) ?_ | refine oC (c4) rfl (ac .nil) ?_ | refine oC (c5) rfl (ac .nil) ?_ | refine oC (c6) rfl (ac .nil) ?_); refine oMv ?_; refine oEx ?_; refine oEx ?_; refine oAs ?_; refine oAs ?_; refine oN ?_) | (refine rg 14 ?_; refine oMv ?_; refine sp (po_not rfl rfl) ?_; refine oN ?_) | (refine rg 16 ?_; refine oAs ?_; refine oN ?_) | (refine rg 17 ?_; refine oMv ?_; refine sp (pln rfl (tyS rfl)) ?_; refine oCm ?_; refine oN ?_) | (refine rg 18 ?_; refine oMv ?_; refine oMv ?_; refine sp (pln rfl (tyS rfl)) ?_; (first | refine sp (po_dec rfl rfl rfl (by omega)) ?_ | refine sp (po_arith rfl rfl rfl (ar_sub (by first | rfl | (refine wrap_i64 ?_; omega)) rfl)) ?_); refine sp (pix rfl (tyS rfl)) ?_; (first | refine oLb ?_ | refine oLd ?_); refine oAs ?_; refine oN ?_) | (refine rg 19 ?_; refine oMv ?_; refine sp (po_str rfl rfl rfl rfl) ?_; refine oMv ?_; (first | refine oMv ?_ | refine oK ?_ | ((refine ssp (fun hc => ?_) (fun hc => ?_)) <;> first | refine oMv ?_ | refine oK ?_)) <;> (first | refine sp (po_str rfl rfl rfl rfl) ?_ | refine oK ?_) <;> (first | refine oPt ?_ | refine oPf ?_) <;> (refine oMv ?_) <;> (first | refine oMv ?_ | refine oK ?_ | ((refine ssp (fun hc => ?_) (fun hc => ?_)) <;> first | refine oMv ?_ | refine oK ?_)) <;> (first | refine sp (po_str rfl rfl rfl rfl) ?_ | refine oK ?_) <;> (first | refine oPt ?_ | refine oPf ?_) <;> (refine oAs ?_) <;> (refine oN ?_)) | (refine rg 20 ?_; refine oMv ?_; (first | refine oC (c2) rfl (ac (ac .nil)) ?_ | refine oC (c3) rfl (ac (ac .nil)) ?_ | refine oC (c4) rfl (ac (ac .nil)) ?_ | refine oC (c5) rfl (ac (ac .nil)) ?_ | refine oC (c6) rfl (ac (ac .nil)) ?_); refine oMv ?_; refine oEx ?_; refine oEx ?_; refine oAs ?_; refine oAs ?_; refine oN ?_) | (refine rg 21 ?_; refine oMv ?_; refine oMv ?_; (first | refine oC (c2) rfl (ac (ac .nil)) ?_ | refine oC (c3) rfl (ac (ac .nil)) ?_ | refine oC (c4) rfl (ac (ac .nil)) ?_ | refine oC (c5) rfl (ac (ac .nil)) ?_ | refine oC (c6) rfl (ac (ac .nil)) ?_); refine oMv ?_; refine oAs ?_; refine oAs ?_; refine oAs ?_; refine oN ?_) | refine gc ?_ | refine ct ?_ | refine cf ?_ | refine swp_cond rfl (fun hc => ?_) (fun hc => ?_) | refine rq rfl (rt (rt (rt .nil))) ?_)
            rfl
          by_cases hs1 : z = [46]
          · have g0' := g0.trans (decide_eq_false hs0)
            have g1' := g1.trans (decide_eq_true hs1)
            rw [show dotB z = true by subst hs1; rfl] at *
            clear g0 g1 g2
            repeat' (first | (refine rg 9 ?_; refine oMv ?_; (first | refine oC (c2) rfl (ac (ac .nil)) ?_ | refine oC (c3) rfl (ac (ac .nil)) ?_ | refine oC (c4) rfl (ac (ac .nil)) ?_ | refine oC (c5) rfl (ac (ac .nil)) ?_ | refine oC (c6) rfl (ac (ac .nil)) ?_); refine oMv ?_; refine oEx ?_; refine oEx ?_; refine oAs ?_; refine oAs ?_; refine oN ?_) | (refine rg 10 ?_; refine oMv ?_; refine sp (po_not rfl rfl) ?_; refine oN ?_) | (refine rg 12 ?_; refine oMv ?_; (first | refine oC (c2) rfl (ac .nil) ?_ | refine oC (c3) rfl (ac .nil) ?_ | refine oC (c4) rfl (ac .nil) ?_ | refine oC (c5) rfl (ac .nil) ?_ | refine oC (c6) rfl (ac .nil) ?_); refine oAs ?_; refine oN ?_) | (refine rg 13 ?_; refine oMv ?_; (first | refine oC (c2) rfl (ac .nil) ?_ | refine oC (c3) rfl (ac .nil) ?_ | refine oC (c4) rfl (ac .nil) ?_ | refine oC (c5) rfl (ac .nil) ?_ | refine oC (c6) rfl (ac .nil) ?_); refine oMv ?_; refine oEx ?_; refine oEx ?_; refine oAs ?_; refine oAs ?_; refine oN ?_) | (refine rg 14 ?_; refine oMv ?_; refine sp (po_not rfl rfl) ?_; refine oN ?_) | (refine rg 16 ?_; refine oAs ?_; refine oN ?_) | (refine rg 17 ?_; refine oMv ?_; refine sp (pln rfl (tyS rfl)) ?_; refine oCm ?_; refine oN ?_) | (refine rg 18 ?_; refine oMv ?_; refine oMv ?_; refine sp (pln rfl (tyS rfl)) ?_; (first | refine sp (po_dec rfl rfl rfl (by omega)) ?_ | refine sp (po_arith rfl rfl rfl (ar_sub (by first | rfl | (refine wrap_i64 ?_; omega)) rfl)) ?_); refine sp (pix rfl (tyS rfl)) ?_; (first | refine oLb ?_ | refine oLd ?_); refine oAs ?_; refine oN ?_) | (refine rg 19 ?_; refine oMv ?_; refine sp (po_str rfl rfl rfl rfl) ?_; refine oMv ?_; (first | refine oMv ?_ | refine oK ?_ | ((refine ssp (fun hc => ?_) (fun hc => ?_)) <;> first | refine oMv ?_ | refine oK ?_)) <;> (first | refine sp (po_str rfl rfl rfl rfl) ?_ | refine oK ?_) <;> (first | refine oPt ?_ | refine oPf ?_) <;> (refine oMv ?_) <;> (first | refine oMv ?_ | refine oK ?_ | ((refine ssp (fun hc => ?_) (fun hc => ?_)) <;> first | refine oMv ?_ | refine oK ?_)) <;> (first | refine sp (po_str rfl rfl rfl rfl) ?_ | refine oK ?_) <;> (first | refine oPt ?_ | refine oPf ?_) <;> (refine oAs ?_) <;> (refine oN ?_)) | (refine rg 20 ?_; refine oMv ?_; (first | refine oC (c2) rfl (ac (ac .nil)) ?_ | refine oC (c3) rfl (ac (ac .nil)) ?_ | refine oC (c4) rfl (ac (ac .nil)) ?_ | refine oC (c5) rfl (ac (ac .nil)) ?_ | refine oC (c6) rfl (ac (ac .nil)) ?_); refine oMv ?_; refine oEx ?_; refine oEx ?_; refine oAs ?_; refine oAs ?_; refine oN ?_) | (refine rg 21 ?_; refine oMv ?_; refine oMv ?_; (first | refine oC (c2) rfl (ac (ac .nil)) ?_ | refine oC (c3) rfl (ac (ac .nil)) ?_ | refine oC (c4) rfl (ac (ac .nil)) ?_ | refine oC (c5) rfl (ac (ac .nil)) ?_ | refine oC (c6) rfl (ac (ac .nil)) ?_); refine oMv ?_; refine oAs ?_; refine oAs ?_; refine oAs ?_; refine oN ?_) | refine gc ?_ | refine ct ?_ | refine cf ?_ | refine swp_cond rfl (fun hc => ?_) (fun hc => ?_) | refine rq rfl (rt (rt (rt .nil))) ?_)
            rfl
          have g0' := g0.trans (decide_eq_false hs0)
          have g1' := g1.trans (decide_eq_false hs1)
          rw [show dotB z = decide (bs z = ⟨#[46, 46]⟩) by rw [g2]; unfold dotB; rw [decide_eq_false hs0, decide_eq_false hs1]; rfl] at *
          clear g0 g1 g2
          repeat' (first | (refine rg 9 ?_; refine oMv ?_; (first | refine oC (c2) rfl (ac (ac .nil)) ?_ | refine oC (c3) rfl (ac (ac .nil)) ?_ | refine oC (c4) rfl (ac (ac .nil)) ?_ | refine oC (c5) rfl (ac (ac .nil)) ?_ | refine oC (c6) rfl (ac (ac .nil)) ?_); refine oMv ?_; refine oEx ?_; refine oEx ?_; refine oAs ?_; refine oAs ?_; refine oN ?_) | (refine rg 10 ?_; refine oMv ?_; refine sp (po_not rfl rfl) ?_; refine oN ?_) | (refine rg 12 ?_; refine oMv ?_; (first | refine oC (c2) rfl (ac .nil) ?_ | refine oC (c3) rfl (ac .nil) ?_ | refine oC (c4) rfl (ac .nil) ?_ | refine oC (c5) rfl (ac .nil) ?_ | refine oC (c6) rfl (ac .nil) ?_); refine oAs ?_; refine oN ?_) | (refine rg 13 ?_; refine oMv ?_; (first | refine oC (c2) rfl (ac .nil) ?_ | refine oC (c3) rfl (ac .nil) ?_ | refine oC (c4) rfl (ac .nil) ?_ | refine oC (c5) rfl (ac .nil) ?_ | refine oC (c6) rfl (ac .nil) ?_); refine oMv ?_; refine oEx ?_; refine oEx ?_; refine oAs ?_; refine oAs ?_; refine oN ?_) | (refine rg 14 ?_; refine oMv ?_; refine sp (po_not rfl rfl) ?_; refine oN ?_) | (refine rg 16 ?_; refine oAs ?_; refine oN ?_) | (refine rg 17 ?_; refine oMv ?_; refine sp (pln rfl (tyS rfl)) ?_; refine oCm ?_; refine oN ?_) | (refine rg 18 ?_; refine oMv ?_; refine oMv ?_; refine sp (pln rfl (tyS rfl)) ?_; (first | refine sp (po_dec rfl rfl rfl (by omega)) ?_ | refine sp (po_arith rfl rfl rfl (ar_sub (by first | rfl | (refine wrap_i64 ?_; omega)) rfl)) ?_); refine sp (pix rfl (tyS rfl)) ?_; (first | refine oLb ?_ | refine oLd ?_); refine oAs ?_; refine oN ?_) | (refine rg 19 ?_; refine oMv ?_; refine sp (po_str rfl rfl rfl rfl) ?_; refine oMv ?_; (first | refine oMv ?_ | refine oK ?_ | ((refine ssp (fun hc => ?_) (fun hc => ?_)) <;> first | refine oMv ?_ | refine oK ?_)) <;> (first | refine sp (po_str rfl rfl rfl rfl) ?_ | refine oK ?_) <;> (first | refine oPt ?_ | refine oPf ?_) <;> (refine oMv ?_) <;> (first | refine oMv ?_ | refine oK ?_ | ((refine ssp (fun hc => ?_) (fun hc => ?_)) <;> first | refine oMv ?_ | refine oK ?_)) <;> (first | refine sp (po_str rfl rfl rfl rfl) ?_ | refine oK ?_) <;> (first | refine oPt ?_ | refine oPf ?_) <;> (refine oAs ?_) <;> (refine oN ?_)) | (refine rg 20 ?_; refine oMv ?_; (first | refine oC (c2) rfl (ac (ac .nil)) ?_ | refine oC (c3) rfl (ac (ac .nil)) ?_ | refine oC (c4) rfl (ac (ac .nil)) ?_ | refine oC (c5) rfl (ac (ac .nil)) ?_ | refine oC (c6) rfl (ac (ac .nil)) ?_); refine oMv ?_; refine oEx ?_; refine oEx ?_; refine oAs ?_; refine oAs ?_; refine oN ?_) | (refine rg 21 ?_; refine oMv ?_; refine oMv ?_; (first | refine oC (c2) rfl (ac (ac .nil)) ?_ | refine oC (c3) rfl (ac (ac .nil)) ?_ | refine oC (c4) rfl (ac (ac .nil)) ?_ | refine oC (c5) rfl (ac (ac .nil)) ?_ | refine oC (c6) rfl (ac (ac .nil)) ?_); refine oMv ?_; refine oAs ?_; refine oAs ?_; refine oAs ?_; refine oN ?_) | refine gc ?_ | refine ct ?_ | refine cf ?_ | refine swp_cond rfl (fun hc => ?_) (fun hc => ?_) | refine rq rfl (rt (rt (rt .nil))) ?_)
          rfl
end Go.Proofs.YtkmhaijefpgfiaaDoor.Pth

/- Targets: the document's Canon; the chapter's examples: walks. -/
namespace Go.Proofs.YtkmhaijefpgfiaaDoor.Pth
set_option linter.unusedVariables false
set_option linter.unusedSimpArgs false
open Go.RowKit Mem Sim Opn Str
set_option maxRecDepth 100000 in
theorem refCanon_ (s : ByteArray) (hs : s.size ≤ 100000) : PCalls Tryd.prog 11 [.v (.string s)] (.v (.bool (canonL s.toList))) := by
  have c0 := refNormal_ s hs
  unfold canonL
  refine pcalls_of Tryd.func11 rfl rfl Tryd.ntmps11 rfl ?_
  cases hn : normL s.toList with
  | none =>
    rw [hn] at c0
    unfold refNormT at c0
    dsimp only at c0 ⊢
    repeat' (first | (refine rg 0 ?_; refine oAs ?_; refine oN ?_) | (refine rg 1 ?_; refine oMv ?_; refine oC (c0) rfl (ac .nil) ?_; refine oMv ?_; refine oEx ?_; refine oEx ?_; refine oEx ?_; refine oAs ?_; refine oAs ?_; refine oAs ?_; refine oN ?_) | (refine rg 2 ?_; refine oMv ?_; refine oMv ?_; (first | refine oMv ?_ | refine oK ?_ | ((refine ssp (fun hc => ?_) (fun hc => ?_)) <;> first | refine oMv ?_ | refine oK ?_)) <;> (first | refine oMv ?_ | refine oK ?_) <;> (first | refine sp (po_str rfl rfl rfl rfl) ?_ | refine oK ?_) <;> (first | refine oPt ?_ | refine oPf ?_) <;> (refine oAs ?_) <;> (refine oN ?_)) | refine gc ?_ | refine ct ?_ | refine cf ?_ | refine swp_cond rfl (fun hc => ?_) (fun hc => ?_) | refine rq rfl (rt .nil) ?_)
    rfl
  | some x =>
    obtain ⟨p, q⟩ := x
    rw [hn] at c0
    unfold refNormT at c0
    dsimp only at c0 ⊢
    rw [← bs_dec2]
    repeat' (first | (refine rg 0 ?_; refine oAs ?_; refine oN ?_) | (refine rg 1 ?_; refine oMv ?_; refine oC (c0) rfl (ac .nil) ?_; refine oMv ?_; refine oEx ?_; refine oEx ?_; refine oEx ?_; refine oAs ?_; refine oAs ?_; refine oAs ?_; refine oN ?_) | (refine rg 2 ?_; refine oMv ?_; refine oMv ?_; (first | refine oMv ?_ | refine oK ?_ | ((refine ssp (fun hc => ?_) (fun hc => ?_)) <;> first | refine oMv ?_ | refine oK ?_)) <;> (first | refine oMv ?_ | refine oK ?_) <;> (first | refine sp (po_str rfl rfl rfl rfl) ?_ | refine oK ?_) <;> (first | refine oPt ?_ | refine oPf ?_) <;> (refine oAs ?_) <;> (refine oN ?_)) | refine gc ?_ | refine ct ?_ | refine cf ?_ | refine swp_cond rfl (fun hc => ?_) (fun hc => ?_) | refine rq rfl (rt .nil) ?_)
    rfl
abbrev x1 : ByteArray := ⟨#[47, 97, 47, 47, 98, 47, 46, 47, 99, 47, 46, 46, 47, 100, 63, 120, 61, 37, 55, 101]⟩
abbrev x2 : ByteArray := ⟨#[47, 97, 47, 37, 50, 101, 37, 50, 69, 47, 98, 47]⟩
theorem nx (l : L8) (r : Option (L8 × L8)) (h : normL l = r) (hs : l.length ≤ 100) : PCalls Tryd.prog 8 [.v (.string ⟨l.toArray⟩)] (normT r) := by
  have := Normal_ ⟨l.toArray⟩ (by show l.toArray.size ≤ _; simp; omega)
  rw [show (⟨l.toArray⟩ : ByteArray).toList = l from ByteArray.toList_mk l, h] at this
  exact this
theorem n1 : normL [47, 97, 47, 47, 98, 47, 46, 47, 99, 47, 46, 46, 47, 100, 63, 120, 61, 37, 55, 101] = some ([47, 97, 47, 98, 47, 100], [120, 61, 126]) := by kernel_rfl
theorem n2 : normL [47, 97, 47, 37, 50, 101, 37, 50, 69, 47, 98, 47] = some ([47, 98, 47], []) := by kernel_rfl
theorem n3 : normL [47, 46, 46] = none := by kernel_rfl
theorem n4 : normL [47, 97, 37, 50, 102, 98] = none := by kernel_rfl
theorem n5 : normL [47, 37, 55, 69, 97, 37, 51, 98] = some ([47, 126, 97, 37, 51, 66], []) := by kernel_rfl
set_option maxRecDepth 100000 in
set_option maxHeartbeats 1000000 in
theorem awake_ : PCalls Tryd.prog 7 [] (.v (.bool true)) := by
  have c1 := nx _ _ n1 (by decide)
  have c2 := nx _ _ n2 (by decide)
  have c3 := nx _ _ n3 (by decide)
  have c4 := nx _ _ n4 (by decide)
  have c5 := nx _ _ n5 (by decide)
  refine pcalls_of Tryd.func7 rfl rfl Tryd.ntmps7 rfl ?_
  repeat' (first | (refine rg 0 ?_; refine oAs ?_; refine oN ?_) | (refine rg 1 ?_; (first | refine oC (c1) rfl (ac .nil) ?_ | refine oC (c2) rfl (ac .nil) ?_ | refine oC (c3) rfl (ac .nil) ?_ | refine oC (c4) rfl (ac .nil) ?_ | refine oC (c5) rfl (ac .nil) ?_); refine oMv ?_; refine oEx ?_; refine oEx ?_; refine oEx ?_; refine oAs ?_; refine oAs ?_; refine oAs ?_; refine oN ?_) | (refine rg 2 ?_; (first | refine oC (c1) rfl (ac .nil) ?_ | refine oC (c2) rfl (ac .nil) ?_ | refine oC (c3) rfl (ac .nil) ?_ | refine oC (c4) rfl (ac .nil) ?_ | refine oC (c5) rfl (ac .nil) ?_); refine oMv ?_; refine oEx ?_; refine oEx ?_; refine oEx ?_; refine oAs ?_; refine oAs ?_; refine oAs ?_; refine oN ?_) | (refine rg 3 ?_; (first | refine oC (c1) rfl (ac .nil) ?_ | refine oC (c2) rfl (ac .nil) ?_ | refine oC (c3) rfl (ac .nil) ?_ | refine oC (c4) rfl (ac .nil) ?_ | refine oC (c5) rfl (ac .nil) ?_); refine oMv ?_; refine oEx ?_; refine oEx ?_; refine oEx ?_; refine oAs ?_; refine oAs ?_; refine oAs ?_; refine oN ?_) | (refine rg 4 ?_; (first | refine oC (c1) rfl (ac .nil) ?_ | refine oC (c2) rfl (ac .nil) ?_ | refine oC (c3) rfl (ac .nil) ?_ | refine oC (c4) rfl (ac .nil) ?_ | refine oC (c5) rfl (ac .nil) ?_); refine oMv ?_; refine oEx ?_; refine oEx ?_; refine oEx ?_; refine oAs ?_; refine oAs ?_; refine oAs ?_; refine oN ?_) | (refine rg 5 ?_; (first | refine oC (c1) rfl (ac .nil) ?_ | refine oC (c2) rfl (ac .nil) ?_ | refine oC (c3) rfl (ac .nil) ?_ | refine oC (c4) rfl (ac .nil) ?_ | refine oC (c5) rfl (ac .nil) ?_); refine oMv ?_; refine oEx ?_; refine oEx ?_; refine oEx ?_; refine oAs ?_; refine oAs ?_; refine oAs ?_; refine oN ?_) | (refine rg 6 ?_; refine oMv ?_; refine oCm ?_; refine oMv ?_; (first | refine oMv ?_ | refine oK ?_ | ((refine ssp (fun hc => ?_) (fun hc => ?_)) <;> first | refine oMv ?_ | refine oK ?_)) <;> (first | refine sp (po_str rfl rfl rfl rfl) ?_ | refine oK ?_) <;> (first | refine oPt ?_ | refine oPf ?_) <;> (refine oMv ?_) <;> (first | refine oMv ?_ | refine oK ?_ | ((refine ssp (fun hc => ?_) (fun hc => ?_)) <;> first | refine oMv ?_ | refine oK ?_)) <;> (first | refine sp (po_str rfl rfl rfl rfl) ?_ | refine oK ?_) <;> (first | refine oPt ?_ | refine oPf ?_) <;> (refine oMv ?_) <;> (first | refine oMv ?_ | refine oK ?_ | ((refine ssp (fun hc => ?_) (fun hc => ?_)) <;> first | refine oMv ?_ | refine oK ?_)) <;> (first | refine oCm ?_ | refine oK ?_) <;> (first | refine oPt ?_ | refine oPf ?_) <;> (refine oMv ?_) <;> (first | refine oMv ?_ | refine oK ?_ | ((refine ssp (fun hc => ?_) (fun hc => ?_)) <;> first | refine oMv ?_ | refine oK ?_)) <;> (first | refine sp (po_str rfl rfl rfl rfl) ?_ | refine oK ?_) <;> (first | refine oPt ?_ | refine oPf ?_) <;> (refine oMv ?_) <;> (first | refine oMv ?_ | refine oK ?_ | ((refine ssp (fun hc => ?_) (fun hc => ?_)) <;> first | refine oMv ?_ | refine oK ?_)) <;> (first | refine oCm ?_ | refine oK ?_) <;> (first | refine oPt ?_ | refine oPf ?_) <;> (refine oMv ?_) <;> (first | refine oMv ?_ | refine oK ?_ | ((refine ssp (fun hc => ?_) (fun hc => ?_)) <;> first | refine oMv ?_ | refine oK ?_)) <;> (first | refine oCm ?_ | refine oK ?_) <;> (first | refine oPt ?_ | refine oPf ?_) <;> (refine oMv ?_) <;> (first | refine oMv ?_ | refine oK ?_ | ((refine ssp (fun hc => ?_) (fun hc => ?_)) <;> first | refine oMv ?_ | refine oK ?_)) <;> (first | refine oCm ?_ | refine oK ?_) <;> (first | refine oPt ?_ | refine oPf ?_) <;> (refine oMv ?_) <;> (first | refine oMv ?_ | refine oK ?_ | ((refine ssp (fun hc => ?_) (fun hc => ?_)) <;> first | refine oMv ?_ | refine oK ?_)) <;> (first | refine sp (po_str rfl rfl rfl rfl) ?_ | refine oK ?_) <;> (first | refine oPt ?_ | refine oPf ?_) <;> (refine oAs ?_) <;> (refine oN ?_)) | refine gc ?_ | refine ct ?_ | refine cf ?_ | refine swp_cond rfl (fun hc => ?_) (fun hc => ?_) | refine rq rfl (rt .nil) ?_)
  rfl
end Go.Proofs.YtkmhaijefpgfiaaDoor.Pth

/- Rows of texts: in memory, opened, as trees of data. -/
namespace Go.Proofs.YtkmhaijefpgfiaaDoor.Rq
set_option linter.unusedVariables false
set_option linter.unusedSimpArgs false
open Go.RowKit Go.WideShapes Go.ChangeShapes Go.Joins Mem Sim Opn
theorem one_str : Tryd.prog.cellsOf 9 = 1 := by kernel_rfl
theorem strs_opens : Opens 32 (SliceC StrC 1) := opens_slice (R := StrC) Tryd.underlying32 one_str (by omega) (opens_str Tryd.underlying9)
def strTb (s : ByteArray) : List T := [.v (.string s)]
theorem str_bwd' {B : Nat} {w : World} (x : ByteArray) (cs : List Value) (h : StrC B w x cs) : CellsAre (allm w) (strTb x) cs := by
  obtain ⟨rfl, _⟩ := h
  exact ⟨rfl, fun j t v h1 h2 => by
    match j, h1, h2 with
    | 0, h1, h2 => simp [strTb] at h1 h2; subst h1 h2; exact ⟨.v _, rfl⟩⟩
theorem sl_bwdA {α : Type} {R : Mem.Rel α} {enc : α → List T} {sz B : Nat} {w : World} {A : Option Addr} {xs : List α} {cap : Nat} (hsz : ∀ x, (enc x).length = sz) (hR : ∀ x cs, R B w x cs → CellsAre (allm w) (enc x) cs) (hA : SliceAt R sz B w A xs) (h1 : xs.length ≤ cap) (h2 : cap ≤ maxLen) : TR (allm w) (.sl sz (xs.map enc)) (.slice A xs.length cap) :=
  tr_rows_bwd (allm w) hA h1 h2 hsz (fun x _ cs hr => hR x cs hr) (fun b o v _ h => h)
theorem sl_ok {α : Type} {R : Mem.Rel α} {sz B : Nat} {w : World} {A : Option Addr} {xs : List α} {ok : α → Prop} (hR : ∀ B w x cs, R B w x cs → ok x) (hA : SliceAt R sz B w A xs) : ∀ x ∈ xs, ok x := fun x hx => by
  obtain ⟨k, hk⟩ := List.getElem?_of_mem hx
  obtain ⟨b, off, cs, _, _, _, _, hr⟩ := hA k x hk
  exact hR _ _ _ _ hr
end Go.Proofs.YtkmhaijefpgfiaaDoor.Rq
