/- Merged by bundles.py: SimOr1, SimOr2. -/
import Derived.Test.YtpncekdhigappaaGreatDoorV27
import Derived.Test.YtpncekdhigappaaGreatDoorV30
import Derived.Test.YtpncekdhigappaaGreatDoorV31
/- Requests: the document's answer: the places of blanks; a condition: walks. -/
namespace Go.Proofs.YtpncekdhigappaaGreatDoor.Ro
set_option linter.unusedVariables false
set_option linter.unusedSimpArgs false
open Go.RowKit Mem Sim Opn Hd Str Pth Rq
def natT (n : Nat) : List T := [.v (.int .i64 (n : Int))]
abbrev bxR (r : PRaw) : List (Nat × List A) := [(1, [.t (.v (.string r.start)), .t (headsT r.heads), .t (.sl 1 (r.body.map byteT))]), (2, [s0A, s0A, s0A, s0A, s0A, nlA, nlA])]
def condR (s : ByteArray) (ps : List Nat) (nv : Nat) : Bool := match ps with
  | [p, q] => !(decide (s.extract (q + 1) s.size = ⟨#[72, 84, 84, 80, 47, 49, 46, 49]⟩) && (decide (1 ≤ p) && (decide (p ≤ 16) && decide (nv = 1))))
  | _ => true
theorem condR_no {s : ByteArray} {ps : List Nat} {nv : Nat} (h : ps.length ≠ 2) : condR s ps nv = true := by
  unfold condR
  split
  · exact absurd rfl h
  · rfl
abbrev TR (ps : List Nat) (vs : List ByteArray) : List (Nat × A) := [(1, .bp 1 0), (2, .bp 2 0), (4, .own 150 (ps.map natT).length), (6, .t (.sl 1 (vs.map Hd.strT)))]
abbrev OR (ps : List Nat) : List (Nat × Own) := [(150, ⟨3, 1, ps.map natT⟩)]
set_option maxRecDepth 100000 in
set_option maxHeartbeats 4000000 in
theorem q8_ {c : Code} (hc : fR 8 (bodyOf Tryz.f43) = some c) {Q : Exit → St → Prop} (r : PRaw) (hs : r.start.size ≤ 1000000) (ps : List Nat) (hps : ∀ p ∈ ps, p < r.start.size) (hpn : ps.length ≤ 1000000) (vs : List ByteArray) (b : Bool) (hb : condR r.start ps vs.length = b) (h : Q .normal ⟨(64, .t (.v (.bool b))) :: TR ps vs, bxR r, OR ps⟩) : SWp Tryz.prog 154 c Q ⟨TR ps vs, bxR r, OR ps⟩ := by
  obtain rfl := Option.some.inj hc
  clear hc
  refine swp_joinQ _ ?_ h
  clear h
  have hml : (ps.map natT).length = ps.length := List.length_map _
  have hvl : (vs.map Hd.strT).length = vs.length := List.length_map _
  by_cases h2 : ps.length = 2
  · obtain ⟨p, q, rfl⟩ : ∃ p q, ps = [p, q] := by
      match ps, h2 with
      | [p, q], _ => exact ⟨p, q, rfl⟩
    have hp := hps p (by simp)
    have hq := hps q (by simp)
    clear hps hpn hml
    have e0 : (!decide (((([p, q] : List Nat).map natT).length : Int) = 2)) = false := rfl
    unfold condR at hb
    dsimp only at hb
    generalize hx : r.start.extract (q + 1) r.start.size = tl at *
    cases h1 : decide (tl = ⟨#[72, 84, 84, 80, 47, 49, 46, 49]⟩) with
    | false =>
      have e1 : (!decide (tl = ⟨#[72, 84, 84, 80, 47, 49, 46, 49]⟩)) = true := by rw [h1]; rfl
      rw [h1] at hb
      subst hb
      repeat' (first | refine gc ?_ | refine join_go (weak_sub (.cons rfl rfl rfl (.cons rfl rfl rfl (.cons rfl rfl rfl (.cons rfl rfl rfl (.cons rfl rfl rfl .nil))))) (.cons rfl rfl rfl (.cons rfl rfl rfl .nil)) (.cons rfl rfl .nil)) | (refine rd 8 ?_; refine dMv ?_; refine dp (pln rfl (tyS rfl)) ?_; refine dCm ?_; refine dMv ?_; refine dFb ?_ <;> refine dLb ?_ <;> refine dMv ?_ <;> refine dp (pix rfl (tyS rfl)) ?_ <;> (first | refine dLb ?_ | refine dLd ?_) <;> refine dp (xinc rfl) ?_ <;> refine dp (po_seq hx (po_slice_str rfl rfl (tyR rfl) ⟨_, rfl⟩ rfl (by omega) (by omega))) ?_ <;> refine dp (po_str rfl rfl rfl rfl) ?_ <;> (first | refine dPt ?_ | refine dPf ?_) <;> refine dMv ?_ <;> (first | refine dMv ?_ | refine dK ?_) <;> (first | refine dp (pix rfl (tyS rfl)) ?_ | refine dK ?_) <;> (first | refine dLb ?_ | refine dLd ?_ | refine dK ?_) <;> (first | refine dCm ?_ | refine dK ?_) <;> refine dPt ?_ <;> refine dMv ?_ <;> (first | refine dMv ?_ | refine dK ?_) <;> (first | refine dp (pix rfl (tyS rfl)) ?_ | refine dK ?_) <;> (first | refine dLb ?_ | refine dLd ?_ | refine dK ?_) <;> (first | refine dCm ?_ | refine dK ?_) <;> refine dPt ?_ <;> refine dMv ?_ <;> (first | refine dMv ?_ | refine dK ?_) <;> (first | refine dp (pln rfl (tyS rfl)) ?_ | refine dK ?_) <;> (first | refine dCm ?_ | refine dK ?_) <;> refine dPt ?_ <;> refine dN ?_ <;> refine oN ?_))
    | true =>
      have e1 : (!decide (tl = ⟨#[72, 84, 84, 80, 47, 49, 46, 49]⟩)) = false := by rw [h1]; rfl
      rw [h1] at hb
      by_cases hp1 : 1 ≤ p
      · rw [decide_eq_true hp1] at hb
        by_cases hp2 : p ≤ 16
        · rw [decide_eq_true hp2] at hb
          by_cases hv : vs.length = 1
          · have e2 : (!decide (((vs.map Hd.strT).length : Int) = 1)) = false := by rw [hvl, decide_eq_true (by omega)]; rfl
            rw [decide_eq_true hv] at hb
            subst hb
            repeat' (first | refine gc ?_ | refine join_go (weak_sub (.cons rfl (by first | rfl | (exact congrArg (fun b => A.t (T.v (Value.bool b))) e2)) rfl (.cons rfl (by rfl) rfl (.cons rfl (by rfl) rfl (.cons rfl (by rfl) rfl (.cons rfl (by rfl) rfl .nil))))) (.cons rfl (by rfl) rfl (.cons rfl (by rfl) rfl .nil)) (.cons rfl (by rfl) .nil)) | (refine rd 8 ?_; refine dMv ?_; refine dp (pln rfl (tyS rfl)) ?_; refine dCm ?_; refine dMv ?_; refine dFb ?_ <;> refine dLb ?_ <;> refine dMv ?_ <;> refine dp (pix rfl (tyS rfl)) ?_ <;> (first | refine dLb ?_ | refine dLd ?_) <;> refine dp (xinc rfl) ?_ <;> refine dp (po_seq hx (po_slice_str rfl rfl (tyR rfl) ⟨_, rfl⟩ rfl (by omega) (by omega))) ?_ <;> refine dp (po_str rfl rfl rfl rfl) ?_ <;> (first | refine dPt ?_ | refine dPf ?_) <;> refine dMv ?_ <;> refine dMv ?_ <;> refine dp (pix rfl (tyS rfl)) ?_ <;> (first | refine dLb ?_ | refine dLd ?_) <;> refine dCm ?_ <;> (first | refine dPt ?_ | refine dPf ?_) <;> refine dMv ?_ <;> refine dMv ?_ <;> refine dp (pix rfl (tyS rfl)) ?_ <;> (first | refine dLb ?_ | refine dLd ?_) <;> refine dCm ?_ <;> (first | refine dPt ?_ | refine dPf ?_) <;> refine dMv ?_ <;> refine dMv ?_ <;> refine dp (pln rfl (tyS rfl)) ?_ <;> refine dCm ?_ <;> (first | refine dPt ?_ | refine dPf ?_) <;> refine dN ?_ <;> refine oN ?_))
          · have e2 : (!decide (((vs.map Hd.strT).length : Int) = 1)) = true := by rw [hvl, decide_eq_false (by omega)]; rfl
            rw [decide_eq_false hv] at hb
            subst hb
            repeat' (first | refine gc ?_ | refine join_go (weak_sub (.cons rfl (by first | rfl | (exact congrArg (fun b => A.t (T.v (Value.bool b))) e2)) rfl (.cons rfl (by rfl) rfl (.cons rfl (by rfl) rfl (.cons rfl (by rfl) rfl (.cons rfl (by rfl) rfl .nil))))) (.cons rfl (by rfl) rfl (.cons rfl (by rfl) rfl .nil)) (.cons rfl (by rfl) .nil)) | (refine rd 8 ?_; refine dMv ?_; refine dp (pln rfl (tyS rfl)) ?_; refine dCm ?_; refine dMv ?_; refine dFb ?_ <;> refine dLb ?_ <;> refine dMv ?_ <;> refine dp (pix rfl (tyS rfl)) ?_ <;> (first | refine dLb ?_ | refine dLd ?_) <;> refine dp (xinc rfl) ?_ <;> refine dp (po_seq hx (po_slice_str rfl rfl (tyR rfl) ⟨_, rfl⟩ rfl (by omega) (by omega))) ?_ <;> refine dp (po_str rfl rfl rfl rfl) ?_ <;> (first | refine dPt ?_ | refine dPf ?_) <;> refine dMv ?_ <;> refine dMv ?_ <;> refine dp (pix rfl (tyS rfl)) ?_ <;> (first | refine dLb ?_ | refine dLd ?_) <;> refine dCm ?_ <;> (first | refine dPt ?_ | refine dPf ?_) <;> refine dMv ?_ <;> refine dMv ?_ <;> refine dp (pix rfl (tyS rfl)) ?_ <;> (first | refine dLb ?_ | refine dLd ?_) <;> refine dCm ?_ <;> (first | refine dPt ?_ | refine dPf ?_) <;> refine dMv ?_ <;> refine dMv ?_ <;> refine dp (pln rfl (tyS rfl)) ?_ <;> refine dCm ?_ <;> (first | refine dPt ?_ | refine dPf ?_) <;> refine dN ?_ <;> refine oN ?_))
        · rw [decide_eq_false hp2] at hb
          subst hb
          repeat' (first | refine gc ?_ | refine join_go (weak_sub (.cons rfl rfl rfl (.cons rfl rfl rfl (.cons rfl rfl rfl (.cons rfl rfl rfl (.cons rfl rfl rfl .nil))))) (.cons rfl rfl rfl (.cons rfl rfl rfl .nil)) (.cons rfl rfl .nil)) | (refine rd 8 ?_; refine dMv ?_; refine dp (pln rfl (tyS rfl)) ?_; refine dCm ?_; refine dMv ?_; refine dFb ?_ <;> refine dLb ?_ <;> refine dMv ?_ <;> refine dp (pix rfl (tyS rfl)) ?_ <;> (first | refine dLb ?_ | refine dLd ?_) <;> refine dp (xinc rfl) ?_ <;> refine dp (po_seq hx (po_slice_str rfl rfl (tyR rfl) ⟨_, rfl⟩ rfl (by omega) (by omega))) ?_ <;> refine dp (po_str rfl rfl rfl rfl) ?_ <;> (first | refine dPt ?_ | refine dPf ?_) <;> refine dMv ?_ <;> refine dMv ?_ <;> refine dp (pix rfl (tyS rfl)) ?_ <;> (first | refine dLb ?_ | refine dLd ?_) <;> refine dCm ?_ <;> (first | refine dPt ?_ | refine dPf ?_) <;> refine dMv ?_ <;> refine dMv ?_ <;> refine dp (pix rfl (tyS rfl)) ?_ <;> (first | refine dLb ?_ | refine dLd ?_) <;> refine dCm ?_ <;> (first | refine dPt ?_ | refine dPf ?_) <;> refine dMv ?_ <;> (first | refine dMv ?_ | refine dK ?_) <;> (first | refine dp (pln rfl (tyS rfl)) ?_ | refine dK ?_) <;> (first | refine dCm ?_ | refine dK ?_) <;> refine dPt ?_ <;> refine dN ?_ <;> refine oN ?_))
      · rw [decide_eq_false hp1] at hb
        subst hb
        repeat' (first | refine gc ?_ | refine join_go (weak_sub (.cons rfl rfl rfl (.cons rfl rfl rfl (.cons rfl rfl rfl (.cons rfl rfl rfl (.cons rfl rfl rfl .nil))))) (.cons rfl rfl rfl (.cons rfl rfl rfl .nil)) (.cons rfl rfl .nil)) | (refine rd 8 ?_; refine dMv ?_; refine dp (pln rfl (tyS rfl)) ?_; refine dCm ?_; refine dMv ?_; refine dFb ?_ <;> refine dLb ?_ <;> refine dMv ?_ <;> refine dp (pix rfl (tyS rfl)) ?_ <;> (first | refine dLb ?_ | refine dLd ?_) <;> refine dp (xinc rfl) ?_ <;> refine dp (po_seq hx (po_slice_str rfl rfl (tyR rfl) ⟨_, rfl⟩ rfl (by omega) (by omega))) ?_ <;> refine dp (po_str rfl rfl rfl rfl) ?_ <;> (first | refine dPt ?_ | refine dPf ?_) <;> refine dMv ?_ <;> refine dMv ?_ <;> refine dp (pix rfl (tyS rfl)) ?_ <;> (first | refine dLb ?_ | refine dLd ?_) <;> refine dCm ?_ <;> (first | refine dPt ?_ | refine dPf ?_) <;> refine dMv ?_ <;> (first | refine dMv ?_ | refine dK ?_) <;> (first | refine dp (pix rfl (tyS rfl)) ?_ | refine dK ?_) <;> (first | refine dLb ?_ | refine dLd ?_ | refine dK ?_) <;> (first | refine dCm ?_ | refine dK ?_) <;> refine dPt ?_ <;> refine dMv ?_ <;> (first | refine dMv ?_ | refine dK ?_) <;> (first | refine dp (pln rfl (tyS rfl)) ?_ | refine dK ?_) <;> (first | refine dCm ?_ | refine dK ?_) <;> refine dPt ?_ <;> refine dN ?_ <;> refine oN ?_))
  · have e0 : (!decide (((ps.map natT).length : Int) = 2)) = true := by rw [hml, decide_eq_false (by omega)]; rfl
    rw [condR_no h2] at hb
    subst hb
    repeat' (first | refine gc ?_ | refine join_go (weak_sub (.cons rfl rfl rfl (.cons rfl rfl rfl (.cons rfl rfl rfl (.cons rfl rfl rfl (.cons rfl rfl rfl .nil))))) (.cons rfl rfl rfl (.cons rfl rfl rfl .nil)) (.cons rfl rfl .nil)) | (refine rd 8 ?_; refine dMv ?_; refine dp (pln rfl (tyS rfl)) ?_; refine dCm ?_; refine dMv ?_; (first | refine dFb ?_ | refine dFd ?_ | refine dK ?_) <;> (first | refine dLb ?_ | refine dLd ?_ | refine dK ?_) <;> (first | refine dMv ?_ | refine dK ?_) <;> (first | refine dp (pix rfl (tyS rfl)) ?_ | refine dK ?_) <;> (first | refine dLb ?_ | refine dLd ?_ | refine dK ?_) <;> (first | refine dp (xinc rfl) ?_ | refine dp (xadd rfl) ?_ | refine dK ?_) <;> (first | refine dp (po_slice_str rfl rfl (tyR rfl) (by first | rfl | exact ⟨_, rfl⟩) (by first | rfl | exact ⟨_, rfl⟩) (by omega) (by omega)) ?_ | refine dK ?_) <;> (first | refine dp (po_str rfl rfl rfl rfl) ?_ | refine dK ?_) <;> refine dPt ?_ <;> refine dMv ?_ <;> (first | refine dMv ?_ | refine dK ?_) <;> (first | refine dp (pix rfl (tyS rfl)) ?_ | refine dK ?_) <;> (first | refine dLb ?_ | refine dLd ?_ | refine dK ?_) <;> (first | refine dCm ?_ | refine dK ?_) <;> refine dPt ?_ <;> refine dMv ?_ <;> (first | refine dMv ?_ | refine dK ?_) <;> (first | refine dp (pix rfl (tyS rfl)) ?_ | refine dK ?_) <;> (first | refine dLb ?_ | refine dLd ?_ | refine dK ?_) <;> (first | refine dCm ?_ | refine dK ?_) <;> refine dPt ?_ <;> refine dMv ?_ <;> (first | refine dMv ?_ | refine dK ?_) <;> (first | refine dp (pln rfl (tyS rfl)) ?_ | refine dK ?_) <;> (first | refine dCm ?_ | refine dK ?_) <;> refine dPt ?_ <;> refine dN ?_ <;> refine oN ?_))
abbrev bxS (r : PRaw) (m t p q h : ByteArray) (x y : A) : List (Nat × List A) := (8, [.t (.v (.string m)), .t (.v (.string t)), .t (.v (.string p)), .t (.v (.string q)), .t (.v (.string h)), x, y]) :: bxR r
set_option maxRecDepth 100000 in
set_option maxHeartbeats 4000000 in
theorem q15_ {c : Code} (hc : fR 15 (bodyOf Tryz.f43) = some c) {Q : Exit → St → Prop} (r : PRaw) (p q : Nat) (w m t sm : ByteArray) (hpq : p < q) (hq : q < r.start.size) (hs : r.start.size ≤ 1000000) (hm : r.start.extract 0 p = m) (ht : r.start.extract (p + 1) q = t) (c4 : PCalls Tryz.prog 81 [.v (.string w)] (.v (.string sm)))
    (h : Q .normal ⟨[(1, .bp 1 0), (2, .bp 2 0), (8, .bp 8 0)], bxS r m t ⟨#[]⟩ ⟨#[]⟩ sm nlA nlA, []⟩) : SWp Tryz.prog 154 c Q ⟨TR [p, q] [w], bxR r, OR [p, q]⟩ := by
  obtain rfl := Option.some.inj hc
  clear hc
  refine swp_joinQ _ ?_ h
  clear h
  repeat' (first | refine gc ?_ | refine join_go (weak_sub (.cons rfl rfl rfl (.cons rfl rfl rfl (.cons rfl rfl rfl .nil))) (.cons rfl rfl rfl (.cons rfl rfl rfl (.cons rfl rfl rfl .nil))) .nil) | ((refine swp_any (id := 15) [[], [], [], [], [], [], [], [], [], [], [], [], [], [], [], [], [], [], [], [], [], [8], [8]] [[8], [8], [8], [8], [8], [8], [8], [8], [8], [8], [8], [8], [8], [8], [8], [8], [8], [8], [8], [8], [8], [], []] mixed (by kernel_rfl) ?_) <;> (first | refine yp (fun _ _ => po_seq hm (po_slice_str rfl rfl (tyR rfl) rfl ⟨_, rfl⟩ (by omega) (by omega))) ?_ | refine yp (fun _ _ => po_seq ht (po_slice_str rfl rfl (tyR rfl) ⟨_, rfl⟩ ⟨_, rfl⟩ (by omega) (by omega))) ?_ | refine yp (fun _ _ => po_field_bx rfl rfl (tyF rfl)) ?_) <;> (first | refine yp (fun _ _ => po_seq hm (po_slice_str rfl rfl (tyR rfl) rfl ⟨_, rfl⟩ (by omega) (by omega))) ?_ | refine yp (fun _ _ => po_seq ht (po_slice_str rfl rfl (tyR rfl) ⟨_, rfl⟩ ⟨_, rfl⟩ (by omega) (by omega))) ?_ | refine yp (fun _ _ => po_load_bx rfl rfl (tyT rfl) rfl rfl) ?_) <;> (first | refine yp (fun _ _ => po_seq hm (po_slice_str rfl rfl (tyR rfl) rfl ⟨_, rfl⟩ (by omega) (by omega))) ?_ | refine yp (fun _ _ => po_seq ht (po_slice_str rfl rfl (tyR rfl) ⟨_, rfl⟩ ⟨_, rfl⟩ (by omega) (by omega))) ?_ | refine yp (fun _ _ => po_move rfl rfl) ?_) <;> (first | refine yp (fun _ _ => po_seq hm (po_slice_str rfl rfl (tyR rfl) rfl ⟨_, rfl⟩ (by omega) (by omega))) ?_ | refine yp (fun _ _ => po_seq ht (po_slice_str rfl rfl (tyR rfl) ⟨_, rfl⟩ ⟨_, rfl⟩ (by omega) (by omega))) ?_ | refine yp (fun _ _ => po_index_own rfl rfl rfl (by rfl) rfl (tyS rfl) (by rfl) (by first | assumption | omega)) ?_ | refine yp (fun _ _ => pix rfl (tyS rfl)) ?_) <;> (first | refine yp (fun _ _ => po_seq hm (po_slice_str rfl rfl (tyR rfl) rfl ⟨_, rfl⟩ (by omega) (by omega))) ?_ | refine yp (fun _ _ => po_seq ht (po_slice_str rfl rfl (tyR rfl) ⟨_, rfl⟩ ⟨_, rfl⟩ (by omega) (by omega))) ?_ | refine yp (fun _ _ => po_load_bx rfl rfl (tyT rfl) rfl rfl) ?_ | refine yp (fun _ _ => po_load rfl rfl (tyT rfl) rfl) ?_) <;> refine yp (fun _ _ => po_seq hm (po_slice_str rfl rfl (tyR rfl) rfl ⟨_, rfl⟩ (by omega) (by omega))) ?_ <;> (first | refine yp (fun _ _ => po_seq hm (po_slice_str rfl rfl (tyR rfl) rfl ⟨_, rfl⟩ (by omega) (by omega))) ?_ | refine yp (fun _ _ => po_seq ht (po_slice_str rfl rfl (tyR rfl) ⟨_, rfl⟩ ⟨_, rfl⟩ (by omega) (by omega))) ?_ | refine yp (fun _ _ => po_field_bx rfl rfl (tyF rfl)) ?_) <;> (first | refine yp (fun _ _ => po_seq hm (po_slice_str rfl rfl (tyR rfl) rfl ⟨_, rfl⟩ (by omega) (by omega))) ?_ | refine yp (fun _ _ => po_seq ht (po_slice_str rfl rfl (tyR rfl) ⟨_, rfl⟩ ⟨_, rfl⟩ (by omega) (by omega))) ?_ | refine yp (fun _ _ => po_load_bx rfl rfl (tyT rfl) rfl rfl) ?_) <;> (first | refine yp (fun _ _ => po_seq hm (po_slice_str rfl rfl (tyR rfl) rfl ⟨_, rfl⟩ (by omega) (by omega))) ?_ | refine yp (fun _ _ => po_seq ht (po_slice_str rfl rfl (tyR rfl) ⟨_, rfl⟩ ⟨_, rfl⟩ (by omega) (by omega))) ?_ | refine yp (fun _ _ => po_move rfl rfl) ?_) <;> (first | refine yp (fun _ _ => po_seq hm (po_slice_str rfl rfl (tyR rfl) rfl ⟨_, rfl⟩ (by omega) (by omega))) ?_ | refine yp (fun _ _ => po_seq ht (po_slice_str rfl rfl (tyR rfl) ⟨_, rfl⟩ ⟨_, rfl⟩ (by omega) (by omega))) ?_ | refine yp (fun _ _ => po_index_own rfl rfl rfl (by rfl) rfl (tyS rfl) (by rfl) (by first | assumption | omega)) ?_ | refine yp (fun _ _ => pix rfl (tyS rfl)) ?_) <;> (first | refine yp (fun _ _ => po_seq hm (po_slice_str rfl rfl (tyR rfl) rfl ⟨_, rfl⟩ (by omega) (by omega))) ?_ | refine yp (fun _ _ => po_seq ht (po_slice_str rfl rfl (tyR rfl) ⟨_, rfl⟩ ⟨_, rfl⟩ (by omega) (by omega))) ?_ | refine yp (fun _ _ => po_load_bx rfl rfl (tyT rfl) rfl rfl) ?_ | refine yp (fun _ _ => po_load rfl rfl (tyT rfl) rfl) ?_) <;> (first | refine yp (fun _ _ => po_seq hm (po_slice_str rfl rfl (tyR rfl) rfl ⟨_, rfl⟩ (by omega) (by omega))) ?_ | refine yp (fun _ _ => po_seq ht (po_slice_str rfl rfl (tyR rfl) ⟨_, rfl⟩ ⟨_, rfl⟩ (by omega) (by omega))) ?_ | refine yp (fun _ _ => po_inc rfl rfl rfl (by omega)) ?_) <;> (first | refine yp (fun _ _ => po_seq hm (po_slice_str rfl rfl (tyR rfl) rfl ⟨_, rfl⟩ (by omega) (by omega))) ?_ | refine yp (fun _ _ => po_seq ht (po_slice_str rfl rfl (tyR rfl) ⟨_, rfl⟩ ⟨_, rfl⟩ (by omega) (by omega))) ?_ | refine yp (fun _ _ => po_move rfl rfl) ?_) <;> (first | refine yp (fun _ _ => po_seq hm (po_slice_str rfl rfl (tyR rfl) rfl ⟨_, rfl⟩ (by omega) (by omega))) ?_ | refine yp (fun _ _ => po_seq ht (po_slice_str rfl rfl (tyR rfl) ⟨_, rfl⟩ ⟨_, rfl⟩ (by omega) (by omega))) ?_ | refine yp (fun _ _ => po_index_own rfl rfl rfl (by rfl) rfl (tyS rfl) (by rfl) (by first | assumption | omega)) ?_ | refine yp (fun _ _ => pix rfl (tyS rfl)) ?_) <;> (first | refine yp (fun _ _ => po_seq hm (po_slice_str rfl rfl (tyR rfl) rfl ⟨_, rfl⟩ (by omega) (by omega))) ?_ | refine yp (fun _ _ => po_seq ht (po_slice_str rfl rfl (tyR rfl) ⟨_, rfl⟩ ⟨_, rfl⟩ (by omega) (by omega))) ?_ | refine yp (fun _ _ => po_load_bx rfl rfl (tyT rfl) rfl rfl) ?_ | refine yp (fun _ _ => po_load rfl rfl (tyT rfl) rfl) ?_) <;> (first | refine yp (fun _ _ => po_seq hm (po_slice_str rfl rfl (tyR rfl) rfl ⟨_, rfl⟩ (by omega) (by omega))) ?_ | refine yp (fun _ _ => po_seq ht (po_slice_str rfl rfl (tyR rfl) ⟨_, rfl⟩ ⟨_, rfl⟩ (by omega) (by omega))) ?_) <;> (first | refine yp (fun _ _ => po_seq hm (po_slice_str rfl rfl (tyR rfl) rfl ⟨_, rfl⟩ (by omega) (by omega))) ?_ | refine yp (fun _ _ => po_seq ht (po_slice_str rfl rfl (tyR rfl) ⟨_, rfl⟩ ⟨_, rfl⟩ (by omega) (by omega))) ?_ | refine yp (fun _ _ => po_move rfl rfl) ?_) <;> (first | refine yp (fun _ _ => po_seq hm (po_slice_str rfl rfl (tyR rfl) rfl ⟨_, rfl⟩ (by omega) (by omega))) ?_ | refine yp (fun _ _ => po_seq ht (po_slice_str rfl rfl (tyR rfl) ⟨_, rfl⟩ ⟨_, rfl⟩ (by omega) (by omega))) ?_ | refine yp (fun _ _ => po_index_own rfl rfl rfl (by rfl) rfl (tyS rfl) (by rfl) (by first | assumption | omega)) ?_ | refine yp (fun _ _ => pix rfl (tyS rfl)) ?_) <;> (first | refine yp (fun _ _ => po_seq hm (po_slice_str rfl rfl (tyR rfl) rfl ⟨_, rfl⟩ (by omega) (by omega))) ?_ | refine yp (fun _ _ => po_seq ht (po_slice_str rfl rfl (tyR rfl) ⟨_, rfl⟩ ⟨_, rfl⟩ (by omega) (by omega))) ?_ | refine yp (fun _ _ => po_load_bx rfl rfl (tyT rfl) rfl rfl) ?_ | refine yp (fun _ _ => po_load rfl rfl (tyT rfl) rfl) ?_) <;> (first | refine yp (fun _ _ => po_seq hm (po_slice_str rfl rfl (tyR rfl) rfl ⟨_, rfl⟩ (by omega) (by omega))) ?_ | refine yp (fun _ _ => po_seq ht (po_slice_str rfl rfl (tyR rfl) ⟨_, rfl⟩ ⟨_, rfl⟩ (by omega) (by omega))) ?_ | refine yp (fun _ _ => po_call (c4) rfl (ac .nil)) ?_) <;> (first | refine yp (fun _ _ => po_seq hm (po_slice_str rfl rfl (tyR rfl) rfl ⟨_, rfl⟩ (by omega) (by omega))) ?_ | refine yp (fun _ _ => po_seq ht (po_slice_str rfl rfl (tyR rfl) ⟨_, rfl⟩ ⟨_, rfl⟩ (by omega) (by omega))) ?_ | refine yp (fun _ _ => po_buildS str57 rfl (pc (pc (pc .nil))) rfl) ?_) <;> refine sany_eff [(8, _)] [] (.free rfl rfl) rfl rfl (fun _ _ hb _ => e_allocS str57 rfl (hb 8 rfl rfl)) ?_ <;> refine sany_eff [(8, _)] [] (.free rfl rfl) rfl rfl (fun _ _ _ _ => e_store rfl rfl rfl rfl rfl rfl (tyT rfl) rfl rfl) ?_ <;> refine sany_nil ?_))
end Go.Proofs.YtpncekdhigappaaGreatDoor.Ro

/- Requests: the document's answer: of a message: a walk. -/
namespace Go.Proofs.YtpncekdhigappaaGreatDoor.Ro
set_option linter.unusedVariables false
set_option linter.unusedSimpArgs false
open Go.RowKit Mem Sim Opn Hd Str Pth Rq
theorem posC_mem {c : UInt8} : ∀ (m : L8) (k j : Nat), j ∈ posC c k m → k ≤ j ∧ j < k + m.length
  | [], _, _, h => by cases h
  | x :: m, k, j, h => by
    rw [posC] at h
    have ih := posC_mem (c := c) m (k + 1) j
    rw [List.length_cons]
    split at h
    · rcases List.mem_cons.1 h with e | e
      · omega
      · have := ih e; omega
    · have := ih h; omega
theorem bs_drop (s : ByteArray) (k : Nat) : s.extract k s.size = bs (s.toList.drop k) := by
  rw [ba_extract, List.take_of_length_le (by rw [toList_len]; exact Nat.le_refl _)]
theorem ref_cond {r : PRaw} (h : condR r.start (posC 32 0 r.start.toList) (valsOf hostS r.heads).length = true) : ofR r = none := by
  by_cases h2 : (posC 32 0 r.start.toList).length = 2
  · obtain ⟨p, q, hpq⟩ : ∃ p q, posC 32 0 r.start.toList = [p, q] := by
      match posC 32 0 r.start.toList, h2 with
      | [p, q], _ => exact ⟨p, q, rfl⟩
    obtain ⟨h3, h4, h5⟩ := posC_two hpq
    rw [hpq] at h
    unfold condR at h
    dsimp only at h
    rw [bs_drop, bs_httpL] at h
    by_cases hv : (valsOf hostS r.heads).length = 1
    · obtain ⟨w, hw⟩ : ∃ w, valsOf hostS r.heads = [w] := by
        match valsOf hostS r.heads, hv with
        | [w], _ => exact ⟨w, rfl⟩
      rw [decide_eq_true hv] at h
      rw [ofR_ok h5 hw]
      unfold of3
      by_cases hx : r.start.toList.drop (q + 1) = httpL
      · rw [decide_eq_true hx] at h
        have hl : (r.start.toList.take p).length = p := by rw [List.length_take]; omega
        have : methB (r.start.toList.take p) = false := by
          unfold methB
          rw [hl]
          by_cases h6 : 1 ≤ p
          · rw [decide_eq_true h6] at h
            by_cases h7 : p ≤ 16
            · rw [decide_eq_true h7] at h; cases h
            · rw [decide_eq_false h7]; simp
          · rw [decide_eq_false h6]; simp
        rw [this]; rfl
      · rw [decide_eq_false hx]; simp
    · exact ofR_no1 hv
  · refine ofR_no3 ?_
    rw [splC_len, ← posC_len 32 r.start.toList 0]
    omega
structure RefGo (r : PRaw) (p q : Nat) (w : ByteArray) : Prop where
  hp : posC 32 0 r.start.toList = [p, q]
  hw : valsOf hostS r.heads = [w]
  lt : p < q
  lq : q < r.start.size
  p1 : 1 ≤ p
  p2 : p ≤ 16
  of : ofR r = if (r.start.toList.take p).all upB && hostB (w.toList.map lowU) then (targL (r.start.toList.take p) ((r.start.toList.take q).drop (p + 1))).map fun z => ⟨bs (r.start.toList.take p), bs ((r.start.toList.take q).drop (p + 1)), bs z.1, bs z.2, bs (w.toList.map lowU), r.heads, r.body⟩ else none
theorem ref_go {r : PRaw} (h : condR r.start (posC 32 0 r.start.toList) (valsOf hostS r.heads).length = false) : ∃ p q w, RefGo r p q w := by
  by_cases h2 : (posC 32 0 r.start.toList).length = 2
  · obtain ⟨p, q, hpq⟩ : ∃ p q, posC 32 0 r.start.toList = [p, q] := by
      match posC 32 0 r.start.toList, h2 with
      | [p, q], _ => exact ⟨p, q, rfl⟩
    obtain ⟨h3, h4, h5⟩ := posC_two hpq
    rw [hpq] at h
    unfold condR at h
    dsimp only at h
    rw [bs_drop, bs_httpL] at h
    have h6 : (decide (r.start.toList.drop (q + 1) = httpL) && (decide (1 ≤ p) && (decide (p ≤ 16) && decide ((valsOf hostS r.heads).length = 1)))) = true := by
      cases hq : (decide (r.start.toList.drop (q + 1) = httpL) && (decide (1 ≤ p) && (decide (p ≤ 16) && decide ((valsOf hostS r.heads).length = 1)))) with
      | true => rfl
      | false => rw [hq] at h; cases h
    simp only [Bool.and_eq_true, decide_eq_true_eq] at h6
    obtain ⟨h7, h8, h9, h10⟩ := h6
    obtain ⟨w, hw⟩ : ∃ w, valsOf hostS r.heads = [w] := by
      match valsOf hostS r.heads, h10 with
      | [w], _ => exact ⟨w, rfl⟩
    refine ⟨p, q, w, hpq, hw, h3, by rw [← toList_len]; exact h4, h8, h9, ?_⟩
    rw [ofR_ok h5 hw]
    unfold of3
    rw [methB_eq]
    have hl : (r.start.toList.take p).length = p := by rw [List.length_take]; omega
    rw [hl, decide_eq_true h8, decide_eq_true h9, h7, decide_eq_true rfl]
    simp only [Bool.and_true, Bool.true_and]
    rfl
  · rw [condR_no h2] at h; cases h
def refOfT (o : Option PReq) : T := match o with
  | some x => .tup [.agg (reqT x), .v (.bool true)]
  | none => .tup [.agg reqT0, .v (.bool false)]
theorem pos_map (l : L8) {k : Nat} (h : k < l.length) : (l[k] = 32 → (posC 32 0 (l.take (k + 1))).map natT = (posC 32 0 (l.take k)).map natT ++ [natT k]) ∧ (l[k] ≠ 32 → (posC 32 0 (l.take (k + 1))).map natT = (posC 32 0 (l.take k)).map natT) := by
  rw [posC_snoc 32 l h]
  refine ⟨fun e => ?_, fun e => ?_⟩
  · rw [if_pos e, List.map_append]; rfl
  · rw [if_neg e, List.append_nil]
theorem pos_few (l : L8) (k : Nat) (h : l.length ≤ 100000) : (((posC 32 0 (l.take k)).map natT).length + 1) * 8 ≤ 140737488355328 := by
  rw [List.length_map, posC_len]
  have := List.count_le_length (a := (32 : UInt8)) (l := l.take k)
  rw [List.length_take] at this; omega
set_option maxRecDepth 100000 in
set_option maxHeartbeats 4000000 in
theorem refOf_ (r : PRaw) (hr : An.RawOk r) (hs : r.start.size ≤ 100000) (hv : ∀ v ∈ valsOf hostS r.heads, v.size ≤ 200000) : PCalls Tryz.prog 43 [.agg (rawT r)] (refOfT (ofR r)) := by
  obtain ⟨hn, _, hb, _⟩ := hr
  have hl := toList_len r.start
  unfold rawT
  refine pcalls_of Tryz.func43 rfl rfl Tryz.ntmps43 rfl ?_
  repeat' (first | (refine rg 0 ?_; refine sbx ?_; refine sal str57 ?_; refine oAs ?_; refine oN ?_) | (refine rg 1 ?_; refine oAs ?_; refine oN ?_) | (refine rg 2 ?_; refine oAs ?_; refine oN ?_) | refine gc ?_ | refine ct ?_ | refine cf ?_ | refine swp_cond rfl (fun hc => ?_) (fun hc => ?_) | refine rq rfl (.cell rfl rfl (tyT rfl) (vc (vc (vc (vc (vc (vc (vc .nil))))))) rfl (rt .nil)) ?_)
  refine swp_for (fun k => ⟨[(1, .bp 1 0), (2, .bp 2 0), (4, .own 150 ((posC 32 0 (r.start.toList.take k)).map natT).length), (5, .t (.v (.int .i64 (k : Int))))], bxR r, OR (posC 32 0 (r.start.toList.take k))⟩) (fun _ => True) r.start.size ?_ trivial ?_
  · refine Weak.trans (weak_own0 (i := 150) 3 1 (s := 4) rfl rfl) ?_
    exact (weak_sub (.cons rfl rfl rfl (.cons rfl rfl rfl (.cons rfl rfl rfl (.cons rfl rfl rfl .nil)))) (.cons rfl rfl rfl (.cons rfl rfl rfl .nil)) (.cons rfl rfl .nil))
  intro k hk _
  by_cases hlt : k < r.start.size
  · obtain ⟨g1, g2⟩ := pos_map r.start.toList (k := k) (by omega)
    rw [toList_at r.start hlt] at g1 g2
    have g3 := pos_few r.start.toList k (by omega)
    by_cases h32 : r.start[k].toNat = 32
    · have g1 := g1 (UInt8.toNat_inj.1 h32)
      clear g2
      repeat' (first | refine for_next hlt (weak_sub (.cons rfl (by rfl) rfl (.cons rfl (by rfl) rfl (.cons rfl (by first | rfl | (rw [g1]; try rfl)) rfl (.cons rfl (by rfl) rfl .nil)))) (.cons rfl (by rfl) rfl (.cons rfl (by rfl) rfl .nil)) (.cons rfl (by first | rfl | (rw [g1]; try rfl)) .nil)) trivial | (refine rg 3 ?_; refine oMv ?_; refine oFb ?_; refine oLb ?_; refine sp (po_len_str rfl rfl (tyR rfl)) ?_; refine oCm ?_; refine oN ?_) | (refine rg 5 ?_; refine oFb ?_; refine oLb ?_; refine oMv ?_; refine sp (xist rfl) ?_; refine oCm ?_; refine oN ?_) | (refine rg 6 ?_; refine oMv ?_; refine oMv ?_; refine sp (po_buildSlice rfl (tyE rfl) (dc (.nil _)) rfl rfl rfl) ?_; refine sap rfl (tyE rfl) ?_; refine oAs ?_; refine oN ?_) | (refine rg 4 ?_; refine oMv ?_; refine sp (xinc rfl) ?_; refine oAs ?_; refine oN ?_) | refine gc ?_ | refine ct ?_)
    · have g2 := g2 (fun e => h32 (by rw [e]; rfl))
      clear g1
      repeat' (first | refine for_next hlt (weak_sub (.cons rfl (by rfl) rfl (.cons rfl (by rfl) rfl (.cons rfl (by first | rfl | (rw [g2])) rfl (.cons rfl (by rfl) rfl .nil)))) (.cons rfl (by rfl) rfl (.cons rfl (by rfl) rfl .nil)) (.cons rfl (by first | rfl | (rw [g2])) .nil)) trivial | (refine rg 3 ?_; refine oMv ?_; refine oFb ?_; refine oLb ?_; refine sp (po_len_str rfl rfl (tyR rfl)) ?_; refine oCm ?_; refine oN ?_) | (refine rg 5 ?_; refine oFb ?_; refine oLb ?_; refine oMv ?_; refine sp (xist rfl) ?_; refine oCm ?_; refine oN ?_) | (refine rg 4 ?_; refine oMv ?_; refine sp (xinc rfl) ?_; refine oAs ?_; refine oN ?_) | refine gc ?_ | refine ct ?_ | refine cf ?_)
  · obtain rfl : k = r.start.size := by omega
    clear hlt
    rw [List.take_of_length_le (by omega : r.start.toList.length ≤ r.start.size)]
    have c2 := refAll_ hostS r.heads hn
    have hps : ∀ p ∈ posC 32 0 r.start.toList, p < r.start.size := fun p hp => by have := posC_mem r.start.toList 0 p hp; omega
    have hpn : (posC 32 0 r.start.toList).length ≤ 1000000 := by
      rw [posC_len]
      have := List.count_le_length (a := (32 : UInt8)) (l := r.start.toList)
      omega
    cases hc : condR r.start (posC 32 0 r.start.toList) (valsOf hostS r.heads).length with
    | true =>
      rw [ref_cond hc]
      generalize posC 32 0 r.start.toList = ps at *
      generalize valsOf hostS r.heads = vs at *
      repeat' (first | refine then_go ?_ | refine swp_seq ?_ | refine swp_weak (weak_sub (.cons rfl rfl rfl (.cons rfl rfl rfl (.cons rfl rfl rfl (.cons rfl rfl rfl .nil)))) (.cons rfl rfl rfl (.cons rfl rfl rfl .nil)) (.cons rfl rfl .nil)) (q8_ rfl r (by omega) ps hps hpn vs true hc ?_) | (refine rg 3 ?_; refine oMv ?_; refine oFb ?_; refine oLb ?_; refine sp (po_len_str rfl rfl (tyR rfl)) ?_; refine oCm ?_; refine oN ?_) | (refine rg 7 ?_; refine oFb ?_; refine oLb ?_; refine oC (c2) rfl (ac (ac .nil)) ?_; refine oAs ?_; refine oN ?_) | (refine rg 9 ?_; refine sp (po_buildS str57 rfl .nil rfl) ?_; refine oS ?_; refine oAs ?_; refine oN ?_) | refine swp_ret ?_ | refine swp_skip ?_ | refine swp_block ?_ | refine swp_exit ?_ | refine block_go ?_ | refine block_exit ?_ | refine block_far rfl ?_ | refine block_ret ?_ | refine then_ret ?_ | refine then_exit ?_ | refine for_ret ?_ | refine for_exit ?_ | refine ct ?_ | refine cf ?_ | refine swp_cond rfl (fun hc => ?_) (fun hc => ?_) | refine rq rfl (.cell rfl rfl (tyT rfl) (vc (vc (vc (vc (vc (vc (vc .nil))))))) rfl (rt .nil)) ?_)
      rfl
    | false =>
      obtain ⟨p, q, w, g⟩ := ref_go hc
      obtain ⟨g1, g2, g3, g4, g5, g6, g7⟩ := g
      rw [g7]
      rw [g1] at hps hpn hc ⊢
      rw [g2] at hc hv c2
      clear g1 g2 g7
      have hz := hv w (by simp)
      have c4 := refSmall_ w (by unfold maxLen; omega)
      have c5 := refHost_ (small w) (by rw [small_size]; omega)
      have hst : (small w).toList = w.toList.map lowU := bs_toList _
      rw [hst] at c5
      clear hst hz hv
      repeat' (first | refine then_go ?_ | refine swp_seq ?_ | refine swp_weak (weak_sub (.cons rfl rfl rfl (.cons rfl rfl rfl (.cons rfl rfl rfl (.cons rfl rfl rfl .nil)))) (.cons rfl rfl rfl (.cons rfl rfl rfl .nil)) (.cons rfl rfl .nil)) (q8_ rfl r (by omega) [p, q] hps hpn [w] false hc ?_) | (refine rg 3 ?_; refine oMv ?_; refine oFb ?_; refine oLb ?_; refine sp (po_len_str rfl rfl (tyR rfl)) ?_; refine oCm ?_; refine oN ?_) | (refine rg 7 ?_; refine oFb ?_; refine oLb ?_; refine oC (c2) rfl (ac (ac .nil)) ?_; refine oAs ?_; refine oN ?_) | (refine rg 10 ?_; refine oAs ?_; refine oN ?_) | refine swp_ret ?_ | refine swp_skip ?_ | refine swp_block ?_ | refine swp_exit ?_ | refine block_go ?_ | refine block_exit ?_ | refine block_far rfl ?_ | refine block_ret ?_ | refine then_ret ?_ | refine then_exit ?_ | refine for_ret ?_ | refine for_exit ?_ | refine ct ?_ | refine cf ?_ | refine swp_cond rfl (fun hc => ?_) (fun hc => ?_) | refine rq rfl (.cell rfl rfl (tyT rfl) (vc (vc (vc (vc (vc (vc (vc .nil))))))) rfl (rt .nil)) ?_)
      clear hps hpn hc c2
      refine swp_for (fun k => ⟨[(1, .bp 1 0), (2, .bp 2 0), (4, .own 150 2), (6, .t (.sl 1 [Hd.strT w])), (7, .t (.v (.int .i64 (k : Int))))], bxR r, OR [p, q]⟩) (fun k => (r.start.toList.take k).all upB = true) p (weak_sub (.cons rfl rfl rfl (.cons rfl rfl rfl (.cons rfl rfl rfl (.cons rfl rfl rfl (.cons rfl rfl rfl .nil))))) (.cons rfl rfl rfl (.cons rfl rfl rfl .nil)) (.cons rfl rfl .nil)) rfl ?_
      intro k hk hI
      by_cases hlt : k < p
      · have hks : k < r.start.size := by omega
        cases hd : upB r.start[k] with
        | true =>
          have hd2 : 65 ≤ r.start[k].toNat ∧ r.start[k].toNat ≤ 90 := by unfold upB at hd; simpa using hd
          repeat' (first | refine for_next hlt (weak_sub (.cons rfl rfl rfl (.cons rfl rfl rfl (.cons rfl rfl rfl (.cons rfl rfl rfl (.cons rfl rfl rfl .nil))))) (.cons rfl rfl rfl (.cons rfl rfl rfl .nil)) (.cons rfl rfl .nil)) (all_snoc hI hks hd) | (refine rg 11 ?_; refine oMv ?_; refine oMv ?_; refine sp (pix rfl (tyS rfl)) ?_; (first | refine oLb ?_ | refine oLd ?_); refine oCm ?_; refine oN ?_) | (refine rg 13 ?_; refine oFb ?_; refine oLb ?_; refine oMv ?_; refine sp (xist rfl) ?_; refine oCm ?_; refine oMv ?_; refine oFb ?_ <;> refine oLb ?_ <;> refine oMv ?_ <;> refine sp (xist rfl) ?_ <;> refine oCm ?_ <;> (first | refine oPt ?_ | refine oPf ?_) <;> refine oN ?_) | (refine rg 12 ?_; refine oMv ?_; refine sp (xinc rfl) ?_; refine oAs ?_; refine oN ?_) | refine gc ?_ | refine ct ?_ | refine cf ?_)
        | false =>
          have hbad := take_bad (s := r.start.toList) (p := upB) hlt (by omega) (by rw [toList_at r.start hks]; exact hd)
          rw [hbad, Bool.false_and, if_neg (by simp)]
          have hd2 : r.start[k].toNat < 65 ∨ 90 < r.start[k].toNat := by
            unfold upB at hd
            rw [Bool.and_eq_false_iff, decide_eq_false_iff_not, decide_eq_false_iff_not] at hd
            omega
          rcases hd2 with hd2 | hd2
          all_goals
            repeat' (first | (refine rg 11 ?_; refine oMv ?_; refine oMv ?_; refine sp (pix rfl (tyS rfl)) ?_; (first | refine oLb ?_ | refine oLd ?_); refine oCm ?_; refine oN ?_) | (refine rg 13 ?_; refine oFb ?_; refine oLb ?_; refine oMv ?_; refine sp (xist rfl) ?_; refine oCm ?_; refine oMv ?_; (first | refine oFb ?_ | refine oFd ?_ | refine oK ?_) <;> (first | refine oLb ?_ | refine oLd ?_ | refine oK ?_) <;> (first | refine oMv ?_ | refine oK ?_) <;> (first | refine sp (xist rfl) ?_ | refine oK ?_) <;> (first | refine oCm ?_ | refine oK ?_) <;> (first | refine oPt ?_ | refine oPf ?_) <;> refine oN ?_) | (refine rg 14 ?_; refine sp (po_buildS str57 rfl .nil rfl) ?_; refine oS ?_; refine oAs ?_; refine oN ?_) | refine gc ?_ | refine ct ?_ | refine cf ?_ | refine swp_cond rfl (fun hc => ?_) (fun hc => ?_) | refine rq rfl (.cell rfl rfl (tyT rfl) (vc (vc (vc (vc (vc (vc (vc .nil))))))) rfl (rt .nil)) ?_)
            rfl
      · obtain rfl : k = p := by omega
        rw [hI, Bool.true_and]
        have hm : r.start.extract 0 k = bs (r.start.toList.take k) := by rw [ba_extract, List.drop_zero]
        have ht : r.start.extract (k + 1) q = bs ((r.start.toList.take q).drop (k + 1)) := ba_extract _ _ _
        have hlm : (r.start.toList.take k).length ≤ 100000 := by rw [List.length_take]; omega
        have hlt' : ((r.start.toList.take q).drop (k + 1)).length ≤ 100000 := by rw [List.length_drop, List.length_take]; omega
        repeat' (first | refine then_go ?_ | refine swp_seq ?_ | refine swp_weak (weak_sub (.cons rfl rfl rfl (.cons rfl rfl rfl (.cons rfl rfl rfl (.cons rfl rfl rfl .nil)))) (.cons rfl rfl rfl (.cons rfl rfl rfl .nil)) (.cons rfl rfl .nil)) (q15_ rfl r k q w _ _ _ g3 g4 (by omega) hm ht c4 ?_) | (refine rg 11 ?_; refine oMv ?_; refine oMv ?_; refine sp (pix rfl (tyS rfl)) ?_; (first | refine oLb ?_ | refine oLd ?_); refine oCm ?_; refine oN ?_) | refine swp_ret ?_ | refine swp_skip ?_ | refine swp_block ?_ | refine swp_exit ?_ | refine block_go ?_ | refine block_exit ?_ | refine block_far rfl ?_ | refine block_ret ?_ | refine then_ret ?_ | refine then_exit ?_ | refine for_ret ?_ | refine for_exit ?_ | refine ct ?_ | refine cf ?_ | refine swp_cond rfl (fun hc => ?_) (fun hc => ?_) | refine rq rfl (.cell rfl rfl (tyT rfl) (vc (vc (vc (vc (vc (vc (vc .nil))))))) rfl (rt .nil)) ?_)
        generalize r.start.toList.take k = m at *
        generalize (r.start.toList.take q).drop (k + 1) = t at *
        clear hm ht hI hlt hk g3 g4 g5 g6 c4 hl hs
        change SWp _ _ _ _ ⟨_, bxS r (bs m) (bs t) ⟨#[]⟩ ⟨#[]⟩ (bs (w.toList.map lowU)) nlA nlA, _⟩
        change PCalls _ _ [.v (.string (bs (w.toList.map lowU)))] _ at c5
        generalize hostB (w.toList.map lowU) = hh at *
        generalize bs (w.toList.map lowU) = sw at *
        cases hh with
        | false =>
          repeat' (first | (refine rg 16 ?_; refine oFb ?_; refine oLb ?_; refine oC (c5) rfl (ac .nil) ?_; refine oMv ?_; refine oEx ?_; refine oEx ?_; refine oAs ?_; refine oAs ?_; refine oN ?_) | (refine rg 17 ?_; refine oMv ?_; refine sp (po_not rfl rfl) ?_; refine oN ?_) | (refine rg 18 ?_; refine sp (po_buildS str57 rfl .nil rfl) ?_; refine oS ?_; refine oAs ?_; refine oN ?_) | refine gc ?_ | refine ct ?_ | refine cf ?_ | refine swp_cond rfl (fun hc => ?_) (fun hc => ?_) | refine rq rfl (.cell rfl rfl (tyT rfl) (vc (vc (vc (vc (vc (vc (vc .nil))))))) rfl (rt .nil)) ?_)
          rfl
        | true =>
          rw [if_pos rfl]
          have hm1 : (r.heads.map headT).length = r.heads.length := List.length_map _
          have hm2 : (r.body.map byteT).length = r.body.length := List.length_map _
          have hbh : (0 + (r.heads.map headT).length) * 32 ≤ 140737488355328 := by omega
          have hmh : 0 + (r.heads.map headT).length ≤ maxLen := by unfold maxLen; omega
          have hbb : (0 + (r.body.map byteT).length) * 1 ≤ 140737488355328 := by omega
          have hmb : 0 + (r.body.map byteT).length ≤ maxLen := by unfold maxLen; omega
          have e6 := bs_connL m
          unfold targL
          by_cases hcn : m = connL
          · have e7 : decide (bs m = ⟨#[67, 79, 78, 78, 69, 67, 84]⟩) = true := by rw [e6, decide_eq_true hcn]
            rw [if_pos hcn]
            have c6 := refSmall_ (bs t) (by rw [bs_size]; unfold maxLen; omega)
            have c7 := refHost_ (small (bs t)) (by rw [small_size, bs_size]; omega)
            have hst : (small (bs t)).toList = t.map lowU := by unfold small; rw [bs_toList, bs_toList]
            rw [hst] at c7
            generalize small (bs t) = st at *
            cases hq : (hostB (t.map lowU) && hasC (t.map lowU)) with
            | false =>
              rw [hq] at c7
              repeat' (first | (refine rg 16 ?_; refine oFb ?_; refine oLb ?_; refine oC (c5) rfl (ac .nil) ?_; refine oMv ?_; refine oEx ?_; refine oEx ?_; refine oAs ?_; refine oAs ?_; refine oN ?_) | (refine rg 17 ?_; refine oMv ?_; refine sp (po_not rfl rfl) ?_; refine oN ?_) | (refine rg 19 ?_; refine oFb ?_; refine oLb ?_; refine sp (po_str rfl rfl rfl rfl) ?_; refine oN ?_) | (refine rg 20 ?_; refine oFb ?_; refine oLb ?_; (first | refine oC (c5) rfl (ac .nil) ?_ | refine oC (c6) rfl (ac .nil) ?_); (first | refine oC (c5) rfl (ac .nil) ?_ | refine oC (c6) rfl (ac .nil) ?_ | refine oC (c7) rfl (ac .nil) ?_); refine oMv ?_; refine oEx ?_; refine oEx ?_; refine oAs ?_; refine oAs ?_; refine oN ?_) | (refine rg 21 ?_; refine oMv ?_; refine sp (po_not rfl rfl) ?_; refine oN ?_) | (refine rg 22 ?_; refine sp (po_buildS str57 rfl .nil rfl) ?_; refine oS ?_; refine oAs ?_; refine oN ?_) | refine gc ?_ | refine ct ?_ | refine cf ?_ | refine swp_cond rfl (fun hc => ?_) (fun hc => ?_) | refine rq rfl (.cell rfl rfl (tyT rfl) (vc (vc (vc (vc (vc (vc (vc .nil))))))) rfl (rt .nil)) ?_)
              rfl
            | true =>
              rw [hq] at c7
              repeat' (first | (refine rg 16 ?_; refine oFb ?_; refine oLb ?_; refine oC (c5) rfl (ac .nil) ?_; refine oMv ?_; refine oEx ?_; refine oEx ?_; refine oAs ?_; refine oAs ?_; refine oN ?_) | (refine rg 17 ?_; refine oMv ?_; refine sp (po_not rfl rfl) ?_; refine oN ?_) | (refine rg 19 ?_; refine oFb ?_; refine oLb ?_; refine sp (po_str rfl rfl rfl rfl) ?_; refine oN ?_) | (refine rg 20 ?_; refine oFb ?_; refine oLb ?_; (first | refine oC (c5) rfl (ac .nil) ?_ | refine oC (c6) rfl (ac .nil) ?_); (first | refine oC (c5) rfl (ac .nil) ?_ | refine oC (c6) rfl (ac .nil) ?_ | refine oC (c7) rfl (ac .nil) ?_); refine oMv ?_; refine oEx ?_; refine oEx ?_; refine oAs ?_; refine oAs ?_; refine oN ?_) | (refine rg 21 ?_; refine oMv ?_; refine sp (po_not rfl rfl) ?_; refine oN ?_) | (refine rg 27 ?_; refine sops_build0 (.free rfl rfl) rfl rfl rfl (tyE rfl) rfl ?_; refine oFb ?_; refine oLb ?_; refine sap rfl (tyE rfl) ?_; refine oFb ?_; refine oS ?_; refine oN ?_) | (refine rg 28 ?_; refine sops_build0 (.free rfl rfl) rfl rfl rfl (tyE rfl) rfl ?_; refine oFb ?_; refine oLb ?_; refine sap rfl (tyE rfl) ?_; refine oFb ?_; refine oS ?_; refine oN ?_) | (refine rg 29 ?_; (refine sp (po_load_bx_agg rfl rfl (tyT rfl) rfl (vc (vc (vc (vc (vc (vc (vc .nil))))))) rfl) ?_); refine oS ?_; refine oAs ?_; refine oN ?_) | refine gc ?_ | refine ct ?_ | refine cf ?_ | refine swp_cond rfl (fun hc => ?_) (fun hc => ?_) | refine rq rfl (.cell rfl rfl (tyT rfl) (vc (vc (vc (vc (vc (vc (vc .nil))))))) rfl (rt .nil)) ?_)
              rfl
          · have e7 : decide (bs m = ⟨#[67, 79, 78, 78, 69, 67, 84]⟩) = false := by rw [e6, decide_eq_false hcn]
            rw [if_neg hcn]
            have c7 := refNormal_ (bs t) (by rw [bs_size]; omega)
            rw [bs_toList] at c7
            generalize normL t = nq at *
            cases nq with
            | none =>
              unfold refNormT at c7
              dsimp only at c7
              repeat' (first | (refine rg 16 ?_; refine oFb ?_; refine oLb ?_; refine oC (c5) rfl (ac .nil) ?_; refine oMv ?_; refine oEx ?_; refine oEx ?_; refine oAs ?_; refine oAs ?_; refine oN ?_) | (refine rg 17 ?_; refine oMv ?_; refine sp (po_not rfl rfl) ?_; refine oN ?_) | (refine rg 19 ?_; refine oFb ?_; refine oLb ?_; refine sp (po_str rfl rfl rfl rfl) ?_; refine oN ?_) | (refine rg 23 ?_; refine oFb ?_; refine oLb ?_; (first | refine oC (c5) rfl (ac .nil) ?_ | refine oC (c7) rfl (ac .nil) ?_); refine oMv ?_; refine oEx ?_; refine oEx ?_; refine oEx ?_; refine oAs ?_; refine oAs ?_; refine oAs ?_; refine oN ?_) | (refine rg 24 ?_; refine oMv ?_; refine sp (po_not rfl rfl) ?_; refine oN ?_) | (refine rg 25 ?_; refine sp (po_buildS str57 rfl .nil rfl) ?_; refine oS ?_; refine oAs ?_; refine oN ?_) | refine gc ?_ | refine ct ?_ | refine cf ?_ | refine swp_cond rfl (fun hc => ?_) (fun hc => ?_) | refine rq rfl (.cell rfl rfl (tyT rfl) (vc (vc (vc (vc (vc (vc (vc .nil))))))) rfl (rt .nil)) ?_)
              rfl
            | some pq =>
              obtain ⟨a, b⟩ := pq
              unfold refNormT at c7
              dsimp only at c7
              repeat' (first | (refine rg 16 ?_; refine oFb ?_; refine oLb ?_; refine oC (c5) rfl (ac .nil) ?_; refine oMv ?_; refine oEx ?_; refine oEx ?_; refine oAs ?_; refine oAs ?_; refine oN ?_) | (refine rg 17 ?_; refine oMv ?_; refine sp (po_not rfl rfl) ?_; refine oN ?_) | (refine rg 19 ?_; refine oFb ?_; refine oLb ?_; refine sp (po_str rfl rfl rfl rfl) ?_; refine oN ?_) | (refine rg 23 ?_; refine oFb ?_; refine oLb ?_; (first | refine oC (c5) rfl (ac .nil) ?_ | refine oC (c7) rfl (ac .nil) ?_); refine oMv ?_; refine oEx ?_; refine oEx ?_; refine oEx ?_; refine oAs ?_; refine oAs ?_; refine oAs ?_; refine oN ?_) | (refine rg 24 ?_; refine oMv ?_; refine sp (po_not rfl rfl) ?_; refine oN ?_) | (refine rg 26 ?_; refine oMv ?_; refine oMv ?_; refine oFb ?_; refine oS ?_; refine oFb ?_; refine oS ?_; refine oN ?_) | (refine rg 27 ?_; refine sops_build0 (.free rfl rfl) rfl rfl rfl (tyE rfl) rfl ?_; refine oFb ?_; refine oLb ?_; refine sap rfl (tyE rfl) ?_; refine oFb ?_; refine oS ?_; refine oN ?_) | (refine rg 28 ?_; refine sops_build0 (.free rfl rfl) rfl rfl rfl (tyE rfl) rfl ?_; refine oFb ?_; refine oLb ?_; refine sap rfl (tyE rfl) ?_; refine oFb ?_; refine oS ?_; refine oN ?_) | (refine rg 29 ?_; (refine sp (po_load_bx_agg rfl rfl (tyT rfl) rfl (vc (vc (vc (vc (vc (vc (vc .nil))))))) rfl) ?_); refine oS ?_; refine oAs ?_; refine oN ?_) | refine gc ?_ | refine ct ?_ | refine cf ?_ | refine swp_cond rfl (fun hc => ?_) (fun hc => ?_) | refine rq rfl (.cell rfl rfl (tyT rfl) (vc (vc (vc (vc (vc (vc (vc .nil))))))) rfl (rt .nil)) ?_)
              rfl
end Go.Proofs.YtpncekdhigappaaGreatDoor.Ro
