/- Merged by bundles.py: SimPath4, SimSpl. -/
import Derived.Test.YtpncekdhigappaaGreatDoorT30
import Derived.Test.YtpncekdhigappaaGreatDoorT27
import Derived.Test.YtpncekdhigappaaGreatDoorT28
import Derived.Test.YtpncekdhigappaaGreatDoorT13
/- Targets: the segments that are left: walk. -/
namespace Go.Proofs.YtpncekdhigappaaGreatDoor.Pth
set_option linter.unusedVariables false
set_option linter.unusedSimpArgs false
open Go.RowKit Mem Sim Opn Str
def keptT (x : Option (List L8 × Bool)) : T := match x with
  | some (left, dir) => .tup [.sl 1 (left.map strT), .v (.bool dir), .v (.bool true)]
  | none => .tup [.sl 1 [], .v (.bool false), .v (.bool false)]
def fbK (i : Nat) : Nat := if i = 2000 then 104 else if i = 2001 then 103 else if i = 2002 then 105 else if i = 2003 then 2 else if i = 2004 then 3 else if i = 2005 then 4 else i
def fbS (i : Nat) : Nat := if i = 3 then 103 else if i = 4 then 104 else if i = 5 then 105 else i
theorem zLeft : (Tryz.prog.info? 103).bind (·.zero) = some (.slice none 0 0) := by kernel_rfl
theorem zBool : (Tryz.prog.info? 4).bind (·.zero) = some (.bool false) := by kernel_rfl
abbrev tmR : List (Nat × A) := [(2, .bp 2 0), (3, .bp 3 0), (4, .bp 4 0)]
theorem R1_ok {rem : ByteArray} {left left' : List L8} {seg : L8} (hk : keep1 left seg = some left') : bodyR (R1 rem left seg) .normal (BX rem left' (dotB seg)) (OW left') := by
  show R1 rem left seg none _ _
  unfold R1; rw [hk]; exact ⟨rfl, rfl, rfl⟩
theorem RK_ex (s : L8) : ∃ c bx1 ow1, RK s c bx1 ow1 := by
  unfold RK
  split
  · exact ⟨_, _, _, rfl, rfl, ⟨#[]⟩, rfl⟩
  · exact ⟨_, _, _, rfl, rfl, ⟨#[]⟩, rfl⟩
theorem bs_dec (a b : L8) : decide (bs a = bs b) = decide (a = b) := by
  by_cases h : a = b
  · subst h; simp
  · rw [decide_eq_false h, decide_eq_false (fun e => h (by rw [← bs_toList a, e, bs_toList]))]
set_option maxRecDepth 100000 in
set_option maxHeartbeats 1000000 in
theorem kept_ (s : L8) (h0 : 1 ≤ s.length) (hs : s.length ≤ 1000) : PCalls Tryz.prog 109 [.v (.string (bs s))] (keptT (keptL s)) := by
  have hsz : (bs s).size = s.length := bs_size s
  have c1 := segments_ (bs s) (by omega)
  have e1 : (bs s).extract 1 (bs s).size = bs (s.drop 1) := by rw [ext_bs, hsz, List.take_length]
  rw [e1] at c1
  refine pcalls_x Tryz.func109 rfl rfl Tryz.ntmps109 rfl fun C => ?_
  repeat' (first | refine xthen_go ?_ | refine x_seq ?_ | (refine x_region (id := 0) ?_; refine sops_alloc (.free rfl rfl) rfl rfl rfl zLeft rfl rfl ?_; (first | refine sops_alloc (.free rfl rfl) rfl rfl rfl zLeft rfl rfl ?_ | refine sops_alloc (.free rfl rfl) rfl rfl rfl zBool rfl rfl ?_); (first | refine sops_alloc (.free rfl rfl) rfl rfl rfl zLeft rfl rfl ?_ | refine sops_alloc (.free rfl rfl) rfl rfl rfl zBool rfl rfl ?_); refine oN ?_) | (refine x_region (id := 1) ?_; refine oMv ?_; refine sops_lcall (c1) (fbS) (fun i => i) (fun _ => false) (.free rfl rfl) rfl rfl rfl (by ((repeat' (first | exact .nil | refine .cons rfl rfl rfl ?_)) <;> fail)) .nil .nil rfl rfl (fun _ h => Bool.noConfusion h) ?_; refine oN ?_) | refine x_ret ?_ | refine x_skip ?_ | refine x_block ?_ | refine x_exit ?_ | refine xblock_go ?_ | refine xblock_exit ?_ | refine xblock_far rfl ?_ | refine xblock_ret ?_ | refine xthen_ret ?_ | refine xthen_exit ?_ | refine xfam_ret ?_ | refine xfam_exit ?_ | refine XNorm.mk rfl ?_ | refine x_ct ?_ | refine x_cf ?_ | refine x_cond rfl (fun hc => ?_) (fun hc => ?_) | refine rq rfl (.cell1 rfl rfl (tyT rfl) (by first | exact .t _ | exact .own rfl (by rfl) | exact .nil _ | exact .emp _ | exact .fn _) (.cell1 rfl rfl (tyT rfl) (by first | exact .t _ | exact .own rfl (by rfl) | exact .nil _ | exact .emp _ | exact .fn _) (.cell1 rfl rfl (tyT rfl) (by first | exact .t _ | exact .own rfl (by rfl) | exact .nil _ | exact .emp _ | exact .fn _) .nil))) ?_)
  refine x_weak (weak_own0_bx 9 1 (i := 2) (j := 0) (q := 1001) rfl rfl rfl) ?_
  refine x_range (R := RK (s.drop 1)) (tmk := tmK) (bx0 := BX (bs (s.drop 1)) [] false) (ow0 := OW []) (caps0 := [.bp 2000 0, .bp 2001 0, .bp 2002 0]) (fb := fbK) (fw := fun i => i) (icSplit (by rw [List.length_drop]; omega) (fun l bx ow t p => ?_) (fun l rem left dir seg p hl => ?_)) rfl rfl rfl ?_ ?_ rfl (fun c bx1 ow1 hR => ?_) ?_ (fun c bx1 ow1 hR => ?_) (fun D p2 c bx1 ow1 hR hpb => ?_) ?_
  · repeat' (first | refine xthen_go ?_ | refine x_seq ?_ | (refine x_region (id := 2) ?_; refine oAs ?_; refine oN ?_) | refine x_ret ?_ | refine x_skip ?_ | refine x_block ?_ | refine x_exit ?_ | refine xblock_go ?_ | refine xblock_exit ?_ | refine xblock_far rfl ?_ | refine xblock_ret ?_ | refine xthen_ret ?_ | refine xthen_exit ?_ | refine xfam_ret ?_ | refine xfam_exit ?_ | refine XNorm.mk rfl ?_ | refine x_ct ?_ | refine x_cf ?_ | refine x_cond rfl (fun hc => ?_) (fun hc => ?_) | refine rq rfl (.cell1 rfl rfl (tyT rfl) (by first | exact .t _ | exact .own rfl (by rfl) | exact .nil _ | exact .emp _ | exact .fn _) (.cell1 rfl rfl (tyT rfl) (by first | exact .t _ | exact .own rfl (by rfl) | exact .nil _ | exact .emp _ | exact .fn _) (.cell1 rfl rfl (tyT rfl) (by first | exact .t _ | exact .own rfl (by rfl) | exact .nil _ | exact .emp _ | exact .fn _) .nil))) ?_)
    exact ⟨rfl, rfl, rfl⟩
  · have hm : (left.map strT).length = left.length := List.length_map _
    have g0 : decide (bs seg = ⟨#[]⟩) = decide (seg = []) := bs_dec seg []
    have g1 : decide (bs seg = ⟨#[46]⟩) = decide (seg = [46]) := bs_dec seg [46]
    have g2 : decide (bs seg = ⟨#[46, 46]⟩) = decide (seg = [46, 46]) := bs_dec seg [46, 46]
    unfold BX OW
    have fin : ∀ {b : Bool} {tm : List (Nat × A)} (left' : List L8) (rows : List (List T)) (c1 : List A) (bx' : List (Nat × List A)), left'.map strT = rows → b = dotB seg → keep1 left seg = some left' → True := fun _ _ _ _ _ _ _ => trivial
    clear fin
    by_cases hs2 : seg = [46, 46]
    · have g2' := g2.trans (decide_eq_true hs2)
      have hd : dotB seg = true := by subst hs2; rfl
      have g0' := g0.trans (decide_eq_false (by subst hs2; decide))
      have g1' := g1.trans (decide_eq_false (by subst hs2; decide))
      clear g0 g1 g2
      by_cases hl0 : left = []
      · subst hl0
        have hz : decide ((((([] : List L8).map strT).length : Nat) : Int) = 0) = true := rfl
        repeat' (first | refine xthen_go ?_ | refine x_seq ?_ | (refine x_region (id := 3) ?_; refine oMv ?_; refine sp (po_str rfl rfl rfl rfl) ?_; refine oMv ?_; refine oMv ?_ <;> refine sp (po_str rfl rfl rfl rfl) ?_ <;> (first | refine oPt ?_ | refine oPf ?_) <;> refine oMv ?_ <;> refine oMv ?_ <;> refine sp (po_str rfl rfl rfl rfl) ?_ <;> (first | refine oPt ?_ | refine oPf ?_) <;> refine oS ?_ <;> refine oN ?_) | (refine x_region (id := 4) ?_; refine oMv ?_; refine sp (po_str rfl rfl rfl rfl) ?_; refine oMv ?_; refine oLb ?_ <;> refine sp (po_len_own rfl rfl (tyS rfl)) ?_ <;> refine oCm ?_ <;> refine oPt ?_ <;> refine oAs ?_ <;> refine oN ?_) | (refine x_region (id := 5) ?_; refine oS ?_; refine oS ?_; refine oS ?_; refine oN ?_) | refine x_ret ?_ | refine x_skip ?_ | refine x_block ?_ | refine x_exit ?_ | refine xblock_go ?_ | refine xblock_exit ?_ | refine xblock_far rfl ?_ | refine xblock_ret ?_ | refine xthen_ret ?_ | refine xthen_exit ?_ | refine xfam_ret ?_ | refine xfam_exit ?_ | refine XNorm.mk rfl ?_ | refine x_ct ?_ | refine x_cf ?_ | refine x_cond rfl (fun hc => ?_) (fun hc => ?_) | refine rq rfl (.cell1 rfl rfl (tyT rfl) (by first | exact .t _ | exact .own rfl (by rfl) | exact .nil _ | exact .emp _ | exact .fn _) (.cell1 rfl rfl (tyT rfl) (by first | exact .t _ | exact .own rfl (by rfl) | exact .nil _ | exact .emp _ | exact .fn _) (.cell1 rfl rfl (tyT rfl) (by first | exact .t _ | exact .own rfl (by rfl) | exact .nil _ | exact .emp _ | exact .fn _) .nil))) ?_)
        exact ⟨rfl, BF rem, [], (.cons rfl rfl rfl (.cons rfl rfl rfl (.cons rfl rfl rfl (.cons rfl rfl rfl (.cons rfl rfl rfl (.cons rfl rfl rfl .nil)))))), .nil, by subst hs2; exact ⟨rfl, rfl, rfl⟩⟩
      · have hlp : 1 ≤ left.length := by cases left with | nil => exact absurd rfl hl0 | cons _ _ => simp
        have hz : decide ((((left.map strT).length : Nat) : Int) = 0) = false := decide_eq_false (by omega)
        have hk : keep1 left seg = some left.dropLast := by unfold keep1; rw [if_pos hs2, if_neg hl0]
        have hr : (left.map strT).take ((left.map strT).length - 1) = left.dropLast.map strT := by rw [List.length_map, ← List.map_take, List.dropLast_eq_take]
        have hr2 : (left.map strT).length - 1 = (left.dropLast.map strT).length := by rw [List.length_map, List.length_map, List.length_dropLast]
        repeat' (first | refine xthen_go ?_ | refine x_seq ?_ | (refine x_region (id := 3) ?_; (first | refine sops_cut (by rfl) (by rfl) (.free rfl rfl) rfl rfl rfl rfl rfl rfl (tyS rfl) rfl rfl (by omega) ?_ | refine oMv ?_); (first | refine sops_cut (by rfl) (by rfl) (.free rfl rfl) rfl rfl rfl rfl rfl rfl (tyS rfl) rfl rfl (by omega) ?_ | refine sp (po_str rfl rfl rfl rfl) ?_); (first | refine sops_cut (by rfl) (by rfl) (.free rfl rfl) rfl rfl rfl rfl rfl rfl (tyS rfl) rfl rfl (by omega) ?_ | refine oMv ?_); (first | refine sops_cut (by rfl) (by rfl) gy rfl rfl rfl rfl rfl rfl (tyS rfl) rfl rfl (by omega) ?_ | refine oMv ?_) <;> (first | refine sops_cut (by rfl) (by rfl) gy rfl rfl rfl rfl rfl rfl (tyS rfl) rfl rfl (by omega) ?_ | refine sp (po_str rfl rfl rfl rfl) ?_) <;> (first | refine sops_cut (by rfl) (by rfl) (.free rfl rfl) rfl rfl rfl rfl rfl rfl (tyS rfl) rfl rfl (by omega) ?_ | refine oPt ?_ | refine oPf ?_) <;> (first | refine sops_cut (by rfl) (by rfl) (.free rfl rfl) rfl rfl rfl rfl rfl rfl (tyS rfl) rfl rfl (by omega) ?_ | refine oMv ?_) <;> (first | refine sops_cut (by rfl) (by rfl) gy rfl rfl rfl rfl rfl rfl (tyS rfl) rfl rfl (by omega) ?_ | refine oMv ?_) <;> (first | refine sops_cut (by rfl) (by rfl) gy rfl rfl rfl rfl rfl rfl (tyS rfl) rfl rfl (by omega) ?_ | refine sp (po_str rfl rfl rfl rfl) ?_) <;> (first | refine sops_cut (by rfl) (by rfl) (.free rfl rfl) rfl rfl rfl rfl rfl rfl (tyS rfl) rfl rfl (by omega) ?_ | refine oPt ?_ | refine oPf ?_) <;> (first | refine sops_cut (by rfl) (by rfl) (.free rfl rfl) rfl rfl rfl rfl rfl rfl (tyS rfl) rfl rfl (by omega) ?_ | refine oS ?_) <;> refine oN ?_) | (refine x_region (id := 4) ?_; (first | refine sops_cut (by rfl) (by rfl) (.free rfl rfl) rfl rfl rfl rfl rfl rfl (tyS rfl) rfl rfl (by omega) ?_ | refine oMv ?_); (first | refine sops_cut (by rfl) (by rfl) (.free rfl rfl) rfl rfl rfl rfl rfl rfl (tyS rfl) rfl rfl (by omega) ?_ | refine sp (po_str rfl rfl rfl rfl) ?_); (first | refine sops_cut (by rfl) (by rfl) (.free rfl rfl) rfl rfl rfl rfl rfl rfl (tyS rfl) rfl rfl (by omega) ?_ | refine oMv ?_); (first | refine sops_cut (by rfl) (by rfl) gy rfl rfl rfl rfl rfl rfl (tyS rfl) rfl rfl (by omega) ?_ | refine oLb ?_) <;> (first | refine sops_cut (by rfl) (by rfl) gy rfl rfl rfl rfl rfl rfl (tyS rfl) rfl rfl (by omega) ?_ | refine sp (po_len_own rfl rfl (tyS rfl)) ?_) <;> (first | refine sops_cut (by rfl) (by rfl) gy rfl rfl rfl rfl rfl rfl (tyS rfl) rfl rfl (by omega) ?_ | refine oCm ?_) <;> (first | refine sops_cut (by rfl) (by rfl) (.free rfl rfl) rfl rfl rfl rfl rfl rfl (tyS rfl) rfl rfl (by omega) ?_ | refine oPt ?_) <;> (first | refine sops_cut (by rfl) (by rfl) (.free rfl rfl) rfl rfl rfl rfl rfl rfl (tyS rfl) rfl rfl (by omega) ?_ | refine oAs ?_) <;> refine oN ?_) | (refine x_region (id := 6) ?_; (first | refine sops_cut (by rfl) (by rfl) (.free rfl rfl) rfl rfl rfl rfl rfl rfl (tyS rfl) rfl rfl (by omega) ?_ | refine oMv ?_); (first | refine sops_cut (by rfl) (by rfl) (.free rfl rfl) rfl rfl rfl rfl rfl rfl (tyS rfl) rfl rfl (by omega) ?_ | refine sp (po_str rfl rfl rfl rfl) ?_); (first | refine sops_cut (by rfl) (by rfl) (.free rfl rfl) rfl rfl rfl rfl rfl rfl (tyS rfl) rfl rfl (by omega) ?_ | refine oAs ?_); refine oN ?_) | (refine x_region (id := 7) ?_; (first | refine sops_cut (by rfl) (by rfl) (.free rfl rfl) rfl rfl rfl rfl rfl rfl (tyS rfl) rfl rfl (by omega) ?_ | refine oLb ?_); (first | refine sops_cut (by rfl) (by rfl) (.free rfl rfl) rfl rfl rfl rfl rfl rfl (tyS rfl) rfl rfl (by omega) ?_ | refine oLb ?_); (first | refine sops_cut (by rfl) (by rfl) (.free rfl rfl) rfl rfl rfl rfl rfl rfl (tyS rfl) rfl rfl (by omega) ?_ | refine sp (po_len_own rfl rfl (tyS rfl)) ?_); (first | refine sops_cut (by rfl) (by rfl) (.free rfl rfl) rfl rfl rfl rfl rfl rfl (tyS rfl) rfl rfl (by omega) ?_ | refine sp (po_dec rfl rfl rfl (by omega)) ?_); (first | refine sops_cut (by rfl) (by rfl) (.free rfl rfl) rfl rfl rfl rfl rfl rfl (tyS rfl) rfl rfl (by omega) ?_ | refine oLb ?_); (first | refine sops_cut (by rfl) (by rfl) (.free rfl rfl) rfl rfl rfl rfl rfl rfl (tyS rfl) rfl rfl (by omega) ?_ | refine sp (po_len_own rfl rfl (tyS rfl)) ?_); (first | refine sops_cut (by rfl) (by rfl) (.free rfl rfl) rfl rfl rfl rfl rfl rfl (tyS rfl) rfl rfl (by omega) ?_ | refine sp (po_dec rfl rfl rfl (by omega)) ?_); refine sops_cut (by rfl) (by rfl) (.free rfl rfl) rfl rfl rfl rfl rfl rfl (tyS rfl) rfl rfl (by omega) ?_; (first | refine sops_cut (by rfl) (by rfl) (.free rfl rfl) rfl rfl rfl rfl rfl rfl (tyS rfl) rfl rfl (by omega) ?_ | refine oS ?_); refine oN ?_) | refine x_ret ?_ | refine x_skip ?_ | refine x_block ?_ | refine x_exit ?_ | refine xblock_go ?_ | refine xblock_exit ?_ | refine xblock_far rfl ?_ | refine xblock_ret ?_ | refine xthen_ret ?_ | refine xthen_exit ?_ | refine xfam_ret ?_ | refine xfam_exit ?_ | refine XNorm.mk rfl ?_ | refine x_ct ?_ | refine x_cf ?_ | refine x_cond rfl (fun hc => ?_) (fun hc => ?_) | refine rq rfl (.cell1 rfl rfl (tyT rfl) (by first | exact .t _ | exact .own rfl (by rfl) | exact .nil _ | exact .emp _ | exact .fn _) (.cell1 rfl rfl (tyT rfl) (by first | exact .t _ | exact .own rfl (by rfl) | exact .nil _ | exact .emp _ | exact .fn _) (.cell1 rfl rfl (tyT rfl) (by first | exact .t _ | exact .own rfl (by rfl) | exact .nil _ | exact .emp _ | exact .fn _) .nil))) ?_)
        exact ⟨rfl, BX rem left.dropLast (dotB seg), OW left.dropLast, (.cons rfl rfl rfl (.cons rfl rfl rfl (.cons rfl rfl rfl (.cons rfl (congrArg (fun n => [A.own 1001 n]) hr2) rfl (.cons rfl (congrArg (fun b => [A.t (T.v (Value.bool b))]) (g2'.trans hd.symm)) rfl (.cons rfl rfl rfl .nil)))))), .cons rfl (congrArg (Own.mk _ 1) hr) .nil, R1_ok hk⟩
    · have g2' := g2.trans (decide_eq_false hs2)
      by_cases hdt : seg = [] ∨ seg = [46]
      · have hd : dotB seg = true := by rcases hdt with rfl | rfl <;> rfl
        have hk : keep1 left seg = some left := by unfold keep1; rw [if_neg hs2, if_pos hd]
        rcases hdt with rfl | rfl
        · have g0' := g0.trans (decide_eq_true rfl)
          clear g0 g1 g2
          repeat' (first | refine xthen_go ?_ | refine x_seq ?_ | (refine x_region (id := 3) ?_; refine oMv ?_; refine sp (po_str rfl rfl rfl rfl) ?_; refine oMv ?_; (first | refine oMv ?_ | refine oK ?_) <;> (first | refine sp (po_str rfl rfl rfl rfl) ?_ | refine oK ?_) <;> refine oPt ?_ <;> refine oMv ?_ <;> (first | refine oMv ?_ | refine oK ?_) <;> (first | refine sp (po_str rfl rfl rfl rfl) ?_ | refine oK ?_) <;> refine oPt ?_ <;> refine oS ?_ <;> refine oN ?_) | (refine x_region (id := 4) ?_; refine oMv ?_; refine sp (po_str rfl rfl rfl rfl) ?_; refine oMv ?_; (first | refine oLb ?_ | refine oLd ?_ | refine sp (ldo rfl) ?_ | refine oK ?_) <;> (first | refine sp (po_len_own rfl rfl (tyS rfl)) ?_ | refine sp (pln rfl (tyS rfl)) ?_ | refine oK ?_) <;> (first | refine oCm ?_ | refine oK ?_) <;> (first | refine oPt ?_ | refine oPf ?_) <;> refine oAs ?_ <;> refine oN ?_) | (refine x_region (id := 6) ?_; refine oMv ?_; refine sp (po_str rfl rfl rfl rfl) ?_; refine oAs ?_; refine oN ?_) | (refine x_region (id := 8) ?_; refine oLb ?_; refine sp (po_not rfl rfl) ?_; refine oAs ?_; refine oN ?_) | refine x_ret ?_ | refine x_skip ?_ | refine x_block ?_ | refine x_exit ?_ | refine xblock_go ?_ | refine xblock_exit ?_ | refine xblock_far rfl ?_ | refine xblock_ret ?_ | refine xthen_ret ?_ | refine xthen_exit ?_ | refine xfam_ret ?_ | refine xfam_exit ?_ | refine XNorm.mk rfl ?_ | refine x_ct ?_ | refine x_cf ?_ | refine x_cond rfl (fun hc => ?_) (fun hc => ?_) | refine rq rfl (.cell1 rfl rfl (tyT rfl) (by first | exact .t _ | exact .own rfl (by rfl) | exact .nil _ | exact .emp _ | exact .fn _) (.cell1 rfl rfl (tyT rfl) (by first | exact .t _ | exact .own rfl (by rfl) | exact .nil _ | exact .emp _ | exact .fn _) (.cell1 rfl rfl (tyT rfl) (by first | exact .t _ | exact .own rfl (by rfl) | exact .nil _ | exact .emp _ | exact .fn _) .nil))) ?_)
          exact ⟨rfl, BX rem left (dotB _), OW left, (.cons rfl rfl rfl (.cons rfl rfl rfl (.cons rfl rfl rfl (.cons rfl rfl rfl (.cons rfl (congrArg (fun b => [A.t (T.v (Value.bool b))]) (hd.symm)) rfl (.cons rfl rfl rfl .nil)))))), .cons rfl rfl .nil, R1_ok hk⟩
        · have g0' := g0.trans (decide_eq_false (by decide))
          have g1' := g1.trans (decide_eq_true rfl)
          clear g0 g1 g2
          repeat' (first | refine xthen_go ?_ | refine x_seq ?_ | (refine x_region (id := 3) ?_; refine oMv ?_; refine sp (po_str rfl rfl rfl rfl) ?_; refine oMv ?_; refine oMv ?_ <;> refine sp (po_str rfl rfl rfl rfl) ?_ <;> (first | refine oPt ?_ | refine oPf ?_) <;> refine oMv ?_ <;> (first | refine oMv ?_ | refine oK ?_) <;> (first | refine sp (po_str rfl rfl rfl rfl) ?_ | refine oK ?_) <;> refine oPt ?_ <;> refine oS ?_ <;> refine oN ?_) | (refine x_region (id := 4) ?_; refine oMv ?_; refine sp (po_str rfl rfl rfl rfl) ?_; refine oMv ?_; (first | refine oLb ?_ | refine oLd ?_ | refine sp (ldo rfl) ?_ | refine oK ?_) <;> (first | refine sp (po_len_own rfl rfl (tyS rfl)) ?_ | refine sp (pln rfl (tyS rfl)) ?_ | refine oK ?_) <;> (first | refine oCm ?_ | refine oK ?_) <;> (first | refine oPt ?_ | refine oPf ?_) <;> refine oAs ?_ <;> refine oN ?_) | (refine x_region (id := 6) ?_; refine oMv ?_; refine sp (po_str rfl rfl rfl rfl) ?_; refine oAs ?_; refine oN ?_) | (refine x_region (id := 8) ?_; refine oLb ?_; refine sp (po_not rfl rfl) ?_; refine oAs ?_; refine oN ?_) | refine x_ret ?_ | refine x_skip ?_ | refine x_block ?_ | refine x_exit ?_ | refine xblock_go ?_ | refine xblock_exit ?_ | refine xblock_far rfl ?_ | refine xblock_ret ?_ | refine xthen_ret ?_ | refine xthen_exit ?_ | refine xfam_ret ?_ | refine xfam_exit ?_ | refine XNorm.mk rfl ?_ | refine x_ct ?_ | refine x_cf ?_ | refine x_cond rfl (fun hc => ?_) (fun hc => ?_) | refine rq rfl (.cell1 rfl rfl (tyT rfl) (by first | exact .t _ | exact .own rfl (by rfl) | exact .nil _ | exact .emp _ | exact .fn _) (.cell1 rfl rfl (tyT rfl) (by first | exact .t _ | exact .own rfl (by rfl) | exact .nil _ | exact .emp _ | exact .fn _) (.cell1 rfl rfl (tyT rfl) (by first | exact .t _ | exact .own rfl (by rfl) | exact .nil _ | exact .emp _ | exact .fn _) .nil))) ?_)
          exact ⟨rfl, BX rem left (dotB _), OW left, (.cons rfl rfl rfl (.cons rfl rfl rfl (.cons rfl rfl rfl (.cons rfl rfl rfl (.cons rfl (congrArg (fun b => [A.t (T.v (Value.bool b))]) (g1'.trans hd.symm)) rfl (.cons rfl rfl rfl .nil)))))), .cons rfl rfl .nil, R1_ok hk⟩
      · have g0' := g0.trans (decide_eq_false fun e => hdt (.inl e))
        have g1' := g1.trans (decide_eq_false fun e => hdt (.inr e))
        have hd : dotB seg = false := by unfold dotB; rw [decide_eq_false hs2, decide_eq_false fun e => hdt (.inl e), decide_eq_false fun e => hdt (.inr e)]; rfl
        have hk : keep1 left seg = some (left ++ [seg]) := by unfold keep1; rw [if_neg hs2, hd]; rfl
        have g3 : (!decide (bs seg = ⟨#[46, 46]⟩)) = true := by rw [g2']; rfl
        have ha : (left ++ [seg]).map strT = left.map strT ++ [[T.v (.string (bs seg))]] := by rw [List.map_append]; rfl
        have hb1 : ((left.map strT).length + 1) * 64 ≤ 140737488355328 := by omega
        have hb2 : (left.map strT).length + 1 ≤ maxLen := by unfold maxLen; omega
        clear g0 g1 g2
        repeat' (first | refine xthen_go ?_ | refine x_seq ?_ | (refine x_region (id := 3) ?_; refine oMv ?_; refine sp (po_str rfl rfl rfl rfl) ?_; refine oMv ?_; refine oMv ?_ <;> refine sp (po_str rfl rfl rfl rfl) ?_ <;> (first | refine oPt ?_ | refine oPf ?_) <;> refine oMv ?_ <;> refine oMv ?_ <;> refine sp (po_str rfl rfl rfl rfl) ?_ <;> (first | refine oPt ?_ | refine oPf ?_) <;> refine oS ?_ <;> refine oN ?_) | (refine x_region (id := 4) ?_; refine oMv ?_; refine sp (po_str rfl rfl rfl rfl) ?_; refine oMv ?_; (first | refine oLb ?_ | refine oLd ?_ | refine sp (ldo rfl) ?_ | refine oK ?_) <;> (first | refine sp (po_len_own rfl rfl (tyS rfl)) ?_ | refine sp (pln rfl (tyS rfl)) ?_ | refine oK ?_) <;> (first | refine oCm ?_ | refine oK ?_) <;> (first | refine oPt ?_ | refine oPf ?_) <;> refine oAs ?_ <;> refine oN ?_) | (refine x_region (id := 6) ?_; refine oMv ?_; refine sp (po_str rfl rfl rfl rfl) ?_; refine oAs ?_; refine oN ?_) | (refine x_region (id := 8) ?_; refine oLb ?_; refine sp (po_not rfl rfl) ?_; refine oAs ?_; refine oN ?_) | (refine x_region (id := 9) ?_; refine oLb ?_; refine oMv ?_; refine sp (po_buildSlice rfl (tyE rfl) (dc (.nil _)) rfl rfl rfl) ?_; refine sap rfl (tyE rfl) ?_; refine oS ?_; refine oN ?_) | refine x_ret ?_ | refine x_skip ?_ | refine x_block ?_ | refine x_exit ?_ | refine xblock_go ?_ | refine xblock_exit ?_ | refine xblock_far rfl ?_ | refine xblock_ret ?_ | refine xthen_ret ?_ | refine xthen_exit ?_ | refine xfam_ret ?_ | refine xfam_exit ?_ | refine XNorm.mk rfl ?_ | refine x_ct ?_ | refine x_cf ?_ | refine x_cond rfl (fun hc => ?_) (fun hc => ?_) | refine rq rfl (.cell1 rfl rfl (tyT rfl) (by first | exact .t _ | exact .own rfl (by rfl) | exact .nil _ | exact .emp _ | exact .fn _) (.cell1 rfl rfl (tyT rfl) (by first | exact .t _ | exact .own rfl (by rfl) | exact .nil _ | exact .emp _ | exact .fn _) (.cell1 rfl rfl (tyT rfl) (by first | exact .t _ | exact .own rfl (by rfl) | exact .nil _ | exact .emp _ | exact .fn _) .nil))) ?_)
        exact ⟨rfl, BX rem (left ++ [seg]) (dotB _), OW (left ++ [seg]), (.cons rfl rfl rfl (.cons rfl rfl rfl (.cons rfl rfl rfl (.cons rfl (congrArg (fun l : List (List T) => [A.own 1001 l.length]) ha.symm) rfl (.cons rfl (congrArg (fun b => [A.t (T.v (Value.bool b))]) (g2'.trans hd.symm)) rfl (.cons rfl rfl rfl .nil)))))), .cons rfl (congrArg (Own.mk _ 1) ha.symm) .nil, R1_ok hk⟩
  · exact .cons rfl rfl (.cons rfl rfl (.cons rfl rfl (.cons rfl rfl (.cons rfl rfl (.cons rfl rfl .nil)))))
  · exact .cons rfl rfl .nil
  · unfold RK at hR
    split at hR
    · obtain ⟨rfl, rfl, rem, rfl⟩ := hR; rfl
    · obtain ⟨rfl, rfl, rem, rfl⟩ := hR; rfl
  · intro i y h
    simp only [Sim.get, tmK] at h
    cases h2 : Nat.beq 2 i with
    | true => rw [h2] at h; injection h with h; subst h; obtain rfl := Nat.eq_of_beq_eq_true h2; exact ⟨_, _, rfl, rfl, rfl⟩
    | false =>
    cases h3 : Nat.beq 3 i with
    | true => rw [h2, h3] at h; injection h with h; subst h; obtain rfl := Nat.eq_of_beq_eq_true h3; exact ⟨_, _, rfl, rfl, rfl⟩
    | false =>
    cases h4 : Nat.beq 4 i with
    | true => rw [h2, h3, h4] at h; injection h with h; subst h; obtain rfl := Nat.eq_of_beq_eq_true h4; exact ⟨_, _, rfl, rfl, rfl⟩
    | false => rw [h2, h3, h4] at h; cases h
  · unfold RK at hR
    intro i o h
    split at hR
    · obtain ⟨rfl, rfl, rem, rfl⟩ := hR; exact hid_OW i o h
    · obtain ⟨rfl, rfl, rem, rfl⟩ := hR; cases h
  · unfold RK at hR
    unfold keptL
    split at hR
    · rename_i left dir hq
      obtain ⟨rfl, rfl, rem, rfl⟩ := hR
      rw [hq]
      have hm : (left.map strT).length = left.length := List.length_map _
      refine xblock_go ?_
      refine xthen_go ?_
      refine x_weak (st' := ⟨tmR, [(2, [.own 1001 (left.map strT).length]), (3, [.t (.v (.bool dir))]), (4, [.t (.v (.bool false))])], OW left⟩) (weak_sub (.cons rfl rfl rfl (.cons rfl rfl rfl (.cons rfl rfl rfl .nil))) (.cons rfl rfl rfl (.cons rfl rfl rfl (.cons rfl rfl rfl .nil))) (.cons rfl rfl .nil)) ?_
      refine x_weak (weak_show 1001 101 rfl rfl rfl rfl) ?_
      repeat' (first | refine xthen_go ?_ | refine x_seq ?_ | refine xret hpb (.inr rfl) rfl (.cell1 rfl rfl (tyT rfl) (.own rfl rfl) (.cell1 rfl rfl (tyT rfl) (.t _) (.cell1 rfl rfl (tyT rfl) (.t _) .nil))) ?_ | (refine x_region (id := 10) ?_; refine oLb ?_; refine oLb ?_; refine oMv ?_; (first | refine oLb ?_ | refine oLd ?_ | refine sp (ldo rfl) ?_ | refine oK ?_ | ((refine ssp (fun hc => ?_) (fun hc => ?_)) <;> first | refine oLb ?_ | refine oLd ?_ | refine sp (ldo rfl) ?_ | refine oK ?_)) <;> (first | refine sp (po_len_own rfl rfl (tyS rfl)) ?_ | refine sp (pln rfl (tyS rfl)) ?_ | refine oK ?_) <;> (first | refine oCm ?_ | refine oK ?_) <;> (first | refine oPt ?_ | refine oPf ?_) <;> refine oS ?_ <;> refine oS ?_ <;> refine oS ?_ <;> refine oN ?_) | refine x_ret ?_ | refine x_skip ?_ | refine x_block ?_ | refine x_exit ?_ | refine xblock_go ?_ | refine xblock_exit ?_ | refine xblock_far rfl ?_ | refine xblock_ret ?_ | refine xthen_ret ?_ | refine xthen_exit ?_ | refine xfam_ret ?_ | refine xfam_exit ?_ | refine XNorm.mk rfl ?_ | refine x_ct ?_ | refine x_cf ?_ | refine x_cond rfl (fun hc => ?_) (fun hc => ?_) | refine rq rfl (.cell1 rfl rfl (tyT rfl) (by first | exact .t _ | exact .own rfl (by rfl) | exact .nil _ | exact .emp _ | exact .fn _) (.cell1 rfl rfl (tyT rfl) (by first | exact .t _ | exact .own rfl (by rfl) | exact .nil _ | exact .emp _ | exact .fn _) (.cell1 rfl rfl (tyT rfl) (by first | exact .t _ | exact .own rfl (by rfl) | exact .nil _ | exact .emp _ | exact .fn _) .nil))) ?_)
      · have hd : dir = true := by assumption
        have e2 : (decide (left ≠ [])) = decide ((0 : Int) < (((left.map strT).length : Nat) : Int)) := by
          rw [hm]; cases left <;> simp
        show T.tup [_, T.v (.bool (dir && decide (left ≠ []))), _] = _
        rw [e2, hd]; rfl
      · have hd : dir = false := by assumption
        show T.tup [_, T.v (.bool (dir && decide (left ≠ []))), _] = _
        rw [hd]; rfl
    · rename_i hq
      obtain ⟨rfl, rfl, rem, rfl⟩ := hR
      rw [hq]
      refine x_weak (st' := ⟨tmR, [(2, [.t (.v (.slice none 0 0))]), (3, [.t (.v (.bool false))]), (4, [.t (.v (.bool false))])], []⟩) (weak_sub (.cons rfl rfl rfl (.cons rfl rfl rfl (.cons rfl rfl rfl .nil))) (.cons rfl rfl rfl (.cons rfl rfl rfl (.cons rfl rfl rfl .nil))) .nil) ?_
      repeat' (first | refine xthen_go ?_ | refine x_seq ?_ | refine x_ret ?_ | refine x_skip ?_ | refine x_block ?_ | refine x_exit ?_ | refine xblock_go ?_ | refine xblock_exit ?_ | refine xblock_far rfl ?_ | refine xblock_ret ?_ | refine xthen_ret ?_ | refine xthen_exit ?_ | refine xfam_ret ?_ | refine xfam_exit ?_ | refine XNorm.mk rfl ?_ | refine x_ct ?_ | refine x_cf ?_ | refine x_cond rfl (fun hc => ?_) (fun hc => ?_) | refine rq rfl (.cell1 rfl rfl (tyT rfl) (by first | exact .t _ | exact .own rfl (by rfl) | exact .nil _ | exact .emp _ | exact .fn _) (.cell1 rfl rfl (tyT rfl) (by first | exact .t _ | exact .own rfl (by rfl) | exact .nil _ | exact .emp _ | exact .fn _) (.cell1 rfl rfl (tyT rfl) (by first | exact .t _ | exact .own rfl (by rfl) | exact .nil _ | exact .emp _ | exact .fn _) .nil))) ?_)
      refine xret hpb (.inr rfl) rfl (.cell1 rfl rfl (tyT rfl) (.nil 1) (.cell1 rfl rfl (tyT rfl) (.t _) (.cell1 rfl rfl (tyT rfl) (.t _) .nil))) ?_
      rfl
  · exact RK_ex _
end Go.Proofs.YtpncekdhigappaaGreatDoor.Pth

/- The library's strings.Split at one byte: walks. -/
namespace Go.Proofs.YtpncekdhigappaaGreatDoor.Ro
set_option linter.unusedVariables false
set_option linter.unusedSimpArgs false
open Go.RowKit Mem Sim Opn Hd Str Pth Rq
theorem cnt_list (c : UInt8) (l : L8) : Lib.countByte l c = l.count c := rfl
theorem ext_cnt (s : ByteArray) (c : UInt8) (w : World) : (callFunc 160 [Value.string s, .int .u8 (c.toNat : Int)].toArray).run Tryz.prog w = .ok (.value (.int .i64 ((s.toList.count c : Nat) : Int))) w := by
  rw [run_callFunc_extern (e := Extern.BytealgCount.count) Tryz.func160 (by kernel_rfl) (by kernel_rfl) (by kernel_rfl) (by kernel_rfl)]
  have := Lib.run_countString (P := Tryz.prog) s (c.toNat : Int) w
  rw [u8_back, cnt_list, ← ByteArray.toList_eq] at this
  rw [show [Value.string s, .int .u8 (c.toNat : Int)].toArray = #[Value.string s, .int .u8 (c.toNat : Int)] from rfl, this]; rfl
set_option maxRecDepth 100000 in
theorem count_ (s : ByteArray) (c : UInt8) : PCalls Tryz.prog 133 [.v (.string s), .v (.string ⟨#[c]⟩)] (.v (.int .i64 ((s.toList.count c : Nat) : Int))) := by
  have z0 : decide ((((⟨#[c]⟩ : ByteArray).size : Nat) : Int) = 0) = false := rfl
  have z1 : decide ((((⟨#[c]⟩ : ByteArray).size : Nat) : Int) = 1) = true := rfl
  have z2 : 0 < (⟨#[c]⟩ : ByteArray).size := Nat.one_pos
  refine pcalls_of Tryz.func133 rfl rfl Tryz.ntmps133 rfl ?_
  repeat' (first | (refine rg 0 ?_; refine oAs ?_; refine oN ?_) | (refine rg 1 ?_; refine oMv ?_; (first | refine sp (po_ext (ext_cnt s c) rfl (ac (ac .nil))) ?_ | refine sp (po_len_str rfl rfl (tyR rfl)) ?_); refine oCm ?_; refine oN ?_) | (refine rg 3 ?_; refine oMv ?_; (first | refine sp (po_ext (ext_cnt s c) rfl (ac (ac .nil))) ?_ | refine sp (po_len_str rfl rfl (tyR rfl)) ?_); refine oCm ?_; refine oN ?_) | (refine rg 4 ?_; refine oMv ?_; refine oMv ?_; refine sp (po_index_str (k := 0) rfl rfl rfl (tyR rfl) (by rfl) (by assumption)) ?_; refine sp (po_ext (ext_cnt s c) rfl (ac (ac .nil))) ?_; refine oAs ?_; refine oN ?_) | refine gc ?_ | refine ct ?_ | refine cf ?_ | refine swp_cond rfl (fun hc => ?_) (fun hc => ?_) | refine rq rfl (rt .nil) ?_)
  rfl
theorem po_minN {P : Program} {bx : List (Nat × List A)} {ow : List (Nat × Own)} {o : Oper} {ρ : Operand → Option A} {x y : Operand} {ts : Array TypeId} {k : IntKind} {m n : Nat} (h : m ≤ n) (ho : o.op = .call { callee := .builtin .min, args := #[x, y], argTypes := ts }) (hx : ρ x = some (.t (.v (.int k (m : Int))))) (hy : ρ y = some (.t (.v (.int k (n : Int))))) : PureOp P bx ow o ρ (.t (.v (.int k (m : Int)))) := by
  have := po_min (P := P) (bx := bx) (ow := ow) ho hx hy
  rwa [show min (m : Int) (n : Int) = (m : Int) by omega] at this
/-- what is left behind k parts -/
def rst (c : UInt8) (l : L8) : Nat → L8
  | 0 => l
  | k + 1 => (rst c l k).drop ((rst c l k).findIdx (· == c) + 1)
theorem rst_spec (c : UInt8) (l : L8) : ∀ k, k ≤ l.count c → (splC c l).drop k = splC c (rst c l k) ∧ (rst c l k).count c = l.count c - k ∧ (rst c l k).length ≤ l.length
  | 0, _ => ⟨rfl, rfl, Nat.le_refl _⟩
  | k + 1, h => by
    obtain ⟨h1, h2, h3⟩ := rst_spec c l k (by omega)
    have h4 := count_pos (c := c) (l := rst c l k) (by omega)
    have h5 := splC_yes c _ h4
    have h6 := count_yes h4
    refine ⟨?_, ?_, ?_⟩
    · rw [← List.drop_drop, h1, h5]; rfl
    · show (List.drop _ _).count c = _; omega
    · show (List.drop _ _).length ≤ _; rw [List.length_drop]; omega
theorem spl_at {c : UInt8} {l : L8} {k : Nat} (h : k < l.count c) : (splC c l)[k]? = some ((rst c l k).take ((rst c l k).findIdx (· == c))) := by
  obtain ⟨h1, h2, _⟩ := rst_spec c l k (by omega)
  have h4 := count_pos (c := c) (l := rst c l k) (by omega)
  rw [splC_yes c _ h4] at h1
  have := congrArg (fun q => q[0]?) h1
  simpa using this
theorem spl_end (c : UInt8) (l : L8) : (splC c l)[l.count c]? = some (rst c l (l.count c)) := by
  obtain ⟨h1, h2, _⟩ := rst_spec c l _ (Nat.le_refl _)
  have h4 : ¬ (rst c l (l.count c)).findIdx (· == c) < (rst c l (l.count c)).length := fun h => by
    have := count_yes h; omega
  rw [splC_no c _ h4] at h1
  have := congrArg (fun q => q[0]?) h1
  simpa using this
/-- the row behind k parts -/
def rowsK (c : UInt8) (l : L8) (k : Nat) : List (List T) := ((splC c l).take k).map Pth.strT ++ List.replicate (l.count c + 1 - k) [T.v (.string ⟨#[]⟩)]
theorem rowsK_len {c : UInt8} {l : L8} {k : Nat} (h : k ≤ l.count c + 1) : (rowsK c l k).length = l.count c + 1 := by
  unfold rowsK
  rw [List.length_append, List.length_map, List.length_take, List.length_replicate, splC_len]; omega
theorem rowsK_at {c : UInt8} {l : L8} {k : Nat} (h : k < l.count c + 1) : (rowsK c l k)[k]? = some [T.v (.string ⟨#[]⟩)] := by
  unfold rowsK
  rw [List.getElem?_append_right (by rw [List.length_map, List.length_take, splC_len]; omega), List.length_map, List.length_take, splC_len, List.getElem?_replicate, if_pos (by omega)]
theorem rowsK_set {c : UInt8} {l : L8} {k : Nat} {p : L8} (h : k < l.count c + 1) (hp : (splC c l)[k]? = some p) : (rowsK c l k).set k (Pth.strT p) = rowsK c l (k + 1) := by
  unfold rowsK
  have hl : ((splC c l).take k).length = k := by rw [List.length_take, splC_len]; omega
  have hk : k < (splC c l).length := by rw [splC_len]; omega
  have e : (splC c l)[k] = p := by rw [List.getElem?_eq_getElem hk] at hp; injection hp
  rw [List.set_append_right _ _ (by rw [List.length_map, hl]; exact Nat.le_refl _), List.length_map, hl, Nat.sub_self, show l.count c + 1 - k = (l.count c + 1 - (k + 1)) + 1 by omega, List.replicate_succ, List.set_cons_zero, List.take_succ_eq_append_getElem hk, e]
  simp
theorem rowsK_full (c : UInt8) (l : L8) : rowsK c l (l.count c + 1) = (splC c l).map Pth.strT := by
  unfold rowsK
  rw [List.take_of_length_le (by rw [splC_len]; exact Nat.le_refl _), Nat.sub_self]; simp
theorem zStrO : (Tryz.prog.info? 9).bind (·.zero) = some (.string ⟨#[]⟩) := by kernel_rfl
theorem strEq {a b : ByteArray} (h : a = b) : A.t (T.v (Value.string a)) = A.t (T.v (Value.string b)) := by rw [h]
theorem own_eq {e : TypeId} {sz : Nat} {a b : List (List T)} (h : a = b) : (⟨e, sz, a⟩ : Own) = ⟨e, sz, b⟩ := by rw [h]
def GS (c : UInt8) (l : L8) (n : Nat) (k : Nat) : St := ⟨[(0, .t (.v (.string (bs (rst c l k))))), (1, .t (.v (.string ⟨#[c]⟩))), (2, .t (.v (.int .i64 0))), (3, .t (.v (.int .i64 (n : Int)))), (9, .own 1000 (n + 1)), (10, .t (.v (.int .i64 (k : Int))))], [], [(1000, ⟨9, 1, rowsK c l k⟩)]⟩
set_option maxRecDepth 100000 in
set_option maxHeartbeats 2000000 in
theorem genSplit_ (s : ByteArray) (c : UInt8) (hs : s.size ≤ 1000000) : PCalls Tryz.prog 101 [.v (.string s), .v (.string ⟨#[c]⟩), .v (.int .i64 0), .v (.int .i64 (-1))] (.sl 1 ((splC c s.toList).map Pth.strT)) := by
  have hl := toList_len s
  have z1 : decide ((⟨#[c]⟩ : ByteArray) = ⟨#[]⟩) = false := by simp
  have z2 : ((⟨#[c]⟩ : ByteArray).size : Nat) = 1 := rfl
  have hc := count_ s c
  have hle : s.toList.count c ≤ s.size := by have := List.count_le_length (a := c) (l := s.toList); omega
  have hmx : s.toList.count c + 1 ≤ maxLen := by unfold maxLen; omega
  refine pcalls_of Tryz.func101 rfl rfl Tryz.ntmps101 rfl ?_
  rw [← rowsK_full]
  have hrl : ∀ k, k ≤ s.toList.count c + 1 → s.toList.count c + 1 = (rowsK c s.toList k).length := fun k hk => (rowsK_len hk).symm
  have hr0 : rowsK c s.toList 0 = List.replicate (s.toList.count c + 1) [T.v (.string ⟨#[]⟩)] := by simp [rowsK]
  have hs0 : bs (rst c s.toList 0) = s := toList_bs s
  have hat : ∀ k, k < s.toList.count c → ((splC c s.toList)[k]? = some ((rst c s.toList k).take ((rst c s.toList k).findIdx (· == c))) ∧ (rst c s.toList k).findIdx (· == c) < (rst c s.toList k).length) := fun k hk => ⟨spl_at hk, by
    obtain ⟨_, h2, _⟩ := rst_spec c s.toList k (by omega)
    exact count_pos (by omega)⟩
  have hend := spl_end c s.toList
  have hlen : ∀ k, k ≤ s.toList.count c → (rst c s.toList k).length ≤ 1000000 := fun k hk => by
    obtain ⟨_, _, h3⟩ := rst_spec c s.toList k hk
    omega
  have hset : ∀ k p, k < s.toList.count c + 1 → (splC c s.toList)[k]? = some p → (rowsK c s.toList k).set k (Pth.strT p) = rowsK c s.toList (k + 1) := fun k p h1 h2 => rowsK_set h1 h2
  have hrow : ∀ k, k < s.toList.count c + 1 → (rowsK c s.toList k)[k]? = some [T.v (.string ⟨#[]⟩)] := fun k h => rowsK_at h
  repeat' (first | (refine rg 0 ?_; refine oAs ?_; refine oN ?_) | (refine rg 1 ?_; refine oMv ?_; refine oCm ?_; refine oN ?_) | (refine rg 3 ?_; refine oMv ?_; refine sp (po_str rfl rfl rfl rfl) ?_; refine oN ?_) | (refine rg 5 ?_; refine oMv ?_; refine oCm ?_; refine oN ?_) | (refine rg 6 ?_; refine oMv ?_; refine oMv ?_; (first | refine sp (po_minN (by omega) rfl rfl rfl) ?_ | refine oC (hc) rfl (ac (ac .nil)) ?_); refine sp (xinc rfl) ?_; refine oAs ?_; refine oN ?_) | (refine rg 7 ?_; refine oMv ?_; refine oMv ?_; (first | refine sp (po_minN (by omega) rfl rfl rfl) ?_ | refine sp (po_len_own rfl rfl (tyS rfl)) ?_ | refine sp (po_len_str rfl rfl (tyR rfl)) ?_); refine sp (xinc rfl) ?_; refine sp (po_minN (by omega) rfl rfl rfl) ?_; refine oAs ?_; refine oN ?_) | (refine rg 8 ?_; refine oMv ?_; refine sops_make 1000 (.free rfl rfl) rfl rfl rfl (tyE rfl) zStrO rfl rfl rfl rfl (by omega) (by omega) rfl ?_; refine oAs ?_; refine oN ?_) | (refine rg 9 ?_; refine oMv ?_; refine sp (po_dec rfl rfl rfl (by omega)) ?_; refine oAs ?_; refine oN ?_) | (refine rg 10 ?_; refine oAs ?_; refine oN ?_) | refine gc ?_ | refine ct ?_ | refine cf ?_ | refine swp_cond rfl (fun hc => ?_) (fun hc => ?_) | refine rq rfl (rt .nil) ?_)
  refine swp_for (GS c s.toList (s.toList.count c)) (fun _ => True) (s.toList.count c) ?_ trivial ?_
  · unfold GS
    rw [hr0, hs0]
    exact (weak_sub (.cons rfl rfl rfl (.cons rfl rfl rfl (.cons rfl rfl rfl (.cons rfl rfl rfl (.cons rfl rfl rfl (.cons rfl rfl rfl .nil)))))) .nil (.cons rfl rfl .nil))
  intro k hk _
  unfold GS
  by_cases hlt : k < s.toList.count c
  · obtain ⟨ha, hf⟩ := hat k hlt
    have hk1 := hset k _ (by omega) ha
    have hk2 := hrow k (by omega)
    have hk3 := hrl k (by omega)
    have hk4 := hlen k (by omega)
    have hi := index_ (bs (rst c s.toList k)) c
    have hf2 : fidx (bs (rst c s.toList k)) c = (rst c s.toList k).findIdx (· == c) := by unfold fidx; rw [bs_toList]
    have hbz := bs_size (rst c s.toList k)
    rw [idx_eq, hf2, if_pos (by rw [hbz]; exact hf)] at hi
    have hx1 : (bs (rst c s.toList k)).extract 0 ((rst c s.toList k).findIdx (· == c)) = bs ((rst c s.toList k).take ((rst c s.toList k).findIdx (· == c))) := by
      rw [bs_extract, List.drop_zero]
    have hx2 : (bs (rst c s.toList k)).extract ((rst c s.toList k).findIdx (· == c) + 1) (bs (rst c s.toList k)).size = bs (rst c s.toList (k + 1)) := by
      rw [bs_extract, hbz, List.take_length]; rfl
    have hk3' : (rowsK c s.toList k).set k (Pth.strT ((rst c s.toList k).take ((rst c s.toList k).findIdx (· == c)))) = rowsK c s.toList (k + 1) := hk1
    unfold Pth.strT at hk3'
    rw [← hx1] at hk3'
    generalize hj : (rst c s.toList k).findIdx (· == c) = j at *
    repeat' (first | refine for_next hlt (weak_sub (.cons rfl (by first | rfl | (exact strEq hx2)) rfl (.cons rfl (by rfl) rfl (.cons rfl (by rfl) rfl (.cons rfl (by rfl) rfl (.cons rfl (by rfl) rfl (.cons rfl (by rfl) rfl .nil)))))) .nil (.cons rfl (by first | rfl | (first | exact strEq hx2 | exact own_eq hk3')) .nil)) trivial | (refine rg 11 ?_; refine oMv ?_; refine oMv ?_; refine oCm ?_; refine oN ?_) | (refine rg 12 ?_; refine oMv ?_; refine oMv ?_; refine oC (hi) rfl (ac (ac .nil)) ?_; refine oAs ?_; refine oN ?_) | (refine rg 13 ?_; refine oMv ?_; refine oCm ?_; refine oN ?_) | (refine rg 14 ?_; refine oMv ?_; refine oMv ?_; refine oMv ?_; refine oMv ?_; refine oMv ?_; refine sp (po_arith (c := (j : Int)) rfl rfl rfl (ar_add (by refine wrap_i64 ?_; omega) (by omega))) ?_; (first | refine sp (po_slice_sfx rfl rfl rfl (by rfl) (tyS rfl) rfl (by omega) (by omega)) ?_ | refine sops_shrink (by rfl) (by rfl) (.free rfl rfl) rfl rfl rfl rfl rfl (by first | rfl | assumption | omega | (simp; done) | (simp; omega) | (simp at *; omega)) (tyS rfl) rfl (by omega) ?_ | refine sp (po_slice_str rfl rfl (tyR rfl) (by rfl) (by first | rfl | exact ⟨_, rfl⟩) (by omega) (by omega)) ?_); refine sp (ixo rfl) ?_; (first | refine oS ?_ | refine sso ?_); refine oN ?_) | (refine rg 15 ?_; refine oMv ?_; refine oMv ?_; refine oMv ?_; (first | refine sp (po_len_own rfl rfl (tyS rfl)) ?_ | refine sp (po_len_str rfl rfl (tyR rfl)) ?_); (first | refine sp (po_arith (c := (j : Int)) rfl rfl rfl (ar_add (by refine wrap_i64 ?_; omega) (by omega))) ?_ | refine sp (xinc rfl) ?_); (first | refine sp (po_slice_sfx rfl rfl rfl (by rfl) (tyS rfl) rfl (by omega) (by omega)) ?_ | refine sops_shrink (by rfl) (by rfl) (.free rfl rfl) rfl rfl rfl rfl rfl (by first | rfl | assumption | omega | (simp; done) | (simp; omega) | (simp at *; omega)) (tyS rfl) rfl (by omega) ?_ | refine sp (po_slice_str rfl rfl (tyR rfl) (by first | rfl | exact ⟨_, rfl⟩) (by rfl) (by omega) (by omega)) ?_); refine oAs ?_; refine oN ?_) | (refine rg 16 ?_; refine oMv ?_; (first | refine sp (po_arith (c := (j : Int)) rfl rfl rfl (ar_add (by refine wrap_i64 ?_; omega) (by omega))) ?_ | refine sp (xinc rfl) ?_); refine oAs ?_; refine oN ?_) | refine gc ?_ | refine ct ?_ | refine cf ?_)
  · have hkn : k = s.toList.count c := by omega
    subst hkn
    have hk1 := hset _ _ (by omega) hend
    have hk2 := hrow (s.toList.count c) (by omega)
    have hk3 := hrl (s.toList.count c) (by omega)
    repeat' (first | refine then_go ?_ | refine swp_seq ?_ | refine swp_ret_weak (weak_show 1000 100 rfl rfl rfl rfl) ?_ | (refine rg 11 ?_; refine oMv ?_; refine oMv ?_; refine oCm ?_; refine oN ?_) | (refine rg 17 ?_; refine oMv ?_; refine oMv ?_; refine oMv ?_; refine sp (ixo rfl) ?_; (first | refine oS ?_ | refine sso ?_); refine oN ?_) | (refine rg 18 ?_; refine oMv ?_; refine oMv ?_; refine sp (xinc rfl) ?_; (first | refine sp (po_slice_sfx rfl rfl rfl (by rfl) (tyS rfl) rfl (by omega) (by omega)) ?_ | refine sops_shrink (by rfl) (by rfl) (.free rfl rfl) rfl rfl rfl rfl rfl (by first | rfl | assumption | omega | (simp; done) | (simp; omega)) (tyS rfl) rfl (by omega) ?_); refine oAs ?_; refine oN ?_) | refine swp_ret ?_ | refine swp_skip ?_ | refine swp_block ?_ | refine swp_exit ?_ | refine block_go ?_ | refine block_exit ?_ | refine block_far rfl ?_ | refine block_ret ?_ | refine then_ret ?_ | refine then_exit ?_ | refine for_ret ?_ | refine for_exit ?_ | refine ct ?_ | refine cf ?_ | refine swp_cond rfl (fun hc => ?_) (fun hc => ?_) | refine rq rfl (rt .nil) ?_)
    show T.sl 1 _ = T.sl 1 (List.take _ (List.set _ _ (Pth.strT _)))
    rw [hk1, List.take_of_length_le (by rw [← hrl (s.toList.count c + 1) (Nat.le_refl _)]; exact Nat.le_refl _)]
end Go.Proofs.YtpncekdhigappaaGreatDoor.Ro
