/- Merged by bundles.py: SimPath3. -/
import Derived.Test.YtpncekdhigappaaGreatDoorT28
import Derived.Test.YtpncekdhigappaaGreatDoorT29
/- Targets: segments, by a range over a function: walks. -/
namespace Go.Proofs.YtpncekdhigappaaGreatDoor.Pth
set_option linter.unusedVariables false
set_option linter.unusedSimpArgs false
open Go.RowKit Mem Sim Opn Str
def strT (s : L8) : List T := [.v (.string (bs s))]
abbrev SB (s sep : ByteArray) : List (Nat × List A) := [(3, [.t (.v (.string s))]), (4, [.t (.v (.string sep))]), (5, [.t (.v (.int .i64 0))])]
abbrev SCl : A := .cl 182 [.bp 4 0, .bp 3 0, .bp 5 0]
set_option maxRecDepth 100000 in
theorem splitSeq_ (s sep : ByteArray) : LCalls Tryz.prog 174 [.t (.v (.string s)), .t (.v (.string sep)), .t (.v (.int .i64 0))] [] [] SCl (SB s sep) [] := by
  refine lcalls_of Tryz.func174 rfl rfl Tryz.ntmps174 rfl ?_
  repeat' (first | (refine rg 0 ?_; refine sbx ?_; refine sbx ?_; refine sbx ?_; refine oAs ?_; refine oN ?_) | (refine rg 1 ?_; (first | refine sp (po_func rfl (ac (ac (ac .nil)))) ?_ | refine sp (po_func_cl rfl (.cons rfl rfl (.cons rfl rfl (.cons rfl rfl .nil)))) ?_); refine oAs ?_; refine oN ?_) | refine gc ?_ | refine ct ?_ | refine cf ?_ | refine swp_cond rfl (fun hc => ?_) (fun hc => ?_) | refine retl (by exact .inr rfl) rfl (.tmp rfl rfl .nil) ?_ rfl (.cons rfl (by rfl) rfl (.cons rfl (by rfl) rfl (.cons rfl (by rfl) rfl .nil))) .nil)
  all_goals rfl
set_option maxRecDepth 100000 in
theorem SplitSeq_ (s sep : ByteArray) : LCalls Tryz.prog 165 [.t (.v (.string s)), .t (.v (.string sep))] [] [] SCl (SB s sep) [] := by
  have c1 := splitSeq_ s sep
  refine lcalls_of Tryz.func165 rfl rfl Tryz.ntmps165 rfl ?_
  repeat' (first | (refine rg 0 ?_; refine oAs ?_; refine oN ?_) | (refine rg 1 ?_; refine oMv ?_; refine oMv ?_; refine sops_lcall (c1) (fun i => i) (fun i => i) (fun _ => false) (.free rfl rfl) rfl rfl rfl (by ((repeat' (first | exact .nil | refine .cons rfl rfl rfl ?_)) <;> fail)) .nil .nil rfl rfl (fun _ h => Bool.noConfusion h) ?_; refine oAs ?_; refine oN ?_) | refine gc ?_ | refine ct ?_ | refine cf ?_ | refine swp_cond rfl (fun hc => ?_) (fun hc => ?_) | refine retl (by exact .inr rfl) rfl (.tmp rfl rfl .nil) ?_ rfl (.cons rfl (by rfl) rfl (.cons rfl (by rfl) rfl (.cons rfl (by rfl) rfl .nil))) .nil)
  all_goals rfl
set_option maxRecDepth 100000 in
theorem segments_ (s : ByteArray) (h0 : 1 ≤ s.size) : LCalls Tryz.prog 145 [.t (.v (.string s))] [] [] SCl (SB (s.extract 1 s.size) ⟨#[47]⟩) [] := by
  have c1 := SplitSeq_ (s.extract 1 s.size) ⟨#[47]⟩
  refine lcalls_of Tryz.func145 rfl rfl Tryz.ntmps145 rfl ?_
  repeat' (first | (refine rg 0 ?_; refine oAs ?_; refine oN ?_) | (refine rg 1 ?_; refine oMv ?_; (first | refine sp (po_slice_sfx rfl rfl rfl (by rfl) (tyS rfl) rfl (by omega) (by omega)) ?_ | refine sops_shrink (by rfl) (by rfl) (.free rfl rfl) rfl rfl rfl rfl rfl (by first | rfl | assumption | omega | (simp; done) | (simp; omega) | (simp at *; omega)) (tyS rfl) rfl (by omega) ?_ | refine sp (po_slice_str (l := 1) rfl rfl (tyR rfl) (by first | rfl | exact ⟨_, rfl⟩) (by rfl) (by omega) (by omega)) ?_); refine sops_lcall (c1) (fun i => i) (fun i => i) (fun _ => false) (.free rfl rfl) rfl rfl rfl (by ((repeat' (first | exact .nil | refine .cons rfl rfl rfl ?_)) <;> fail)) .nil .nil rfl rfl (fun _ h => Bool.noConfusion h) ?_; refine oAs ?_; refine oN ?_) | refine gc ?_ | refine ct ?_ | refine cf ?_ | refine swp_cond rfl (fun hc => ?_) (fun hc => ?_) | refine retl (by exact .inr rfl) rfl (.tmp rfl rfl .nil) ?_ rfl (.cons rfl (by rfl) rfl (.cons rfl (by rfl) rfl (.cons rfl (by rfl) rfl .nil))) .nil)
  all_goals rfl
set_option maxRecDepth 100000 in
theorem index_ (s : ByteArray) (c : UInt8) : PCalls Tryz.prog 104 [.v (.string s), .v (.string ⟨#[c]⟩)] (.v (.int .i64 (Lib.indexByte s.data.toList c))) := by
  have hI := index1_ s c
  refine pcalls_of Tryz.func104 rfl rfl Tryz.ntmps104 rfl ?_
  repeat' (first | (refine rg 0 ?_; refine oAs ?_; refine oN ?_) | (refine rg 1 ?_; refine oMv ?_; refine oMv ?_; refine oC (hI) rfl (ac (ac .nil)) ?_; refine oAs ?_; refine oN ?_) | refine gc ?_ | refine ct ?_ | refine cf ?_ | refine swp_cond rfl (fun hc => ?_) (fun hc => ?_) | refine rq rfl (rt .nil) ?_)
  rfl
def BX (rem : ByteArray) (left : List L8) (dir : Bool) : List (Nat × List A) := [(2000, [.t (.v (.string ⟨#[47]⟩))]), (2001, [.t (.v (.string rem))]), (2002, [.t (.v (.int .i64 0))]), (2003, [.own 1001 (left.map strT).length]), (2004, [.t (.v (.bool dir))]), (2005, [.t (.v (.bool false))])]
def BF (rem : ByteArray) : List (Nat × List A) := [(2000, [.t (.v (.string ⟨#[47]⟩))]), (2001, [.t (.v (.string rem))]), (2002, [.t (.v (.int .i64 0))]), (2003, [.t (.v (.slice none 0 0))]), (2004, [.t (.v (.bool false))]), (2005, [.t (.v (.bool false))])]
def OW (left : List L8) : List (Nat × Own) := [(1001, ⟨9, 1, left.map strT⟩)]
/-- one round -/
def R1 (rem : ByteArray) (left : List L8) (seg : L8) (c : Option Code) (bx1 : List (Nat × List A)) (ow1 : List (Nat × Own)) : Prop := match keep1 left seg with
  | some left' => c = none ∧ bx1 = BX rem left' (dotB seg) ∧ ow1 = OW left'
  | none => c = some .ret ∧ bx1 = BF rem ∧ ow1 = []
/-- all rounds -/
def RK (s : L8) (c : Option Code) (bx1 : List (Nat × List A)) (ow1 : List (Nat × Own)) : Prop := match keptF [] false (splL s) with
  | some (left, dir) => c = none ∧ ow1 = OW left ∧ ∃ rem, bx1 = BX rem left dir
  | none => c = some .ret ∧ ow1 = [] ∧ ∃ rem, bx1 = BF rem
abbrev tmK : List (Nat × A) := [(2, .bp 2003 0), (3, .bp 2004 0), (4, .bp 2005 0)]
structure SX where
  left : List L8
  dir : Bool
  rem : L8
def SSt (l : Nat) (x : SX) : St := ⟨[(0, .t (.v (.func (.yield l) #[] #[]))), (1, .bp 2000 0), (2, .bp 2001 0), (3, .bp 2002 0)], BX (bs x.rem) x.left x.dir, OW x.left⟩
theorem keep1_len {l l' : List L8} {s : L8} (h : keep1 l s = some l') : l'.length ≤ l.length + 1 := by
  unfold keep1 at h
  split at h
  · split at h
    · cases h
    · injection h with h; subst h; rw [List.length_dropLast]; omega
  · split at h
    · injection h with h; subst h; omega
    · injection h with h; subst h; simp
theorem bx_some (rem : ByteArray) (left : List L8) (dir : Bool) (i : Nat) : (Sim.get (BX rem left dir) i).isSome = (Nat.beq 2000 i || Nat.beq 2001 i || Nat.beq 2002 i || Nat.beq 2003 i || Nat.beq 2004 i || Nat.beq 2005 i) := by
  unfold BX
  simp only [Sim.get]
  cases Nat.beq 2000 i <;> cases Nat.beq 2001 i <;> cases Nat.beq 2002 i <;> cases Nat.beq 2003 i <;> cases Nat.beq 2004 i <;> cases Nat.beq 2005 i <;> rfl
theorem bf_some (rem : ByteArray) (i : Nat) : (Sim.get (BF rem) i).isSome = (Nat.beq 2000 i || Nat.beq 2001 i || Nat.beq 2002 i || Nat.beq 2003 i || Nat.beq 2004 i || Nat.beq 2005 i) := by
  unfold BF
  simp only [Sim.get]
  cases Nat.beq 2000 i <;> cases Nat.beq 2001 i <;> cases Nat.beq 2002 i <;> cases Nat.beq 2003 i <;> cases Nat.beq 2004 i <;> cases Nat.beq 2005 i <;> rfl
theorem ow_get {left : List L8} {i : Nat} {o : Own} (h : Sim.get (OW left) i = some o) : i = 1001 := by
  unfold OW at h
  simp only [Sim.get] at h
  cases hb : Nat.beq 1001 i with
  | true => exact (Nat.eq_of_beq_eq_true hb).symm
  | false => rw [hb] at h; cases h
theorem R1_dom {rem rem0 : ByteArray} {left : List L8} {seg : L8} {dir : Bool} {c : Option Code} {bx1 : List (Nat × List A)} {ow1 : List (Nat × Own)} (h : R1 rem left seg c bx1 ow1) : (∀ i, (Sim.get (BX rem0 left dir) i).isSome = (Sim.get bx1 i).isSome) ∧ ∀ i o, Sim.get ow1 i = some o → Nat.ble 2000 i = true → ∃ o', Sim.get (OW left) i = some o' := by
  unfold R1 at h
  split at h
  · obtain ⟨-, rfl, rfl⟩ := h
    refine ⟨fun i => by rw [bx_some, bx_some], fun i o h1 h2 => ?_⟩
    rw [ow_get h1] at h2; cases h2
  · obtain ⟨-, rfl, rfl⟩ := h
    refine ⟨fun i => by rw [bx_some, bf_some], fun i o h1 h2 => ?_⟩
    cases h1
theorem tmK_at (left : List L8) (rem : ByteArray) (dir : Bool) : ∀ s i off, Sim.get tmK s = some (.bp i off) → (Sim.get (BX rem left dir) i).isSome = true := by
  intro s i off h
  simp only [Sim.get, tmK] at h
  cases h2 : Nat.beq 2 s <;> cases h3 : Nat.beq 3 s <;> cases h4 : Nat.beq 4 s <;> simp only [h2, h3, h4, cond_true, cond_false] at h <;> first | (cases h; done) | (injection h with h; injection h with h5 h6; subst h5; rw [bx_some]; rfl)
theorem hid_OW {left : List L8} : ∀ i o, Sim.get (OW left) i = some o → hid i = true := fun i o h => by rw [ow_get h]; rfl
set_option maxRecDepth 100000 in
set_option maxHeartbeats 1000000 in
theorem icSplit {assign body : Code} {s : L8} (hs : s.length ≤ 1000)
    (hA : ∀ (l : Nat) (bx : List (Nat × List A)) (ow : List (Nat × Own)) (t : T) p, XWp Tryz.prog (some l) 52 assign (AsgQ ⟨(5, .t t) :: (8, .t t) :: tmK, bx, ow⟩ p) p ⟨(8, .t t) :: tmK, bx, ow⟩)
    (hB : ∀ (l : Nat) (rem : ByteArray) (left : List L8) (dir : Bool) (seg : L8) p, left.length ≤ 1000 → XWp Tryz.prog (some l) 52 body (BodyQ (R1 rem left seg) p) p ⟨(5, .t (.v (.string (bs seg)))) :: (8, .t (.v (.string (bs seg)))) :: tmK, BX rem left dir, OW left⟩) :
    ICalls Tryz.prog 182 [.bp 2000 0, .bp 2001 0, .bp 2002 0] 52 tmK #[8] assign body (BX (bs s) [] false) (OW []) (RK s) := by
  refine icalls_of Tryz.func182 rfl rfl rfl Tryz.ntmps182 rfl fun C l r hc => ?_
  repeat' (first | refine xthen_go ?_ | refine x_seq ?_ | (refine x_region (id := 0) ?_; refine oLb ?_; (first | refine sp (po_len_own rfl rfl (tyS rfl)) ?_ | refine sp (po_len_str rfl rfl (tyR rfl)) ?_); refine oCm ?_; refine oN ?_) | refine x_ret ?_ | refine x_skip ?_ | refine x_block ?_ | refine x_exit ?_ | refine xblock_go ?_ | refine xblock_exit ?_ | refine xblock_far rfl ?_ | refine xblock_ret ?_ | refine xthen_ret ?_ | refine xthen_exit ?_ | refine xfam_ret ?_ | refine xfam_exit ?_ | refine XNorm.mk rfl ?_ | refine x_ct ?_ | refine x_cf ?_ | refine x_cond rfl (fun hc => ?_) (fun hc => ?_) | refine rq rfl .nil ?_)
  refine x_fam (SSt l) (fun x => x.left.length + x.rem.length ≤ 1000 ∧ keptF x.left x.dir (splL x.rem) = keptF [] false (splL s)) (fun x => x.rem.length) ⟨[], false, s⟩ (weak_sub (.cons rfl rfl rfl (.cons rfl rfl rfl (.cons rfl rfl rfl (.cons rfl rfl rfl .nil)))) (.cons rfl rfl rfl (.cons rfl rfl rfl (.cons rfl rfl rfl (.cons rfl rfl rfl (.cons rfl rfl rfl (.cons rfl rfl rfl .nil)))))) (.cons rfl rfl .nil)) ⟨by simpa using hs, rfl⟩ ?_
  rintro ⟨left, dir, rem⟩ ⟨h1, h2⟩
  unfold SSt
  dsimp only at h1 h2 ⊢
  have c1 := index_ (bs rem) 47
  rw [idx_eq] at c1
  have e1 : fidx (bs rem) 47 = rem.findIdx (· == 47) := by unfold fidx; rw [bs_toList]
  rw [e1, bs_size] at c1
  have hsz : (bs rem).size = rem.length := bs_size rem
  by_cases hlt : rem.findIdx (· == 47) < rem.length
  · rw [if_pos hlt] at c1
    have e2 := splL_yes rem hlt
    generalize rem.findIdx (· == 47) = n at *
    have e3 : (bs rem).extract 0 n = bs (rem.take n) := ext_bs rem 0 n
    have e4 : (bs rem).extract (n + 1) (bs rem).size = bs (rem.drop (n + 1)) := by rw [ext_bs, hsz, List.take_length]
    have hn9 : (n : Int) ≤ 1000 := by omega
    repeat' (first | refine xthen_go ?_ | refine x_seq ?_ | (refine x_region (id := 5) ?_; refine oLb ?_; refine oLb ?_; refine oC (c1) rfl (ac (ac .nil)) ?_; refine oAs ?_; refine oN ?_) | (refine x_region (id := 6) ?_; refine oMv ?_; refine oCm ?_; refine oN ?_) | (refine x_region (id := 7) ?_; refine oLb ?_; refine oMv ?_; refine oLb ?_; (refine sp (po_arith (c := (n : Int)) rfl rfl rfl (ar_add (wrap_i64 (by omega)) (by simp))) ?_); refine sp (po_slice_str (l := 0) (h' := n) rfl rfl (tyR rfl) rfl ⟨_, rfl⟩ (by omega) (by omega)) ?_; refine oAs ?_; refine oN ?_) | refine x_ret ?_ | refine x_skip ?_ | refine x_block ?_ | refine x_exit ?_ | refine xblock_go ?_ | refine xblock_exit ?_ | refine xblock_far rfl ?_ | refine xblock_ret ?_ | refine xthen_ret ?_ | refine xthen_exit ?_ | refine xfam_ret ?_ | refine xfam_exit ?_ | refine XNorm.mk rfl ?_ | refine x_ct ?_ | refine x_cf ?_ | refine x_cond rfl (fun hc => ?_) (fun hc => ?_) | refine rq rfl .nil ?_)
    rw [e3]
    refine x_ops ?_
    refine x_one ?_ rfl
    refine oMv ?_
    refine oN ⟨rfl, ?_⟩
    refine x_one ?_ rfl
    refine oMv ?_
    refine oN ⟨rfl, ?_⟩
    refine x_yield (R1 (bs rem) left (rem.take n)) rfl rfl rfl rfl rfl rfl rfl hid_OW hc.at_ hc.gv hc.st hc.pe (by rw [hc.ps]; rfl) (hc.round (by decide) (tmK_at _ _ _) rfl) (fun p => by rw [hc.as_]; exact hA _ _ _ _ _) ⟨rfl, rfl⟩ (fun p => by rw [hc.bo]; exact hB _ _ _ _ _ _ (by omega)) (fun c bx1 ow1 => R1_dom) (fun bx1 ow1 hR => ?_) (fun c bx1 ow1 hR => ?_)
    · unfold R1 at hR
      have hk := e2
      cases hq : keep1 left (rem.take n) with
      | none => rw [hq] at hR; cases hR.1
      | some left' =>
        rw [hq] at hR
        obtain ⟨-, rfl, rfl⟩ := hR
        have hkl := keep1_len hq
        refine x_one ?_ rfl
        refine sp (po_not rfl rfl) ?_
        refine oN ⟨rfl, ?_⟩
        refine x_nil ?_
        unfold BX
        have h3 : keptF left' (dotB (rem.take n)) (splL (rem.drop (n + 1))) = keptF [] false (splL s) := by rw [← h2, e2]; simp only [keptF, hq]
        have h4 : left'.length + (rem.drop (n + 1)).length ≤ 1000 := by rw [List.length_drop]; omega
        have h5 : (rem.drop (n + 1)).length < rem.length := by rw [List.length_drop]; omega
        repeat' (first | refine xthen_go ?_ | refine x_seq ?_ | refine xfam_next ⟨left', dotB (rem.take n), rem.drop (n + 1)⟩ h5 (weak_sub (.cons rfl (by rfl) rfl (.cons rfl (by rfl) rfl (.cons rfl (by rfl) rfl (.cons rfl (by rfl) rfl .nil)))) (.cons rfl (by rfl) rfl (.cons rfl (by first | rfl | ((dsimp only; rw [← e4]; rfl))) rfl (.cons rfl (by rfl) rfl (.cons rfl (by rfl) rfl (.cons rfl (by rfl) rfl (.cons rfl (by rfl) rfl .nil)))))) (.cons rfl (by rfl) .nil)) ⟨h4, h3⟩ | (refine x_region (id := 9) ?_; refine oLb ?_; refine oMv ?_; refine oLb ?_; (first | refine sp (po_len_own rfl rfl (tyS rfl)) ?_ | refine sp (po_len_str rfl rfl (tyR rfl)) ?_); (refine sp (po_arith (c := ((n + 1 : Nat) : Int)) rfl rfl rfl (ar_add (wrap_i64 (by omega)) (by rfl))) ?_); (first | refine sp (po_slice_sfx rfl rfl rfl (by rfl) (tyS rfl) rfl (by omega) (by omega)) ?_ | refine sops_shrink (by rfl) (by rfl) (.free rfl rfl) rfl rfl rfl rfl rfl (by first | rfl | assumption | omega | (simp; done) | (simp; omega) | (simp at *; omega)) (tyS rfl) rfl (by omega) ?_ | refine sp (po_slice_str rfl rfl (tyR rfl) (by first | rfl | exact ⟨_, rfl⟩) (by rfl) (by omega) (by omega)) ?_); refine oS ?_; refine oN ?_) | refine x_ret ?_ | refine x_skip ?_ | refine x_block ?_ | refine x_exit ?_ | refine xblock_go ?_ | refine xblock_exit ?_ | refine xblock_far rfl ?_ | refine xblock_ret ?_ | refine xthen_ret ?_ | refine xthen_exit ?_ | refine xfam_ret ?_ | refine xfam_exit ?_ | refine XNorm.mk rfl ?_ | refine x_ct ?_ | refine x_cf ?_)
    · unfold R1 at hR
      cases hq : keep1 left (rem.take n) with
      | some left' => rw [hq] at hR; cases hR.1
      | none =>
        rw [hq] at hR
        obtain ⟨hcc, rfl, rfl⟩ := hR
        injection hcc with hcc
        subst hcc
        have h3 : RK s (some .ret) (BF (bs rem)) [] := by unfold RK; rw [← h2, e2]; simp only [keptF, hq]; exact ⟨trivial, trivial, _, rfl⟩
        refine x_one ?_ rfl
        refine sp (po_not rfl rfl) ?_
        refine oN ⟨rfl, ?_⟩
        refine x_nil ?_
        unfold BF at *
        repeat' (first | refine xthen_go ?_ | refine x_seq ?_ | refine x_ret ?_ | refine x_skip ?_ | refine x_block ?_ | refine x_exit ?_ | refine xblock_go ?_ | refine xblock_exit ?_ | refine xblock_far rfl ?_ | refine xblock_ret ?_ | refine xthen_ret ?_ | refine xthen_exit ?_ | refine xfam_ret ?_ | refine xfam_exit ?_ | refine XNorm.mk rfl ?_ | refine x_ct ?_ | refine x_cf ?_ | refine x_cond rfl (fun hc => ?_) (fun hc => ?_) | refine rq rfl .nil ?_)
        exact ⟨.inr rfl, _, _, _, rfl, .cons rfl rfl rfl (.cons rfl rfl rfl (.cons rfl rfl rfl (.cons rfl rfl rfl (.cons rfl rfl rfl (.cons rfl rfl rfl .nil))))), .nil, h3⟩
  · rw [if_neg hlt] at c1
    have e2 := splL_no rem hlt
    repeat' (first | refine xthen_go ?_ | refine x_seq ?_ | (refine x_region (id := 5) ?_; refine oLb ?_; refine oLb ?_; refine oC (c1) rfl (ac (ac .nil)) ?_; refine oAs ?_; refine oN ?_) | (refine x_region (id := 6) ?_; refine oMv ?_; refine oCm ?_; refine oN ?_) | refine x_ret ?_ | refine x_skip ?_ | refine x_block ?_ | refine x_exit ?_ | refine xblock_go ?_ | refine xblock_exit ?_ | refine xblock_far rfl ?_ | refine xblock_ret ?_ | refine xthen_ret ?_ | refine xthen_exit ?_ | refine xfam_ret ?_ | refine xfam_exit ?_ | refine XNorm.mk rfl ?_ | refine x_ct ?_ | refine x_cf ?_ | refine x_cond rfl (fun hc => ?_) (fun hc => ?_) | refine rq rfl .nil ?_)
    refine x_ops ?_
    refine x_one ?_ rfl
    refine oMv ?_
    refine oN ⟨rfl, ?_⟩
    refine x_one ?_ rfl
    refine oLb ?_
    refine oN ⟨rfl, ?_⟩
    refine x_yield (R1 (bs rem) left rem) rfl rfl rfl rfl rfl rfl rfl hid_OW hc.at_ hc.gv hc.st hc.pe (by rw [hc.ps]; rfl) (hc.round (by decide) (tmK_at _ _ _) rfl) (fun p => by rw [hc.as_]; exact hA _ _ _ _ _) ⟨rfl, rfl⟩ (fun p => by rw [hc.bo]; exact hB _ _ _ _ _ _ (by omega)) (fun c bx1 ow1 => R1_dom) (fun bx1 ow1 hR => ?_) (fun c bx1 ow1 hR => ?_)
    · unfold R1 at hR
      cases hq : keep1 left rem with
      | none => rw [hq] at hR; cases hR.1
      | some left' =>
        rw [hq] at hR
        obtain ⟨-, rfl, rfl⟩ := hR
        have h3 : RK s none (BX (bs rem) left' (dotB rem)) (OW left') := by unfold RK; rw [← h2, e2]; simp only [keptF, hq]; exact ⟨trivial, trivial, _, rfl⟩
        refine x_nil ?_
        unfold BX OW at *
        have hcs : recC C l (.loop (recE r none)) = C := recC_self hc.at_
        exact ⟨.inl rfl, _, _, _, by rw [hcs], .cons rfl rfl rfl (.cons rfl rfl rfl (.cons rfl rfl rfl (.cons rfl rfl rfl (.cons rfl rfl rfl (.cons rfl rfl rfl .nil))))), .cons rfl rfl .nil, h3⟩
    · unfold R1 at hR
      cases hq : keep1 left rem with
      | some left' => rw [hq] at hR; cases hR.1
      | none =>
        rw [hq] at hR
        obtain ⟨hcc, rfl, rfl⟩ := hR
        injection hcc with hcc
        subst hcc
        have h3 : RK s (some .ret) (BF (bs rem)) [] := by unfold RK; rw [← h2, e2]; simp only [keptF, hq]; exact ⟨trivial, trivial, _, rfl⟩
        refine x_nil ?_
        unfold BF at *
        exact ⟨.inl rfl, _, _, _, rfl, .cons rfl rfl rfl (.cons rfl rfl rfl (.cons rfl rfl rfl (.cons rfl rfl rfl (.cons rfl rfl rfl (.cons rfl rfl rfl .nil))))), .nil, h3⟩
end Go.Proofs.YtpncekdhigappaaGreatDoor.Pth
