/- Merged by bundles.py: SimPath3, SimPath4. -/
import Derived.Test.YtloippgblkoemaaGreatDoorB21
import Derived.Test.YtloippgblkoemaaGreatDoorB22
import Derived.Test.YtloippgblkoemaaGreatDoorB13
/- Targets: segments, by a range over a function: walks. -/
namespace Go.Proofs.YtloippgblkoemaaGreatDoor.Pth
set_option linter.unusedVariables false
set_option linter.unusedSimpArgs false
open Go.RowKit Mem Sim Opn Str
def strT (s : L8) : List T := [.v (.string (bs s))]
abbrev SB (s sep : ByteArray) : List (Nat × List A) := [(3, [.t (.v (.string s))]), (4, [.t (.v (.string sep))]), (5, [.t (.v (.int .i64 0))])]
abbrev SCl : A := .cl 155 [.bp 4 0, .bp 3 0, .bp 5 0]
set_option maxRecDepth 100000 in
theorem splitSeq_ (s sep : ByteArray) : LCalls Tryz.prog 147 [.t (.v (.string s)), .t (.v (.string sep)), .t (.v (.int .i64 0))] [] [] SCl (SB s sep) [] := by
  refine lcalls_of Tryz.func147 rfl rfl Tryz.ntmps147 rfl ?_
  repeat' (first | (refine rg 0 ?_; refine sbx ?_; refine sbx ?_; refine sbx ?_; refine oAs ?_; refine oN ?_) | (refine rg 1 ?_; (first | refine sp (po_func rfl (ac (ac (ac .nil)))) ?_ | refine sp (po_func_cl rfl (.cons rfl rfl (.cons rfl rfl (.cons rfl rfl .nil)))) ?_); refine oAs ?_; refine oN ?_) | refine gc ?_ | refine ct ?_ | refine cf ?_ | refine sc ?_ ?_ <;> intro hc | refine retl (by exact .inr rfl) rfl (.tmp rfl rfl .nil) ?_ rfl (.cons rfl (by rfl) rfl (.cons rfl (by rfl) rfl (.cons rfl (by rfl) rfl .nil))) .nil)
  all_goals rfl
set_option maxRecDepth 100000 in
theorem SplitSeq_ (s sep : ByteArray) : LCalls Tryz.prog 142 [.t (.v (.string s)), .t (.v (.string sep))] [] [] SCl (SB s sep) [] := by
  have c1 := splitSeq_ s sep
  refine lcalls_of Tryz.func142 rfl rfl Tryz.ntmps142 rfl ?_
  repeat' (first | refine rg 0 (aq0 ?_) | (refine rg 1 (aq15 ?_); refine sops_lcall (c1) (fun i => i) (fun i => i) (fun _ => false) (.free rfl rfl) rfl rfl rfl (by ((repeat' (first | exact .nil | refine .cons rfl rfl rfl ?_)) <;> fail)) .nil .nil rfl rfl (fun _ h => Bool.noConfusion h) ?_; refine aq0 ?_) | refine gc ?_ | refine ct ?_ | refine cf ?_ | refine sc ?_ ?_ <;> intro hc | refine retl (by exact .inr rfl) rfl (.tmp rfl rfl .nil) ?_ rfl (.cons rfl (by rfl) rfl (.cons rfl (by rfl) rfl (.cons rfl (by rfl) rfl .nil))) .nil)
  all_goals rfl
set_option maxRecDepth 100000 in
theorem segments_ (s : ByteArray) (h0 : 1 ≤ s.size) : LCalls Tryz.prog 124 [.t (.v (.string s))] [] [] SCl (SB (s.extract 1 s.size) ⟨#[47]⟩) [] := by
  have c1 := SplitSeq_ (s.extract 1 s.size) ⟨#[47]⟩
  refine lcalls_of Tryz.func124 rfl rfl Tryz.ntmps124 rfl ?_
  repeat' (first | refine rg 0 (aq0 ?_) | (refine rg 1 ?_; refine oMv ?_; (first | refine sp (po_slice_sfx rfl rfl rfl (by rfl) (tyS rfl) rfl (by omega) (by omega)) ?_ | refine sops_shrink (by rfl) (by rfl) (.free rfl rfl) rfl rfl rfl rfl rfl (by first | rfl | assumption | omega | (simp; done) | (simp; omega) | (simp at *; omega)) (tyS rfl) rfl (by omega) ?_ | refine sp (po_slice_str (l := 1) rfl rfl (tyR rfl) (by first | rfl | exact ⟨_, rfl⟩) (by rfl) (by omega) (by omega)) ?_); refine sops_lcall (c1) (fun i => i) (fun i => i) (fun _ => false) (.free rfl rfl) rfl rfl rfl (by ((repeat' (first | exact .nil | refine .cons rfl rfl rfl ?_)) <;> fail)) .nil .nil rfl rfl (fun _ h => Bool.noConfusion h) ?_; refine aq0 ?_) | refine gc ?_ | refine ct ?_ | refine cf ?_ | refine sc ?_ ?_ <;> intro hc | refine retl (by exact .inr rfl) rfl (.tmp rfl rfl .nil) ?_ rfl (.cons rfl (by rfl) rfl (.cons rfl (by rfl) rfl (.cons rfl (by rfl) rfl .nil))) .nil)
  all_goals rfl
set_option maxRecDepth 100000 in
theorem index_ (s : ByteArray) (c : UInt8) : PCalls Tryz.prog 89 [.v (.string s), .v (.string ⟨#[c]⟩)] (.v (.int .i64 (Lib.indexByte s.data.toList c))) := by
  have hI := index1_ s c
  refine pcalls_of Tryz.func89 rfl rfl Tryz.ntmps89 rfl ?_
  repeat' (first | refine rg 0 (aq0 ?_) | (refine rg 1 (aq15 ?_); refine oC (hI) rfl (ac (ac .nil)) ?_; refine aq0 ?_) | refine gc ?_ | refine ct ?_ | refine cf ?_ | refine sc ?_ ?_ <;> intro hc | refine rq rfl (rt .nil) ?_)
  rfl
def BX (rem : ByteArray) (left : List L8) (dir : Bool) : List (Nat × List A) := [(2000, [.t (.v (.string ⟨#[47]⟩))]), (2001, [.t (.v (.string rem))]), (2002, [.t (.v (.int .i64 0))]), (2003, [.own 1001 (left.map strT).length]), (2004, [.t (.v (.bool dir))]), (2005, [.t (.v (.bool false))])]
def BF (rem : ByteArray) : List (Nat × List A) := [(2000, [.t (.v (.string ⟨#[47]⟩))]), (2001, [.t (.v (.string rem))]), (2002, [.t (.v (.int .i64 0))]), (2003, [.t (.v (.slice none 0 0))]), (2004, [.t (.v (.bool false))]), (2005, [.t (.v (.bool false))])]
def OW (left : List L8) : List (Nat × Own) := [(1001, ⟨9, 1, left.map strT⟩)]
def R1 (rem : ByteArray) (left : List L8) (seg : L8) (c : Option Code) (bx1 : List (Nat × List A)) (ow1 : List (Nat × Own)) : Prop := match keep1 left seg with
  | some left' => c = none ∧ bx1 = BX rem left' (dotB seg) ∧ ow1 = OW left'
  | none => c = some .ret ∧ bx1 = BF rem ∧ ow1 = []
def RK (s : L8) (c : Option Code) (bx1 : List (Nat × List A)) (ow1 : List (Nat × Own)) : Prop := match keptF [] false (splL s) with
  | some (left, dir) => c = none ∧ ow1 = OW left ∧ ∃ rem, bx1 = BX rem left dir
  | none => c = some .ret ∧ ow1 = [] ∧ ∃ rem, bx1 = BF rem
abbrev tmK : List (Nat × A) := [(2, .bp 2003 0), (3, .bp 2004 0), (4, .bp 2005 0)]
structure SX where
  left : List L8
  dir : Bool
  rem : L8
def SSt (l : Nat) (x : SX) : St := ⟨[(0, .t (.v (.func (.yield l) #[] #[]))), (1, .bp 2000 0), (2, .bp 2001 0), (3, .bp 2002 0)], BX (bs x.rem) x.left x.dir, OW x.left⟩
theorem keep1_len {l l' : List L8} {s : L8} (h : keep1 l s = some l') : l'.length ≤ l.length + 1 := by
  unfold keep1 at h
  split at h
  · split at h
    · cases h
    · injection h with h; subst h; rw [List.length_dropLast]; omega
  · split at h
    · injection h with h; subst h; omega
    · injection h with h; subst h; simp
theorem bx_some (rem : ByteArray) (left : List L8) (dir : Bool) (i : Nat) : (Sim.get (BX rem left dir) i).isSome = (Nat.beq 2000 i || Nat.beq 2001 i || Nat.beq 2002 i || Nat.beq 2003 i || Nat.beq 2004 i || Nat.beq 2005 i) := by
  unfold BX
  simp only [Sim.get]
  cases Nat.beq 2000 i <;> cases Nat.beq 2001 i <;> cases Nat.beq 2002 i <;> cases Nat.beq 2003 i <;> cases Nat.beq 2004 i <;> cases Nat.beq 2005 i <;> rfl
theorem bf_some (rem : ByteArray) (i : Nat) : (Sim.get (BF rem) i).isSome = (Nat.beq 2000 i || Nat.beq 2001 i || Nat.beq 2002 i || Nat.beq 2003 i || Nat.beq 2004 i || Nat.beq 2005 i) := by
  unfold BF
  simp only [Sim.get]
  cases Nat.beq 2000 i <;> cases Nat.beq 2001 i <;> cases Nat.beq 2002 i <;> cases Nat.beq 2003 i <;> cases Nat.beq 2004 i <;> cases Nat.beq 2005 i <;> rfl
theorem ow_get {left : List L8} {i : Nat} {o : Own} (h : Sim.get (OW left) i = some o) : i = 1001 := by
  unfold OW at h
  simp only [Sim.get] at h
  cases hb : Nat.beq 1001 i with
  | true => exact (Nat.eq_of_beq_eq_true hb).symm
  | false => rw [hb] at h; cases h
theorem R1_dom {rem rem0 : ByteArray} {left : List L8} {seg : L8} {dir : Bool} {c : Option Code} {bx1 : List (Nat × List A)} {ow1 : List (Nat × Own)} (h : R1 rem left seg c bx1 ow1) : (∀ i, (Sim.get (BX rem0 left dir) i).isSome = (Sim.get bx1 i).isSome) ∧ ∀ i o, Sim.get ow1 i = some o → Nat.ble 2000 i = true → ∃ o', Sim.get (OW left) i = some o' := by
  unfold R1 at h
  split at h
  · obtain ⟨-, rfl, rfl⟩ := h
    refine ⟨fun i => by rw [bx_some, bx_some], fun i o h1 h2 => ?_⟩
    rw [ow_get h1] at h2; cases h2
  · obtain ⟨-, rfl, rfl⟩ := h
    refine ⟨fun i => by rw [bx_some, bf_some], fun i o h1 h2 => ?_⟩
    cases h1
theorem tmK_at (left : List L8) (rem : ByteArray) (dir : Bool) : ∀ s i off, Sim.get tmK s = some (.bp i off) → (Sim.get (BX rem left dir) i).isSome = true := by
  intro s i off h
  simp only [Sim.get, tmK] at h
  cases h2 : Nat.beq 2 s <;> cases h3 : Nat.beq 3 s <;> cases h4 : Nat.beq 4 s <;> simp only [h2, h3, h4, cond_true, cond_false] at h <;> first | (cases h; done) | (injection h with h; injection h with h5 h6; subst h5; rw [bx_some]; rfl)
theorem hid_OW {left : List L8} : ∀ i o, Sim.get (OW left) i = some o → hid i = true := fun i o h => by rw [ow_get h]; rfl
set_option maxRecDepth 100000 in
set_option maxHeartbeats 1000000 in
theorem icSplit {assign body : Code} {s : L8} (hs : s.length ≤ 1000)
    (hA : ∀ (l : Nat) (bx : List (Nat × List A)) (ow : List (Nat × Own)) (t : T) p, XWp Tryz.prog (some l) 52 assign (AsgQ ⟨(5, .t t) :: (8, .t t) :: tmK, bx, ow⟩ p) p ⟨(8, .t t) :: tmK, bx, ow⟩)
    (hB : ∀ (l : Nat) (rem : ByteArray) (left : List L8) (dir : Bool) (seg : L8) p, left.length ≤ 1000 → XWp Tryz.prog (some l) 52 body (BodyQ (R1 rem left seg) p) p ⟨(5, .t (.v (.string (bs seg)))) :: (8, .t (.v (.string (bs seg)))) :: tmK, BX rem left dir, OW left⟩) :
    ICalls Tryz.prog 155 [.bp 2000 0, .bp 2001 0, .bp 2002 0] 52 tmK #[8] assign body (BX (bs s) [] false) (OW []) (RK s) := by
  refine icalls_of Tryz.func155 rfl rfl rfl Tryz.ntmps155 rfl fun C l r hc => ?_
  repeat' (first | refine xthen_go ?_ | refine x_seq ?_ | (refine x_region (id := 0) ?_; refine oLb ?_; (first | refine sp (po_len_own rfl rfl (tyS rfl)) ?_ | refine sp (po_len_str rfl rfl (tyR rfl)) ?_); refine oCm ?_; refine oN ?_) | refine x_ret ?_ | refine x_skip ?_ | refine x_block ?_ | refine x_exit ?_ | refine xblock_go ?_ | refine xblock_exit ?_ | refine xblock_far rfl ?_ | refine xblock_ret ?_ | refine xthen_ret ?_ | refine xthen_exit ?_ | refine xfam_ret ?_ | refine xfam_exit ?_ | refine XNorm.mk rfl ?_ | refine x_ct ?_ | refine x_cf ?_ | refine x_cond rfl (fun hc => ?_) (fun hc => ?_) | refine rq rfl .nil ?_)
  refine x_fam (SSt l) (fun x => x.left.length + x.rem.length ≤ 1000 ∧ keptF x.left x.dir (splL x.rem) = keptF [] false (splL s)) (fun x => x.rem.length) ⟨[], false, s⟩ (weak_sub (.cons rfl rfl rfl (.cons rfl rfl rfl (.cons rfl rfl rfl (.cons rfl rfl rfl .nil)))) (.cons rfl rfl rfl (.cons rfl rfl rfl (.cons rfl rfl rfl (.cons rfl rfl rfl (.cons rfl rfl rfl (.cons rfl rfl rfl .nil)))))) (.cons rfl rfl .nil)) ⟨by simpa using hs, rfl⟩ ?_
  rintro ⟨left, dir, rem⟩ ⟨h1, h2⟩
  unfold SSt
  dsimp only at h1 h2 ⊢
  have c1 := index_ (bs rem) 47
  rw [idx_eq] at c1
  have e1 : fidx (bs rem) 47 = rem.findIdx (· == 47) := by unfold fidx; rw [bs_toList]
  rw [e1, bs_size] at c1
  have hsz : (bs rem).size = rem.length := bs_size rem
  by_cases hlt : rem.findIdx (· == 47) < rem.length
  · rw [if_pos hlt] at c1
    have e2 := splL_yes rem hlt
    generalize rem.findIdx (· == 47) = n at *
    have e3 : (bs rem).extract 0 n = bs (rem.take n) := ext_bs rem 0 n
    have e4 : (bs rem).extract (n + 1) (bs rem).size = bs (rem.drop (n + 1)) := by rw [ext_bs, hsz, List.take_length]
    have hn9 : (n : Int) ≤ 1000 := by omega
    repeat' (first | refine xthen_go ?_ | refine x_seq ?_ | (refine x_region (id := 5) ?_; refine oLb ?_; refine oLb ?_; refine oC (c1) rfl (ac (ac .nil)) ?_; refine aq0 ?_) | (refine x_region (id := 6) ?_; refine aq21 ?_) | (refine x_region (id := 7) ?_; refine oLb ?_; refine oMv ?_; refine oLb ?_; (refine sp (po_arith (c := (n : Int)) rfl rfl rfl (ar_add (wrap_i64 (by omega)) (by simp))) ?_); refine sp (po_slice_str (l := 0) (h' := n) rfl rfl (tyR rfl) rfl ⟨_, rfl⟩ (by omega) (by omega)) ?_; refine aq0 ?_) | refine x_ret ?_ | refine x_skip ?_ | refine x_block ?_ | refine x_exit ?_ | refine xblock_go ?_ | refine xblock_exit ?_ | refine xblock_far rfl ?_ | refine xblock_ret ?_ | refine xthen_ret ?_ | refine xthen_exit ?_ | refine xfam_ret ?_ | refine xfam_exit ?_ | refine XNorm.mk rfl ?_ | refine x_ct ?_ | refine x_cf ?_ | refine x_cond rfl (fun hc => ?_) (fun hc => ?_) | refine rq rfl .nil ?_)
    rw [e3]
    refine x_ops ?_
    refine x_one ?_ rfl
    refine oMv ?_
    refine oN ⟨rfl, ?_⟩
    refine x_one ?_ rfl
    refine oMv ?_
    refine oN ⟨rfl, ?_⟩
    refine x_yield (R1 (bs rem) left (rem.take n)) rfl rfl rfl rfl rfl rfl rfl hid_OW hc.at_ hc.gv hc.st hc.pe (by rw [hc.ps]; rfl) (hc.round (by decide) (tmK_at _ _ _) rfl) (fun p => by rw [hc.as_]; exact hA _ _ _ _ _) ⟨rfl, rfl⟩ (fun p => by rw [hc.bo]; exact hB _ _ _ _ _ _ (by omega)) (fun c bx1 ow1 => R1_dom) (fun bx1 ow1 hR => ?_) (fun c bx1 ow1 hR => ?_)
    · unfold R1 at hR
      have hk := e2
      cases hq : keep1 left (rem.take n) with
      | none => rw [hq] at hR; cases hR.1
      | some left' =>
        rw [hq] at hR
        obtain ⟨-, rfl, rfl⟩ := hR
        have hkl := keep1_len hq
        refine x_one ?_ rfl
        refine sp (po_not rfl rfl) ?_
        refine oN ⟨rfl, ?_⟩
        refine x_nil ?_
        unfold BX
        have h3 : keptF left' (dotB (rem.take n)) (splL (rem.drop (n + 1))) = keptF [] false (splL s) := by rw [← h2, e2]; simp only [keptF, hq]
        have h4 : left'.length + (rem.drop (n + 1)).length ≤ 1000 := by rw [List.length_drop]; omega
        have h5 : (rem.drop (n + 1)).length < rem.length := by rw [List.length_drop]; omega
        repeat' (first | refine xthen_go ?_ | refine x_seq ?_ | refine xfam_next ⟨left', dotB (rem.take n), rem.drop (n + 1)⟩ h5 (weak_sub (.cons rfl (by rfl) rfl (.cons rfl (by rfl) rfl (.cons rfl (by rfl) rfl (.cons rfl (by rfl) rfl .nil)))) (.cons rfl (by rfl) rfl (.cons rfl (by first | rfl | ((dsimp only; rw [← e4]; rfl))) rfl (.cons rfl (by rfl) rfl (.cons rfl (by rfl) rfl (.cons rfl (by rfl) rfl (.cons rfl (by rfl) rfl .nil)))))) (.cons rfl (by rfl) .nil)) ⟨h4, h3⟩ | (refine x_region (id := 9) ?_; refine oLb ?_; refine oMv ?_; refine oLb ?_; (first | refine sp (po_len_own rfl rfl (tyS rfl)) ?_ | refine sp (po_len_str rfl rfl (tyR rfl)) ?_); (refine sp (po_arith (c := ((n + 1 : Nat) : Int)) rfl rfl rfl (ar_add (wrap_i64 (by omega)) (by rfl))) ?_); (first | refine sp (po_slice_sfx rfl rfl rfl (by rfl) (tyS rfl) rfl (by omega) (by omega)) ?_ | refine sops_shrink (by rfl) (by rfl) (.free rfl rfl) rfl rfl rfl rfl rfl (by first | rfl | assumption | omega | (simp; done) | (simp; omega) | (simp at *; omega)) (tyS rfl) rfl (by omega) ?_ | refine sp (po_slice_str rfl rfl (tyR rfl) (by first | rfl | exact ⟨_, rfl⟩) (by rfl) (by omega) (by omega)) ?_); refine aq8 ?_) | refine x_ret ?_ | refine x_skip ?_ | refine x_block ?_ | refine x_exit ?_ | refine xblock_go ?_ | refine xblock_exit ?_ | refine xblock_far rfl ?_ | refine xblock_ret ?_ | refine xthen_ret ?_ | refine xthen_exit ?_ | refine xfam_ret ?_ | refine xfam_exit ?_ | refine XNorm.mk rfl ?_ | refine x_ct ?_ | refine x_cf ?_)
    · unfold R1 at hR
      cases hq : keep1 left (rem.take n) with
      | some left' => rw [hq] at hR; cases hR.1
      | none =>
        rw [hq] at hR
        obtain ⟨hcc, rfl, rfl⟩ := hR
        injection hcc with hcc
        subst hcc
        have h3 : RK s (some .ret) (BF (bs rem)) [] := by unfold RK; rw [← h2, e2]; simp only [keptF, hq]; exact ⟨trivial, trivial, _, rfl⟩
        refine x_one ?_ rfl
        refine sp (po_not rfl rfl) ?_
        refine oN ⟨rfl, ?_⟩
        refine x_nil ?_
        unfold BF at *
        repeat' (first | refine xthen_go ?_ | refine x_seq ?_ | refine x_ret ?_ | refine x_skip ?_ | refine x_block ?_ | refine x_exit ?_ | refine xblock_go ?_ | refine xblock_exit ?_ | refine xblock_far rfl ?_ | refine xblock_ret ?_ | refine xthen_ret ?_ | refine xthen_exit ?_ | refine xfam_ret ?_ | refine xfam_exit ?_ | refine XNorm.mk rfl ?_ | refine x_ct ?_ | refine x_cf ?_ | refine x_cond rfl (fun hc => ?_) (fun hc => ?_) | refine rq rfl .nil ?_)
        exact ⟨.inr rfl, _, _, _, rfl, .cons rfl rfl rfl (.cons rfl rfl rfl (.cons rfl rfl rfl (.cons rfl rfl rfl (.cons rfl rfl rfl (.cons rfl rfl rfl .nil))))), .nil, h3⟩
  · rw [if_neg hlt] at c1
    have e2 := splL_no rem hlt
    repeat' (first | refine xthen_go ?_ | refine x_seq ?_ | (refine x_region (id := 5) ?_; refine oLb ?_; refine oLb ?_; refine oC (c1) rfl (ac (ac .nil)) ?_; refine aq0 ?_) | (refine x_region (id := 6) ?_; refine aq21 ?_) | refine x_ret ?_ | refine x_skip ?_ | refine x_block ?_ | refine x_exit ?_ | refine xblock_go ?_ | refine xblock_exit ?_ | refine xblock_far rfl ?_ | refine xblock_ret ?_ | refine xthen_ret ?_ | refine xthen_exit ?_ | refine xfam_ret ?_ | refine xfam_exit ?_ | refine XNorm.mk rfl ?_ | refine x_ct ?_ | refine x_cf ?_ | refine x_cond rfl (fun hc => ?_) (fun hc => ?_) | refine rq rfl .nil ?_)
    refine x_ops ?_
    refine x_one ?_ rfl
    refine oMv ?_
    refine oN ⟨rfl, ?_⟩
    refine x_one ?_ rfl
    refine oLb ?_
    refine oN ⟨rfl, ?_⟩
    refine x_yield (R1 (bs rem) left rem) rfl rfl rfl rfl rfl rfl rfl hid_OW hc.at_ hc.gv hc.st hc.pe (by rw [hc.ps]; rfl) (hc.round (by decide) (tmK_at _ _ _) rfl) (fun p => by rw [hc.as_]; exact hA _ _ _ _ _) ⟨rfl, rfl⟩ (fun p => by rw [hc.bo]; exact hB _ _ _ _ _ _ (by omega)) (fun c bx1 ow1 => R1_dom) (fun bx1 ow1 hR => ?_) (fun c bx1 ow1 hR => ?_)
    · unfold R1 at hR
      cases hq : keep1 left rem with
      | none => rw [hq] at hR; cases hR.1
      | some left' =>
        rw [hq] at hR
        obtain ⟨-, rfl, rfl⟩ := hR
        have h3 : RK s none (BX (bs rem) left' (dotB rem)) (OW left') := by unfold RK; rw [← h2, e2]; simp only [keptF, hq]; exact ⟨trivial, trivial, _, rfl⟩
        refine x_nil ?_
        unfold BX OW at *
        have hcs : recC C l (.loop (recE r none)) = C := recC_self hc.at_
        exact ⟨.inl rfl, _, _, _, by rw [hcs], .cons rfl rfl rfl (.cons rfl rfl rfl (.cons rfl rfl rfl (.cons rfl rfl rfl (.cons rfl rfl rfl (.cons rfl rfl rfl .nil))))), .cons rfl rfl .nil, h3⟩
    · unfold R1 at hR
      cases hq : keep1 left rem with
      | some left' => rw [hq] at hR; cases hR.1
      | none =>
        rw [hq] at hR
        obtain ⟨hcc, rfl, rfl⟩ := hR
        injection hcc with hcc
        subst hcc
        have h3 : RK s (some .ret) (BF (bs rem)) [] := by unfold RK; rw [← h2, e2]; simp only [keptF, hq]; exact ⟨trivial, trivial, _, rfl⟩
        refine x_nil ?_
        unfold BF at *
        exact ⟨.inl rfl, _, _, _, rfl, .cons rfl rfl rfl (.cons rfl rfl rfl (.cons rfl rfl rfl (.cons rfl rfl rfl (.cons rfl rfl rfl (.cons rfl rfl rfl .nil))))), .nil, h3⟩
end Go.Proofs.YtloippgblkoemaaGreatDoor.Pth

/- Targets: the segments that are left: walk. -/
namespace Go.Proofs.YtloippgblkoemaaGreatDoor.Pth
set_option linter.unusedVariables false
set_option linter.unusedSimpArgs false
open Go.RowKit Mem Sim Opn Str
def keptT (x : Option (List L8 × Bool)) : T := match x with
  | some (left, dir) => .tup [.sl 1 (left.map strT), .v (.bool dir), .v (.bool true)]
  | none => .tup [.sl 1 [], .v (.bool false), .v (.bool false)]
def fbK (i : Nat) : Nat := if i = 2000 then 104 else if i = 2001 then 103 else if i = 2002 then 105 else if i = 2003 then 2 else if i = 2004 then 3 else if i = 2005 then 4 else i
def fbS (i : Nat) : Nat := if i = 3 then 103 else if i = 4 then 104 else if i = 5 then 105 else i
theorem zLeft : (Tryz.prog.info? 98).bind (·.zero) = some (.slice none 0 0) := by kernel_rfl
theorem zBool : (Tryz.prog.info? 4).bind (·.zero) = some (.bool false) := by kernel_rfl
abbrev tmR : List (Nat × A) := [(2, .bp 2 0), (3, .bp 3 0), (4, .bp 4 0)]
theorem R1_ok {rem : ByteArray} {left left' : List L8} {seg : L8} (hk : keep1 left seg = some left') : bodyR (R1 rem left seg) .normal (BX rem left' (dotB seg)) (OW left') := by
  show R1 rem left seg none _ _
  unfold R1; rw [hk]; exact ⟨rfl, rfl, rfl⟩
theorem RK_ex (s : L8) : ∃ c bx1 ow1, RK s c bx1 ow1 := by
  unfold RK
  split
  · exact ⟨_, _, _, rfl, rfl, ⟨#[]⟩, rfl⟩
  · exact ⟨_, _, _, rfl, rfl, ⟨#[]⟩, rfl⟩
theorem bs_dec (a b : L8) : decide (bs a = bs b) = decide (a = b) := by
  by_cases h : a = b
  · subst h; simp
  · rw [decide_eq_false h, decide_eq_false (fun e => h (by rw [← bs_toList a, e, bs_toList]))]
set_option maxRecDepth 100000 in
set_option maxHeartbeats 1000000 in
theorem kept_ (s : L8) (h0 : 1 ≤ s.length) (hs : s.length ≤ 1000) : PCalls Tryz.prog 94 [.v (.string (bs s))] (keptT (keptL s)) := by
  have hsz : (bs s).size = s.length := bs_size s
  have c1 := segments_ (bs s) (by omega)
  have e1 : (bs s).extract 1 (bs s).size = bs (s.drop 1) := by rw [ext_bs, hsz, List.take_length]
  rw [e1] at c1
  refine pcalls_x Tryz.func94 rfl rfl Tryz.ntmps94 rfl fun C => ?_
  repeat' (first | refine xthen_go ?_ | refine x_seq ?_ | (refine x_region (id := 0) ?_; refine sops_alloc (.free rfl rfl) rfl rfl rfl zLeft rfl rfl ?_; (first | refine sops_alloc (.free rfl rfl) rfl rfl rfl zLeft rfl rfl ?_ | refine sops_alloc (.free rfl rfl) rfl rfl rfl zBool rfl rfl ?_); (first | refine sops_alloc (.free rfl rfl) rfl rfl rfl zLeft rfl rfl ?_ | refine sops_alloc (.free rfl rfl) rfl rfl rfl zBool rfl rfl ?_); refine oN ?_) | (refine x_region (id := 1) ?_; refine oMv ?_; refine sops_lcall (c1) (fbS) (fun i => i) (fun _ => false) (.free rfl rfl) rfl rfl rfl (by ((repeat' (first | exact .nil | refine .cons rfl rfl rfl ?_)) <;> fail)) .nil .nil rfl rfl (fun _ h => Bool.noConfusion h) ?_; refine oN ?_) | refine x_ret ?_ | refine x_skip ?_ | refine x_block ?_ | refine x_exit ?_ | refine xblock_go ?_ | refine xblock_exit ?_ | refine xblock_far rfl ?_ | refine xblock_ret ?_ | refine xthen_ret ?_ | refine xthen_exit ?_ | refine xfam_ret ?_ | refine xfam_exit ?_ | refine XNorm.mk rfl ?_ | refine x_ct ?_ | refine x_cf ?_ | refine x_cond rfl (fun hc => ?_) (fun hc => ?_) | refine rq rfl (.cell1 rfl rfl (tyT rfl) (by first | exact .t _ | exact .own rfl (by rfl) | exact .nil _ | exact .emp _ | exact .fn _) (.cell1 rfl rfl (tyT rfl) (by first | exact .t _ | exact .own rfl (by rfl) | exact .nil _ | exact .emp _ | exact .fn _) (.cell1 rfl rfl (tyT rfl) (by first | exact .t _ | exact .own rfl (by rfl) | exact .nil _ | exact .emp _ | exact .fn _) .nil))) ?_)
  refine x_weak (weak_own0_bx 9 1 (i := 2) (j := 0) (q := 1001) rfl rfl rfl) ?_
  refine x_range (R := RK (s.drop 1)) (tmk := tmK) (bx0 := BX (bs (s.drop 1)) [] false) (ow0 := OW []) (caps0 := [.bp 2000 0, .bp 2001 0, .bp 2002 0]) (fb := fbK) (fw := fun i => i) (icSplit (by rw [List.length_drop]; omega) (fun l bx ow t p => ?_) (fun l rem left dir seg p hl => ?_)) rfl rfl rfl ?_ ?_ rfl (fun c bx1 ow1 hR => ?_) ?_ (fun c bx1 ow1 hR => ?_) (fun D p2 c bx1 ow1 hR hpb => ?_) ?_
  · repeat' (first | refine xthen_go ?_ | refine x_seq ?_ | (refine x_region (id := 2) ?_; refine aq0 ?_) | refine x_ret ?_ | refine x_skip ?_ | refine x_block ?_ | refine x_exit ?_ | refine xblock_go ?_ | refine xblock_exit ?_ | refine xblock_far rfl ?_ | refine xblock_ret ?_ | refine xthen_ret ?_ | refine xthen_exit ?_ | refine xfam_ret ?_ | refine xfam_exit ?_ | refine XNorm.mk rfl ?_ | refine x_ct ?_ | refine x_cf ?_ | refine x_cond rfl (fun hc => ?_) (fun hc => ?_) | refine rq rfl (.cell1 rfl rfl (tyT rfl) (by first | exact .t _ | exact .own rfl (by rfl) | exact .nil _ | exact .emp _ | exact .fn _) (.cell1 rfl rfl (tyT rfl) (by first | exact .t _ | exact .own rfl (by rfl) | exact .nil _ | exact .emp _ | exact .fn _) (.cell1 rfl rfl (tyT rfl) (by first | exact .t _ | exact .own rfl (by rfl) | exact .nil _ | exact .emp _ | exact .fn _) .nil))) ?_)
    exact ⟨rfl, rfl, rfl⟩
  · have hm : (left.map strT).length = left.length := List.length_map _
    have g0 : decide (bs seg = ⟨#[]⟩) = decide (seg = []) := bs_dec seg []
    have g1 : decide (bs seg = ⟨#[46]⟩) = decide (seg = [46]) := bs_dec seg [46]
    have g2 : decide (bs seg = ⟨#[46, 46]⟩) = decide (seg = [46, 46]) := bs_dec seg [46, 46]
    unfold BX OW
    have fin : ∀ {b : Bool} {tm : List (Nat × A)} (left' : List L8) (rows : List (List T)) (c1 : List A) (bx' : List (Nat × List A)), left'.map strT = rows → b = dotB seg → keep1 left seg = some left' → True := fun _ _ _ _ _ _ _ => trivial
    clear fin
    by_cases hs2 : seg = [46, 46]
    · have g2' := g2.trans (decide_eq_true hs2)
      have hd : dotB seg = true := by subst hs2; rfl
      have g0' := g0.trans (decide_eq_false (by subst hs2; decide))
      have g1' := g1.trans (decide_eq_false (by subst hs2; decide))
      clear g0 g1 g2
      by_cases hl0 : left = []
      · subst hl0
        have hz : decide ((((([] : List L8).map strT).length : Nat) : Int) = 0) = true := rfl
        repeat' (first | refine xthen_go ?_ | refine x_seq ?_ | (refine x_region (id := 3) ?_; refine aq85 ?_) | (refine x_region (id := 4) ?_; refine oMv ?_; refine sp (po_str rfl rfl rfl rfl) ?_; refine oMv ?_; refine oLb ?_ <;> refine sp (po_len_own rfl rfl (tyS rfl)) ?_ <;> refine oCm ?_ <;> refine oPt ?_ <;> refine oAs ?_ <;> refine oN ?_) | (refine x_region (id := 5) ?_; refine oS ?_; refine oS ?_; refine oS ?_; refine oN ?_) | refine x_ret ?_ | refine x_skip ?_ | refine x_block ?_ | refine x_exit ?_ | refine xblock_go ?_ | refine xblock_exit ?_ | refine xblock_far rfl ?_ | refine xblock_ret ?_ | refine xthen_ret ?_ | refine xthen_exit ?_ | refine xfam_ret ?_ | refine xfam_exit ?_ | refine XNorm.mk rfl ?_ | refine x_ct ?_ | refine x_cf ?_ | refine x_cond rfl (fun hc => ?_) (fun hc => ?_) | refine rq rfl (.cell1 rfl rfl (tyT rfl) (by first | exact .t _ | exact .own rfl (by rfl) | exact .nil _ | exact .emp _ | exact .fn _) (.cell1 rfl rfl (tyT rfl) (by first | exact .t _ | exact .own rfl (by rfl) | exact .nil _ | exact .emp _ | exact .fn _) (.cell1 rfl rfl (tyT rfl) (by first | exact .t _ | exact .own rfl (by rfl) | exact .nil _ | exact .emp _ | exact .fn _) .nil))) ?_)
        exact ⟨rfl, BF rem, [], (.cons rfl rfl rfl (.cons rfl rfl rfl (.cons rfl rfl rfl (.cons rfl rfl rfl (.cons rfl rfl rfl (.cons rfl rfl rfl .nil)))))), .nil, by subst hs2; exact ⟨rfl, rfl, rfl⟩⟩
      · have hlp : 1 ≤ left.length := by cases left with | nil => exact absurd rfl hl0 | cons _ _ => simp
        have hz : decide ((((left.map strT).length : Nat) : Int) = 0) = false := decide_eq_false (by omega)
        have hk : keep1 left seg = some left.dropLast := by unfold keep1; rw [if_pos hs2, if_neg hl0]
        have hr : (left.map strT).take ((left.map strT).length - 1) = left.dropLast.map strT := by rw [List.length_map, ← List.map_take, List.dropLast_eq_take]
        have hr2 : (left.map strT).length - 1 = (left.dropLast.map strT).length := by rw [List.length_map, List.length_map, List.length_dropLast]
        repeat' (first | refine xthen_go ?_ | refine x_seq ?_ | (refine x_region (id := 3) ?_; (first | refine sops_cut (by rfl) (by rfl) (.free rfl rfl) rfl rfl rfl rfl rfl rfl (tyS rfl) rfl rfl (by omega) ?_ | refine oMv ?_); (first | refine sops_cut (by rfl) (by rfl) (.free rfl rfl) rfl rfl rfl rfl rfl rfl (tyS rfl) rfl rfl (by omega) ?_ | refine sp (po_str rfl rfl rfl rfl) ?_); (first | refine sops_cut (by rfl) (by rfl) (.free rfl rfl) rfl rfl rfl rfl rfl rfl (tyS rfl) rfl rfl (by omega) ?_ | refine oMv ?_); (first | refine sops_cut (by rfl) (by rfl) gy rfl rfl rfl rfl rfl rfl (tyS rfl) rfl rfl (by omega) ?_ | refine oMv ?_) <;> (first | refine sops_cut (by rfl) (by rfl) gy rfl rfl rfl rfl rfl rfl (tyS rfl) rfl rfl (by omega) ?_ | refine sp (po_str rfl rfl rfl rfl) ?_) <;> (first | refine sops_cut (by rfl) (by rfl) (.free rfl rfl) rfl rfl rfl rfl rfl rfl (tyS rfl) rfl rfl (by omega) ?_ | refine oPt ?_ | refine oPf ?_) <;> (first | refine sops_cut (by rfl) (by rfl) (.free rfl rfl) rfl rfl rfl rfl rfl rfl (tyS rfl) rfl rfl (by omega) ?_ | refine oMv ?_) <;> (first | refine sops_cut (by rfl) (by rfl) gy rfl rfl rfl rfl rfl rfl (tyS rfl) rfl rfl (by omega) ?_ | refine oMv ?_) <;> (first | refine sops_cut (by rfl) (by rfl) gy rfl rfl rfl rfl rfl rfl (tyS rfl) rfl rfl (by omega) ?_ | refine sp (po_str rfl rfl rfl rfl) ?_) <;> (first | refine sops_cut (by rfl) (by rfl) (.free rfl rfl) rfl rfl rfl rfl rfl rfl (tyS rfl) rfl rfl (by omega) ?_ | refine oPt ?_ | refine oPf ?_) <;> (first | refine sops_cut (by rfl) (by rfl) (.free rfl rfl) rfl rfl rfl rfl rfl rfl (tyS rfl) rfl rfl (by omega) ?_ | refine oS ?_) <;> refine oN ?_) | (refine x_region (id := 4) ?_; (first | refine sops_cut (by rfl) (by rfl) (.free rfl rfl) rfl rfl rfl rfl rfl rfl (tyS rfl) rfl rfl (by omega) ?_ | refine oMv ?_); (first | refine sops_cut (by rfl) (by rfl) (.free rfl rfl) rfl rfl rfl rfl rfl rfl (tyS rfl) rfl rfl (by omega) ?_ | refine sp (po_str rfl rfl rfl rfl) ?_); (first | refine sops_cut (by rfl) (by rfl) (.free rfl rfl) rfl rfl rfl rfl rfl rfl (tyS rfl) rfl rfl (by omega) ?_ | refine oMv ?_); (first | refine sops_cut (by rfl) (by rfl) gy rfl rfl rfl rfl rfl rfl (tyS rfl) rfl rfl (by omega) ?_ | refine oLb ?_) <;> (first | refine sops_cut (by rfl) (by rfl) gy rfl rfl rfl rfl rfl rfl (tyS rfl) rfl rfl (by omega) ?_ | refine sp (po_len_own rfl rfl (tyS rfl)) ?_) <;> (first | refine sops_cut (by rfl) (by rfl) gy rfl rfl rfl rfl rfl rfl (tyS rfl) rfl rfl (by omega) ?_ | refine oCm ?_) <;> (first | refine sops_cut (by rfl) (by rfl) (.free rfl rfl) rfl rfl rfl rfl rfl rfl (tyS rfl) rfl rfl (by omega) ?_ | refine oPt ?_) <;> (first | refine sops_cut (by rfl) (by rfl) (.free rfl rfl) rfl rfl rfl rfl rfl rfl (tyS rfl) rfl rfl (by omega) ?_ | refine oAs ?_) <;> refine oN ?_) | (refine x_region (id := 6) ?_; (first | refine sops_cut (by rfl) (by rfl) (.free rfl rfl) rfl rfl rfl rfl rfl rfl (tyS rfl) rfl rfl (by omega) ?_ | refine oMv ?_); (first | refine sops_cut (by rfl) (by rfl) (.free rfl rfl) rfl rfl rfl rfl rfl rfl (tyS rfl) rfl rfl (by omega) ?_ | refine sp (po_str rfl rfl rfl rfl) ?_); (first | refine sops_cut (by rfl) (by rfl) (.free rfl rfl) rfl rfl rfl rfl rfl rfl (tyS rfl) rfl rfl (by omega) ?_ | refine oAs ?_); refine oN ?_) | (refine x_region (id := 7) ?_; (first | refine sops_cut (by rfl) (by rfl) (.free rfl rfl) rfl rfl rfl rfl rfl rfl (tyS rfl) rfl rfl (by omega) ?_ | refine oLb ?_); (first | refine sops_cut (by rfl) (by rfl) (.free rfl rfl) rfl rfl rfl rfl rfl rfl (tyS rfl) rfl rfl (by omega) ?_ | refine oLb ?_); (first | refine sops_cut (by rfl) (by rfl) (.free rfl rfl) rfl rfl rfl rfl rfl rfl (tyS rfl) rfl rfl (by omega) ?_ | refine sp (po_len_own rfl rfl (tyS rfl)) ?_); (first | refine sops_cut (by rfl) (by rfl) (.free rfl rfl) rfl rfl rfl rfl rfl rfl (tyS rfl) rfl rfl (by omega) ?_ | refine sp (po_dec rfl rfl rfl (by omega)) ?_); (first | refine sops_cut (by rfl) (by rfl) (.free rfl rfl) rfl rfl rfl rfl rfl rfl (tyS rfl) rfl rfl (by omega) ?_ | refine oLb ?_); (first | refine sops_cut (by rfl) (by rfl) (.free rfl rfl) rfl rfl rfl rfl rfl rfl (tyS rfl) rfl rfl (by omega) ?_ | refine sp (po_len_own rfl rfl (tyS rfl)) ?_); (first | refine sops_cut (by rfl) (by rfl) (.free rfl rfl) rfl rfl rfl rfl rfl rfl (tyS rfl) rfl rfl (by omega) ?_ | refine sp (po_dec rfl rfl rfl (by omega)) ?_); refine sops_cut (by rfl) (by rfl) (.free rfl rfl) rfl rfl rfl rfl rfl rfl (tyS rfl) rfl rfl (by omega) ?_; (first | refine sops_cut (by rfl) (by rfl) (.free rfl rfl) rfl rfl rfl rfl rfl rfl (tyS rfl) rfl rfl (by omega) ?_ | refine oS ?_); refine oN ?_) | refine x_ret ?_ | refine x_skip ?_ | refine x_block ?_ | refine x_exit ?_ | refine xblock_go ?_ | refine xblock_exit ?_ | refine xblock_far rfl ?_ | refine xblock_ret ?_ | refine xthen_ret ?_ | refine xthen_exit ?_ | refine xfam_ret ?_ | refine xfam_exit ?_ | refine XNorm.mk rfl ?_ | refine x_ct ?_ | refine x_cf ?_ | refine x_cond rfl (fun hc => ?_) (fun hc => ?_) | refine rq rfl (.cell1 rfl rfl (tyT rfl) (by first | exact .t _ | exact .own rfl (by rfl) | exact .nil _ | exact .emp _ | exact .fn _) (.cell1 rfl rfl (tyT rfl) (by first | exact .t _ | exact .own rfl (by rfl) | exact .nil _ | exact .emp _ | exact .fn _) (.cell1 rfl rfl (tyT rfl) (by first | exact .t _ | exact .own rfl (by rfl) | exact .nil _ | exact .emp _ | exact .fn _) .nil))) ?_)
        exact ⟨rfl, BX rem left.dropLast (dotB seg), OW left.dropLast, (.cons rfl rfl rfl (.cons rfl rfl rfl (.cons rfl rfl rfl (.cons rfl (congrArg (fun n => [A.own 1001 n]) hr2) rfl (.cons rfl (congrArg (fun b => [A.t (T.v (Value.bool b))]) (g2'.trans hd.symm)) rfl (.cons rfl rfl rfl .nil)))))), .cons rfl (congrArg (Own.mk _ 1) hr) .nil, R1_ok hk⟩
    · have g2' := g2.trans (decide_eq_false hs2)
      by_cases hdt : seg = [] ∨ seg = [46]
      · have hd : dotB seg = true := by rcases hdt with rfl | rfl <;> rfl
        have hk : keep1 left seg = some left := by unfold keep1; rw [if_neg hs2, if_pos hd]
        rcases hdt with rfl | rfl
        · have g0' := g0.trans (decide_eq_true rfl)
          clear g0 g1 g2
          repeat' (first | refine xthen_go ?_ | refine x_seq ?_ | (refine x_region (id := 3) ?_; refine oMv ?_; refine sp (po_str rfl rfl rfl rfl) ?_; refine oMv ?_; (first | refine oMv ?_ | refine oK ?_) <;> (first | refine sp (po_str rfl rfl rfl rfl) ?_ | refine oK ?_) <;> refine oPt ?_ <;> refine oMv ?_ <;> (first | refine oMv ?_ | refine oK ?_) <;> (first | refine sp (po_str rfl rfl rfl rfl) ?_ | refine oK ?_) <;> refine oPt ?_ <;> refine oS ?_ <;> refine oN ?_) | (refine x_region (id := 4) ?_; refine aq86 ?_) | (refine x_region (id := 6) ?_; refine aq55 ?_) | (refine x_region (id := 8) ?_; refine aq87 ?_) | refine x_ret ?_ | refine x_skip ?_ | refine x_block ?_ | refine x_exit ?_ | refine xblock_go ?_ | refine xblock_exit ?_ | refine xblock_far rfl ?_ | refine xblock_ret ?_ | refine xthen_ret ?_ | refine xthen_exit ?_ | refine xfam_ret ?_ | refine xfam_exit ?_ | refine XNorm.mk rfl ?_ | refine x_ct ?_ | refine x_cf ?_ | refine x_cond rfl (fun hc => ?_) (fun hc => ?_) | refine rq rfl (.cell1 rfl rfl (tyT rfl) (by first | exact .t _ | exact .own rfl (by rfl) | exact .nil _ | exact .emp _ | exact .fn _) (.cell1 rfl rfl (tyT rfl) (by first | exact .t _ | exact .own rfl (by rfl) | exact .nil _ | exact .emp _ | exact .fn _) (.cell1 rfl rfl (tyT rfl) (by first | exact .t _ | exact .own rfl (by rfl) | exact .nil _ | exact .emp _ | exact .fn _) .nil))) ?_)
          exact ⟨rfl, BX rem left (dotB _), OW left, (.cons rfl rfl rfl (.cons rfl rfl rfl (.cons rfl rfl rfl (.cons rfl rfl rfl (.cons rfl (congrArg (fun b => [A.t (T.v (Value.bool b))]) (hd.symm)) rfl (.cons rfl rfl rfl .nil)))))), .cons rfl rfl .nil, R1_ok hk⟩
        · have g0' := g0.trans (decide_eq_false (by decide))
          have g1' := g1.trans (decide_eq_true rfl)
          clear g0 g1 g2
          repeat' (first | refine xthen_go ?_ | refine x_seq ?_ | (refine x_region (id := 3) ?_; refine oMv ?_; refine sp (po_str rfl rfl rfl rfl) ?_; refine oMv ?_; refine oMv ?_ <;> refine sp (po_str rfl rfl rfl rfl) ?_ <;> (first | refine oPt ?_ | refine oPf ?_) <;> refine oMv ?_ <;> (first | refine oMv ?_ | refine oK ?_) <;> (first | refine sp (po_str rfl rfl rfl rfl) ?_ | refine oK ?_) <;> refine oPt ?_ <;> refine oS ?_ <;> refine oN ?_) | (refine x_region (id := 4) ?_; refine aq86 ?_) | (refine x_region (id := 6) ?_; refine aq55 ?_) | (refine x_region (id := 8) ?_; refine aq87 ?_) | refine x_ret ?_ | refine x_skip ?_ | refine x_block ?_ | refine x_exit ?_ | refine xblock_go ?_ | refine xblock_exit ?_ | refine xblock_far rfl ?_ | refine xblock_ret ?_ | refine xthen_ret ?_ | refine xthen_exit ?_ | refine xfam_ret ?_ | refine xfam_exit ?_ | refine XNorm.mk rfl ?_ | refine x_ct ?_ | refine x_cf ?_ | refine x_cond rfl (fun hc => ?_) (fun hc => ?_) | refine rq rfl (.cell1 rfl rfl (tyT rfl) (by first | exact .t _ | exact .own rfl (by rfl) | exact .nil _ | exact .emp _ | exact .fn _) (.cell1 rfl rfl (tyT rfl) (by first | exact .t _ | exact .own rfl (by rfl) | exact .nil _ | exact .emp _ | exact .fn _) (.cell1 rfl rfl (tyT rfl) (by first | exact .t _ | exact .own rfl (by rfl) | exact .nil _ | exact .emp _ | exact .fn _) .nil))) ?_)
          exact ⟨rfl, BX rem left (dotB _), OW left, (.cons rfl rfl rfl (.cons rfl rfl rfl (.cons rfl rfl rfl (.cons rfl rfl rfl (.cons rfl (congrArg (fun b => [A.t (T.v (Value.bool b))]) (g1'.trans hd.symm)) rfl (.cons rfl rfl rfl .nil)))))), .cons rfl rfl .nil, R1_ok hk⟩
      · have g0' := g0.trans (decide_eq_false fun e => hdt (.inl e))
        have g1' := g1.trans (decide_eq_false fun e => hdt (.inr e))
        have hd : dotB seg = false := by unfold dotB; rw [decide_eq_false hs2, decide_eq_false fun e => hdt (.inl e), decide_eq_false fun e => hdt (.inr e)]; rfl
        have hk : keep1 left seg = some (left ++ [seg]) := by unfold keep1; rw [if_neg hs2, hd]; rfl
        have g3 : (!decide (bs seg = ⟨#[46, 46]⟩)) = true := by rw [g2']; rfl
        have ha : (left ++ [seg]).map strT = left.map strT ++ [[T.v (.string (bs seg))]] := by rw [List.map_append]; rfl
        have hb1 : ((left.map strT).length + 1) * 64 ≤ 140737488355328 := by omega
        have hb2 : (left.map strT).length + 1 ≤ maxLen := by unfold maxLen; omega
        clear g0 g1 g2
        repeat' (first | refine xthen_go ?_ | refine x_seq ?_ | (refine x_region (id := 3) ?_; refine aq85 ?_) | (refine x_region (id := 4) ?_; refine aq86 ?_) | (refine x_region (id := 6) ?_; refine aq55 ?_) | (refine x_region (id := 8) ?_; refine aq87 ?_) | (refine x_region (id := 9) ?_; refine oLb ?_; refine oMv ?_; refine sp (po_buildSlice rfl (tyE rfl) (dc (.nil _)) rfl rfl rfl) ?_; refine sap rfl (tyE rfl) ?_; refine oS ?_; refine oN ?_) | refine x_ret ?_ | refine x_skip ?_ | refine x_block ?_ | refine x_exit ?_ | refine xblock_go ?_ | refine xblock_exit ?_ | refine xblock_far rfl ?_ | refine xblock_ret ?_ | refine xthen_ret ?_ | refine xthen_exit ?_ | refine xfam_ret ?_ | refine xfam_exit ?_ | refine XNorm.mk rfl ?_ | refine x_ct ?_ | refine x_cf ?_ | refine x_cond rfl (fun hc => ?_) (fun hc => ?_) | refine rq rfl (.cell1 rfl rfl (tyT rfl) (by first | exact .t _ | exact .own rfl (by rfl) | exact .nil _ | exact .emp _ | exact .fn _) (.cell1 rfl rfl (tyT rfl) (by first | exact .t _ | exact .own rfl (by rfl) | exact .nil _ | exact .emp _ | exact .fn _) (.cell1 rfl rfl (tyT rfl) (by first | exact .t _ | exact .own rfl (by rfl) | exact .nil _ | exact .emp _ | exact .fn _) .nil))) ?_)
        exact ⟨rfl, BX rem (left ++ [seg]) (dotB _), OW (left ++ [seg]), (.cons rfl rfl rfl (.cons rfl rfl rfl (.cons rfl rfl rfl (.cons rfl (congrArg (fun l : List (List T) => [A.own 1001 l.length]) ha.symm) rfl (.cons rfl (congrArg (fun b => [A.t (T.v (Value.bool b))]) (g2'.trans hd.symm)) rfl (.cons rfl rfl rfl .nil)))))), .cons rfl (congrArg (Own.mk _ 1) ha.symm) .nil, R1_ok hk⟩
  · exact .cons rfl rfl (.cons rfl rfl (.cons rfl rfl (.cons rfl rfl (.cons rfl rfl (.cons rfl rfl .nil)))))
  · exact .cons rfl rfl .nil
  · unfold RK at hR
    split at hR
    · obtain ⟨rfl, rfl, rem, rfl⟩ := hR; rfl
    · obtain ⟨rfl, rfl, rem, rfl⟩ := hR; rfl
  · intro i y h
    simp only [Sim.get, tmK] at h
    cases h2 : Nat.beq 2 i with
    | true => rw [h2] at h; injection h with h; subst h; obtain rfl := Nat.eq_of_beq_eq_true h2; exact ⟨_, _, rfl, rfl, rfl⟩
    | false =>
    cases h3 : Nat.beq 3 i with
    | true => rw [h2, h3] at h; injection h with h; subst h; obtain rfl := Nat.eq_of_beq_eq_true h3; exact ⟨_, _, rfl, rfl, rfl⟩
    | false =>
    cases h4 : Nat.beq 4 i with
    | true => rw [h2, h3, h4] at h; injection h with h; subst h; obtain rfl := Nat.eq_of_beq_eq_true h4; exact ⟨_, _, rfl, rfl, rfl⟩
    | false => rw [h2, h3, h4] at h; cases h
  · unfold RK at hR
    intro i o h
    split at hR
    · obtain ⟨rfl, rfl, rem, rfl⟩ := hR; exact hid_OW i o h
    · obtain ⟨rfl, rfl, rem, rfl⟩ := hR; cases h
  · unfold RK at hR
    unfold keptL
    split at hR
    · rename_i left dir hq
      obtain ⟨rfl, rfl, rem, rfl⟩ := hR
      rw [hq]
      have hm : (left.map strT).length = left.length := List.length_map _
      refine xblock_go ?_
      refine xthen_go ?_
      refine x_weak (st' := ⟨tmR, [(2, [.own 1001 (left.map strT).length]), (3, [.t (.v (.bool dir))]), (4, [.t (.v (.bool false))])], OW left⟩) (weak_sub (.cons rfl rfl rfl (.cons rfl rfl rfl (.cons rfl rfl rfl .nil))) (.cons rfl rfl rfl (.cons rfl rfl rfl (.cons rfl rfl rfl .nil))) (.cons rfl rfl .nil)) ?_
      refine x_weak (weak_show 1001 101 rfl rfl rfl rfl) ?_
      repeat' (first | refine xthen_go ?_ | refine x_seq ?_ | refine xret hpb (.inr rfl) rfl (.cell1 rfl rfl (tyT rfl) (.own rfl rfl) (.cell1 rfl rfl (tyT rfl) (.t _) (.cell1 rfl rfl (tyT rfl) (.t _) .nil))) ?_ | (refine x_region (id := 10) ?_; refine oLb ?_; refine oLb ?_; refine oMv ?_; (first | refine oLb ?_ | refine oLd ?_ | refine sp (ldo rfl) ?_ | refine oK ?_ | ((refine ssp (fun hc => ?_) (fun hc => ?_)) <;> first | refine oLb ?_ | refine oLd ?_ | refine sp (ldo rfl) ?_ | refine oK ?_)) <;> (first | refine sp (po_len_own rfl rfl (tyS rfl)) ?_ | refine sp (pln rfl (tyS rfl)) ?_ | refine oK ?_) <;> (first | refine oCm ?_ | refine oK ?_) <;> (first | refine oPt ?_ | refine oPf ?_) <;> refine oS ?_ <;> refine oS ?_ <;> refine oS ?_ <;> refine oN ?_) | refine x_ret ?_ | refine x_skip ?_ | refine x_block ?_ | refine x_exit ?_ | refine xblock_go ?_ | refine xblock_exit ?_ | refine xblock_far rfl ?_ | refine xblock_ret ?_ | refine xthen_ret ?_ | refine xthen_exit ?_ | refine xfam_ret ?_ | refine xfam_exit ?_ | refine XNorm.mk rfl ?_ | refine x_ct ?_ | refine x_cf ?_ | refine x_cond rfl (fun hc => ?_) (fun hc => ?_) | refine rq rfl (.cell1 rfl rfl (tyT rfl) (by first | exact .t _ | exact .own rfl (by rfl) | exact .nil _ | exact .emp _ | exact .fn _) (.cell1 rfl rfl (tyT rfl) (by first | exact .t _ | exact .own rfl (by rfl) | exact .nil _ | exact .emp _ | exact .fn _) (.cell1 rfl rfl (tyT rfl) (by first | exact .t _ | exact .own rfl (by rfl) | exact .nil _ | exact .emp _ | exact .fn _) .nil))) ?_)
      · have hd : dir = true := by assumption
        have e2 : (decide (left ≠ [])) = decide ((0 : Int) < (((left.map strT).length : Nat) : Int)) := by
          rw [hm]; cases left <;> simp
        show T.tup [_, T.v (.bool (dir && decide (left ≠ []))), _] = _
        rw [e2, hd]; rfl
      · have hd : dir = false := by assumption
        show T.tup [_, T.v (.bool (dir && decide (left ≠ []))), _] = _
        rw [hd]; rfl
    · rename_i hq
      obtain ⟨rfl, rfl, rem, rfl⟩ := hR
      rw [hq]
      refine x_weak (st' := ⟨tmR, [(2, [.t (.v (.slice none 0 0))]), (3, [.t (.v (.bool false))]), (4, [.t (.v (.bool false))])], []⟩) (weak_sub (.cons rfl rfl rfl (.cons rfl rfl rfl (.cons rfl rfl rfl .nil))) (.cons rfl rfl rfl (.cons rfl rfl rfl (.cons rfl rfl rfl .nil))) .nil) ?_
      repeat' (first | refine xthen_go ?_ | refine x_seq ?_ | refine x_ret ?_ | refine x_skip ?_ | refine x_block ?_ | refine x_exit ?_ | refine xblock_go ?_ | refine xblock_exit ?_ | refine xblock_far rfl ?_ | refine xblock_ret ?_ | refine xthen_ret ?_ | refine xthen_exit ?_ | refine xfam_ret ?_ | refine xfam_exit ?_ | refine XNorm.mk rfl ?_ | refine x_ct ?_ | refine x_cf ?_ | refine x_cond rfl (fun hc => ?_) (fun hc => ?_) | refine rq rfl (.cell1 rfl rfl (tyT rfl) (by first | exact .t _ | exact .own rfl (by rfl) | exact .nil _ | exact .emp _ | exact .fn _) (.cell1 rfl rfl (tyT rfl) (by first | exact .t _ | exact .own rfl (by rfl) | exact .nil _ | exact .emp _ | exact .fn _) (.cell1 rfl rfl (tyT rfl) (by first | exact .t _ | exact .own rfl (by rfl) | exact .nil _ | exact .emp _ | exact .fn _) .nil))) ?_)
      refine xret hpb (.inr rfl) rfl (.cell1 rfl rfl (tyT rfl) (.nil 1) (.cell1 rfl rfl (tyT rfl) (.t _) (.cell1 rfl rfl (tyT rfl) (.t _) .nil))) ?_
      rfl
  · exact RK_ex _
end Go.Proofs.YtloippgblkoemaaGreatDoor.Pth
