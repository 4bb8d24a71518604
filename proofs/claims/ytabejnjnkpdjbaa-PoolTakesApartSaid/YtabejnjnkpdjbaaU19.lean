/- Merged by bundles.py: SimPo8. -/
import Derived.Test.YtabejnjnkpdjbaaU18
import Derived.Test.YtabejnjnkpdjbaaU15
/- beats. -/
namespace Go.Proofs.Ytabejnjnkpdjbaa.Sim
set_option linter.unusedVariables false
set_option linter.unusedSimpArgs false
open Go.RowKit Mem
section
variable {P : Program} {N : Nat} {Q : Exit → St → Prop} {ops : Array Oper} {rest : List Oper} {o : Oper} {tm : List (Nat × A)} {bx bx0 : List (Nat × List A)} {ow ow0 : List (Nat × Own)}
theorem kp_id (j : Nat) (hj : Nat.ble 2000 j = true) {ow0 ow1 : List (Nat × Own)} {o0 o1 : Own} (h0 : get ow0 j = some o0) (h1 : get ow1 j = some o1) (he : o1.rows.length = o0.rows.length) : ∀ i, Nat.beq i j = true → Nat.ble 2000 i = true ∧ ∃ o0 o1, get ow0 i = some o0 ∧ get ow1 i = some o1 ∧ o1.rows.length = o0.rows.length := fun i h => by
  rw [Nat.eq_of_beq_eq_true h]
  exact ⟨hj, o0, o1, h0, h1, he⟩
theorem sops_ecallk {f : FuncId} {xs : List Operand} {at_ : Array TypeId} {args : List A} {ι : Type} [Inhabited ι] {r : ι → A} {bx1 : ι → List (Nat × List A)} {ow1 : ι → List (Nat × Own)} {d : Nat} (hc : ECalls P f args bx0 ow0 r bx1 ow1) (fb fw : Nat → Nat) (kp : Nat → Bool) (hg : GuardIs ops tm o true) (ho : o.op = .call { callee := .value (.func f), args := xs.toArray, argTypes := at_ }) (hd : o.dst = some d) (hN : Nat.blt d N = true)
    (ha : ArgsL fb fw ow bx0 ow0 (evA tm) xs args) (hx : LentX fb fw bx bx0) (hw : LentW fw ow ow0) (hl : (bx0.all fun p => p.2.all fun x => x.live bx0 ow0) = true) (hB : ∀ i, lendB fb fw bx bx0 (bx1 i) ow ow0 (ow1 i) = true)
    (hkp : ∀ j i, kp i = true → Nat.ble 2000 i = true ∧ ∃ o0 o1, get ow0 i = some o0 ∧ get (ow1 j) i = some o1 ∧ o1.rows.length = o0.rows.length)
    (h : ∀ i, SOps P N ops Q rest ⟨(d, (r i).ren fb fw) :: tm.map (fun p => (p.1, p.2.clr (chgOf fw kp ow0))), bxAft fb fw (chgOf fw kp ow0) (bx1 i) bx, owAft fw ow0 (ow1 i) ow⟩) : SOps P N ops Q (o :: rest) ⟨tm, bx, ow⟩ := by
  have hL := fun i => lend_of (kp := kp) hx hw hl (hB i) (hkp i)
  refine .mk fun C a w ⟨m, g, hr⟩ => ?_
  have hrun : (execOp a.eval o).run P w = .ok (.enter f (xs.map a.eval).toArray) w := by
    have := hc.ent (xs.map a.eval).toArray w
    simp only [execOp, ho, resolve, Deferred.ofValue, Act.eval, invoke, Sem.run_bind, Sem.run_pure, Result.andThen_ok, List.map_toArray, Array.append_empty, Array.empty_append, Array.append_eq_append, List.append_nil, List.nil_append] at this ⊢
    simpa using this
  refine wpList_step fun K hK => ?_
  rw [if_pos (hg.wanted (m := m) (g := g) fun j want e _ _ y hy => hr.tmps e y hy)]
  have i0 : ι := default
  obtain ⟨h1, h2⟩ := ha.ok (hL i0) hr.env (a := a) (fun x _ y hy => hr.ev hy)
  refine wp_call_of hrun (hc.run m w _ _ ((hL i0).env_in hr.env) (by simp [h1]) (fun i x v h3 h4 => h2 i x v h3 (by simpa using h4))) ?_
  rintro e w' ⟨i, v, m', g', rfl, henv, hv⟩
  obtain ⟨g'', e1, e2, e3⟩ := (hL i).env_out hr.env henv
  refine ⟨v, rfl, hK _ _ ((h i).go C _ _ ⟨m', g'', ?_⟩)⟩
  rw [hd]
  have hrel : RelG C N ⟨tm.map (fun p => (p.1, p.2.clr (chgOf fw kp ow0))), bxAft fb fw (chgOf fw kp ow0) (bx1 i) bx, owAft fw ow0 (ow1 i) ow⟩ a w' m' g'' := ⟨e1, hr.size, hr.defers, fun s x hx => by
    rw [show get (tm.map fun p => (p.1, p.2.clr (chgOf fw kp ow0))) s = _ from get_mapv _ _ _] at hx
    cases h5 : get tm s with
    | none => rw [h5] at hx; cases hx
    | some y => rw [h5] at hx; injection hx with hx; subst hx; exact e2 y _ (hr.tmps s y h5)⟩
  exact hrel.put e1 (fun x v h => h) (Nat.lt_of_succ_le (Nat.le_of_ble_eq_true hN)) (e3 (r i) v hv)
end
section
variable {N : Nat} {tm : List (Nat × A)} {bx : List (Nat × List A)} {ow : List (Nat × Own)}
theorem weak_closeS (s i j : Nat) (a b : List (Value × Own)) {n : Nat} {o : Own} (hs : get tm s = some (.own j n)) (hb : get bx i = some [.rs (FamR (a ++ b))]) (hj : get ow j = some o) (hn : n = o.rows.length) (hc : chB i = true := by rfl) (hh : hid j = true := by rfl) :
    WeakE N ⟨tm, bx, ow⟩ fun x : Option Addr × Nat × Nat => ⟨(s, .t (.v (.slice x.1 x.2.1 x.2.2))) :: clT j tm, (i, [.rs (FamR (a ++ (.slice x.1 x.2.1 x.2.2, o) :: b))]) :: clX j bx, clO j ow⟩ := .mk fun C ac w ⟨m, g, hr⟩ => by
  obtain ⟨_, _, ⟨A0, c, hv⟩, h4⟩ := hr.tmps s _ hs
  have hgo := h4 (by rw [hr.env.ln j _ hj]; exact hn)
  have hu : g.go j = .slice A0 n c := hgo.symm.trans hv
  have h1 := hr.env.closeF (i := i) (j := j) (a := a) (b := b) hc hb hj hh
  rw [hu] at h1
  refine ⟨(A0, n, c), m, g.closeF i j, h1, hr.size, hr.defers, fun s' x hx => ?_⟩
  rw [get_cons] at hx
  split at hx
  · rename_i e; subst e; injection hx with hx; subst hx
    rw [hv]; exact .v _
  · exact clT_get hr hx
end
theorem mid_at {α β : Type} {f : α → β} {A B : List α} {a : α} : ((A ++ a :: B).map f)[A.length]? = some (f a) := by
  rw [List.map_append, List.map_cons, List.getElem?_append_right (by rw [List.length_map]; exact Nat.le_refl _), List.length_map, Nat.sub_self]; rfl
theorem mid_del {α β : Type} {f : α → β} {A B : List α} {a : α} : ((A ++ a :: B).map f).eraseIdx A.length = (A ++ B).map f := by
  rw [List.map_append, List.map_cons, List.eraseIdx_append_of_length_le (by rw [List.length_map]; exact Nat.le_refl _), List.length_map, Nat.sub_self, List.map_append]; rfl
theorem tunO_len (l : List ATun) : (tunO l).rows.length = l.length := List.length_map _
def oldQ (now : Int) (q : PQ) : Bool := decide (12 ≤ afterP now q.born)
def dueQ (now : Int) (q : PQ) : Bool := decide (q.n ≠ 0) && decide (3 ≤ afterP now q.since)
def sndQ (now : Int) (q : PQ) : Bool := !(oldQ now q) && dueQ now q
def beatQ (now : Int) (q : PQ) : PQ := if dueQ now q then { q with since := now } else q
def beatK (now : Int) (l : List PQ) : List PQ := (l.filter fun q => !(oldQ now q)).map (beatQ now)
def beatU (now u : Int) (l : List PQ) : Int := if l.any (sndQ now) then now else u
def beatD (now : Int) (t : PTun) (l : List PQ) : List PDo := (l.filter (sndQ now)).map fun q => askD t { q with since := now }
def beatF (now : Int) (l : List PQ) : List PFail := (l.filter (oldQ now)).map fun q => ⟨q.id, 9⟩
def beatT (now : Int) (t : PTun) (pre rest : List PQ) : PTun := { t with used := beatU now t.used pre, asks := beatK now pre ++ rest }
def beatW (W : PWk) (A B : List ATun) (t : PTun) (pre rest : List PQ) (u : Value) : PWk := { W with tuns := A ++ ⟨beatT W.now t pre rest, u⟩ :: B, dos := W.dos ++ beatD W.now t pre, fails := W.fails ++ beatF W.now pre }
section
variable {now : Int} {t : PTun} {pre rest : List PQ} {q : PQ}
theorem beatT_old (h : oldQ now q = true) : beatT now t (pre ++ [q]) rest = { beatT now t pre (q :: rest) with asks := beatK now pre ++ rest } := by
  unfold beatT beatK beatU; simp [h, sndQ]
theorem beatD_old (h : oldQ now q = true) : beatD now t (pre ++ [q]) = beatD now t pre := by unfold beatD; simp [h, sndQ]
theorem beatF_old (h : oldQ now q = true) : beatF now (pre ++ [q]) = beatF now pre ++ [⟨q.id, 9⟩] := by unfold beatF; simp [h]
theorem beatK_old (h : oldQ now q = true) : beatK now (pre ++ [q]) = beatK now pre := by unfold beatK; simp [h]
theorem beatF_young (h : oldQ now q = false) : beatF now (pre ++ [q]) = beatF now pre := by unfold beatF; simp [h]
theorem beatK_snd (h : oldQ now q = false) (h2 : dueQ now q = true) : beatK now (pre ++ [q]) = beatK now pre ++ [{ q with since := now }] := by unfold beatK beatQ; simp [h, h2]
theorem beatD_snd (h : oldQ now q = false) (h2 : dueQ now q = true) : beatD now t (pre ++ [q]) = beatD now t pre ++ [askD t { q with since := now }] := by unfold beatD; simp [h, h2, sndQ]
theorem beatU_snd (h : oldQ now q = false) (h2 : dueQ now q = true) {u : Int} : beatU now u (pre ++ [q]) = now := by unfold beatU; simp [h, h2, sndQ]
theorem beatK_keep (h : oldQ now q = false) (h2 : dueQ now q = false) : beatK now (pre ++ [q]) = beatK now pre ++ [q] := by unfold beatK beatQ; simp [h, h2]
theorem beatD_keep (h2 : dueQ now q = false) : beatD now t (pre ++ [q]) = beatD now t pre := by unfold beatD; simp [h2, sndQ]
theorem beatU_keep (h2 : dueQ now q = false) {u : Int} : beatU now u (pre ++ [q]) = beatU now u pre := by unfold beatU; simp [h2, sndQ]
theorem beatT_snd (h : oldQ now q = false) (h2 : dueQ now q = true) : sendT now (beatT now t pre (q :: rest)) (beatK now pre).length q = beatT now t (pre ++ [q]) rest := by
  have hn : ¬ q.n = 0 := by unfold dueQ at h2; simp at h2; exact h2.1
  unfold sendT sendS sendQ beatT
  rw [if_neg hn, if_neg hn, beatK_snd h h2, beatU_snd h h2]
  simp
theorem beatT_keep (h : oldQ now q = false) (h2 : dueQ now q = false) : beatT now t pre (q :: rest) = beatT now t (pre ++ [q]) rest := by
  unfold beatT
  rw [beatK_keep h h2, beatU_keep h2, List.append_assoc]; rfl
end
def wN (n a b c : Nat) (W : PWk) : List A := [.t (i64T W.node), .t (u64T W.inc), .t (u64T W.next), .own a n, .t (u64T W.now), .own b W.dos.length, .own c W.fails.length]
def SBt (W : PWk) (A B : List ATun) (t : PTun) (n : Nat) (x : (List PQ × List PQ) × Value) : St := ⟨[(0, .bp 2000 0), (1, .oe 2001 n 14 A.length 0), (4, .t (.v (.int .i64 ((beatK W.now x.1.1).length : Int))))],
  [(2000, wN n 2001 1002 1003 (beatW W A B t x.1.1 x.1.2 x.2)), (3000, [.rs (FamR (famT A ++ (x.2, ⟨70, 9, (beatK W.now x.1.1 ++ x.1.2).map askR⟩) :: famT B))])],
  [(2001, ⟨118, 14, (A ++ ⟨beatT W.now t x.1.1 x.1.2, x.2⟩ :: B).map tunR⟩), (1002, doO (beatW W A B t x.1.1 x.1.2 x.2).dos), (1003, failO (beatW W A B t x.1.1 x.1.2 x.2).fails)]⟩
def SBx (W : PWk) (A B : List ATun) (n k : Nat) (T : PTun) (u : Value) (qs : List PQ) (q : PQ) : St := ⟨[(0, .bp 2000 0), (1, .oe 2001 n 14 A.length 0), (4, .t (.v (.int .i64 (k : Int)))), (5, .bp 5 0)],
  [(2000, wN n 2001 1002 1003 W), (3000, [.rs (FamR (famT A ++ (u, ⟨70, 9, qs.map askR⟩) :: famT B))]), (5, (askR q).map .t)],
  [(2001, ⟨118, 14, (A ++ ⟨T, u⟩ :: B).map tunR⟩), (1002, doO W.dos), (1003, failO W.fails)]⟩
theorem failO_app (l : List PFail) (d : PFail) : (⟨82, 2, l.map failR ++ [failR d]⟩ : Own) = failO (l ++ [d]) := by unfold failO; rw [List.map_append]; rfl
theorem failN_app (l : List PFail) (d : PFail) : (l.map failR ++ [failR d]).length = (l ++ [d]).length := by rw [List.length_append, List.length_append, List.length_map]; rfl
set_option maxRecDepth 100000 in
set_option maxHeartbeats 4000000 in
theorem beats_ (W : PWk) (A B : List ATun) (a : ATun) (hW : W.tuns = A ++ a :: B) (hfew : FewTun a.t) (hd : W.dos.length ≤ 900000) (hf : W.fails.length ≤ 900000) : ECalls Try.prog 80 [.bp 2000 0, .oe 2001 W.tuns.length 14 A.length 0] (wB 2000 3000 2001 2002 2003 W) (wO 2001 2002 2003 W) (fun _ : Value => resA []) (fun u => wB 2000 3000 2001 1002 1003 (beatW W A B a.t a.t.asks [] u)) (fun u => wO 2001 1002 1003 (beatW W A B a.t a.t.asks [] u)) := by
  obtain ⟨wn, wi, wx, now, tuns, dos, fails⟩ := W
  dsimp only at hW hd hf
  subst hW
  obtain ⟨at_, au⟩ := a
  dsimp only at hfew
  have hlm : ∀ x : ATun, (A ++ x :: B).length = (A ++ (⟨at_, au⟩ : ATun) :: B).length := fun _ => len_mid
  refine ecalls_of Try.func80 rfl rfl Try.ntmps80 rfl ?_
  unfold wB wO wC
  dsimp only
  rw [famT_open]
  refine swp_weak (weak_ren 2002 1002 rfl rfl rfl rfl rfl rfl rfl) ?_
  refine swp_weak (weak_ren 2003 1003 rfl rfl rfl rfl rfl rfl rfl) ?_
  repeat' (first | refine rg 0 (aq0 ?_) | refine gc ?_ | refine ct ?_ | refine cf ?_ | refine sc ?_ ?_ <;> intro hc | refine rq rfl .nil ?_)
  refine swp_fam (SBt ⟨wn, wi, wx, now, A ++ ⟨at_, au⟩ :: B, dos, fails⟩ A B at_ (A ++ (⟨at_, au⟩ : ATun) :: B).length) (fun x => x.1.1 ++ x.1.2 = at_.asks) (fun x => x.1.2.length) (([], at_.asks), au) ?_ rfl ?_
  · unfold SBt beatW beatT beatK beatD beatF beatU
    dsimp only
    have e1 : dos ++ List.map (fun q => askD at_ { q with since := now }) (List.filter (sndQ now) []) = dos := List.append_nil _
    have e2 : fails ++ List.map (fun q => (⟨q.id, 9⟩ : PFail)) (List.filter (oldQ now) []) = fails := List.append_nil _
    rw [e1, e2]
    exact (weak_sub (.cons rfl rfl rfl (.cons rfl rfl rfl (.cons rfl rfl rfl .nil))) (.cons rfl rfl rfl (.cons rfl rfl rfl .nil)) (.cons rfl rfl (.cons rfl rfl (.cons rfl rfl .nil))))
  rintro ⟨⟨pre, rest⟩, u⟩ hx
  dsimp only at hx
  have hpl : pre.length ≤ 1000 := by have := congrArg List.length hx; rw [List.length_append] at this; have := hfew.asks; omega
  have hDl : (dos ++ beatD now at_ pre).length ≤ 901000 := by
    have h1 := List.length_filter_le (sndQ now) pre
    unfold beatD; rw [List.length_append, List.length_map]; omega
  have hFl : (fails ++ beatF now pre).length ≤ 901000 := by
    have h1 := List.length_filter_le (oldQ now) pre
    unfold beatF; rw [List.length_append, List.length_map]; omega
  have hKl : (beatK now pre).length ≤ 1000 := by
    have h1 := List.length_filter_le (fun q => !(oldQ now q)) pre
    unfold beatK; rw [List.length_map]; omega
  have hnl : (A ++ (⟨at_, au⟩ : ATun) :: B).length = ((A ++ (⟨beatT now at_ pre rest, u⟩ : ATun) :: B).map tunR).length := by rw [List.length_map]; exact (hlm _).symm
  have hat : ((A ++ (⟨beatT now at_ pre rest, u⟩ : ATun) :: B).map tunR)[A.length]? = some (tunR ⟨beatT now at_ pre rest, u⟩) := tunO_at
  unfold SBt wN beatW
  dsimp only
  have hml : ((beatK now pre ++ rest).map askR).length = (beatK now pre ++ rest).length := List.length_map _
  repeat' (first | refine rg 0 (aq0 ?_) | refine gc ?_ | refine ct ?_ | refine cf ?_ | refine sc ?_ ?_ <;> intro hc | refine rq rfl .nil ?_)
  refine rg 1 ?_
  refine oMv ?_
  refine oMv ?_
  refine sp (po_nilcheck_oe rfl rfl rfl hnl) ?_
  refine sp (fdo rfl) ?_
  refine sp (ldo rfl) ?_
  refine sops_weak (weak_openF 10 3000 1005 90000 (a := famT A) (b := famT B) (o := ⟨70, 9, (beatK now pre ++ rest).map askR⟩) rfl rfl rfl) ?_
  refine sp (po_len_own rfl rfl (tyS rfl)) ?_
  refine sops_weak (weak_closeV 10 3000 1005 90000 (famT A) (famT B) rfl rfl rfl rfl rfl rfl) ?_
  refine oCm ?_
  refine oN ?_
  rcases rest with _ | ⟨q, rest⟩
  · rw [List.append_nil] at hx
    subst hx
    have hge : ¬ (((beatK now at_.asks).length : Int) < (((beatK now at_.asks ++ []).map askR).length : Int)) := by rw [hml, List.append_nil]; omega
    repeat' (first | refine then_go ?_ | refine swp_seq ?_ | refine fam_exit ?_ | refine block_exit ?_ | refine rg 0 (aq0 ?_) | refine swp_ret ?_ | refine swp_skip ?_ | refine swp_block ?_ | refine swp_exit ?_ | refine block_go ?_ | refine block_exit ?_ | refine block_far rfl ?_ | refine block_ret ?_ | refine then_ret ?_ | refine then_exit ?_ | refine for_ret ?_ | refine for_exit ?_ | refine ct ?_ | refine cf ?_ | refine sc ?_ ?_ <;> intro hc | refine rq rfl .nil ?_)
    refine rete u ?_
    dsimp only
    rw [famT_open, hlm ⟨beatT now at_ at_.asks [], u⟩]
    exact retl (.inl rfl) rfl .nil rfl rfl (.cons rfl rfl rfl (.cons rfl rfl rfl .nil)) (.cons rfl rfl (.cons rfl rfl (.cons rfl rfl .nil)))
  · have hltN : (beatK now pre).length < ((beatK now pre ++ q :: rest).map askR).length := by rw [hml, List.length_append, List.length_cons]; omega
    have hltI : ((beatK now pre).length : Int) < (((beatK now pre ++ q :: rest).map askR).length : Int) := by omega
    have hatq : ((beatK now pre ++ q :: rest).map askR)[(beatK now pre).length]? = some (askR q) := mid_at
    repeat' (first | refine rg 0 (aq0 ?_) | refine gc ?_ | refine ct ?_ | refine cf ?_ | refine sc ?_ ?_ <;> intro hc | refine rq rfl .nil ?_)
    refine rg 2 ?_
    refine oMv ?_
    refine sp (po_nilcheck_oe rfl rfl rfl hnl) ?_
    refine sp (fdo rfl) ?_
    refine sp (ldo rfl) ?_
    refine sops_weak (weak_openF 16 3000 1005 90000 (a := famT A) (b := famT B) (o := ⟨70, 9, (beatK now pre ++ q :: rest).map askR⟩) rfl rfl rfl) ?_
    refine oMv ?_
    refine sp (ixo rfl) ?_
    refine sp (po_load_own_agg (ts := askR q) rfl rfl rfl rfl (tyT rfl) hatq rfl rfl) ?_
    refine sops_weak (weak_closeV 16 3000 1005 90000 (famT A) (famT B) rfl rfl rfl rfl rfl rfl) ?_
    refine sal str70 ?_
    refine oS ?_
    refine oN ?_
    have c1 := after_ ⟨wn, wi, wx, now, A ++ ⟨beatT now at_ pre (q :: rest), u⟩ :: B, dos ++ beatD now at_ pre, fails ++ beatF now pre⟩ q.born
    unfold wX wO wC at c1
    dsimp only at c1
    rw [hlm ⟨beatT now at_ pre (q :: rest), u⟩] at c1
    repeat' (first | (refine rg 3 ?_; refine oMv ?_; refine oFb ?_; refine oLb ?_; refine sops_lcall (c1) (fun i => i) (fun i => bif Nat.beq i 2002 then 1002 else bif Nat.beq i 2003 then 1003 else i) (fun i => Nat.beq i 2001) (.free rfl rfl) rfl rfl rfl (by ((repeat' (first | exact .nil | refine .cons rfl rfl rfl ?_)) <;> fail)) (.cons rfl rfl .nil) (.cons rfl rfl (.cons rfl rfl (.cons rfl rfl .nil))) rfl rfl (kp_id 2001 rfl rfl rfl (by rfl)) ?_; refine aq17 ?_) | refine gc ?_ | refine ct ?_ | refine cf ?_ | refine sc ?_ ?_ <;> intro hc | refine rq rfl .nil ?_)
    · have ho : oldQ now q = true := hc
      refine swp_weak (st' := SBx ⟨wn, wi, wx, now, [], dos ++ beatD now at_ pre, fails ++ beatF now pre⟩ A B (A ++ (⟨at_, au⟩ : ATun) :: B).length (beatK now pre).length (beatT now at_ pre (q :: rest)) u (beatK now pre ++ q :: rest) q) (weak_sub (.cons rfl rfl rfl (.cons rfl rfl rfl (.cons rfl rfl rfl (.cons rfl rfl rfl .nil)))) (.cons rfl rfl rfl (.cons rfl rfl rfl (.cons rfl rfl rfl .nil))) (.cons rfl rfl (.cons rfl rfl (.cons rfl rfl .nil)))) ?_
      unfold SBx wN
      dsimp only
      repeat' (first | ((refine swp_any (id := 4) [[], [], [], [], [], [], [], [], [], [1003], [], [], [2000]] [[1003], [], [], [], [], [], [], [], [], [], [], [], []] mixed (by kernel_rfl) ?_) <;> refine yp (fun _ _ => po_move rfl rfl) ?_ <;> refine yp (fun _ _ => po_move rfl rfl) ?_ <;> refine yp (fun _ _ => po_nilcheck rfl rfl) ?_ <;> refine yp (fun _ _ => po_field_bx rfl rfl (tyF rfl)) ?_ <;> refine yp (fun _ _ => po_load_bx rfl rfl (tyT rfl) rfl rfl) ?_ <;> refine yp (fun _ _ => po_field_bx rfl rfl (tyF rfl)) ?_ <;> refine yp (fun _ _ => po_load_bx rfl rfl (tyT rfl) rfl rfl) ?_ <;> refine yp (fun _ _ => po_buildS str82 rfl (pc (pc .nil)) rfl) ?_ <;> refine yp (fun _ _ => po_buildSlice rfl (tyE rfl) (dc (.nil _)) rfl rfl rfl) ?_ <;> refine sany_eff [] [(1003, _)] (.free rfl rfl) rfl rfl (fun _ _ _ _ => e_append rfl rfl rfl (by first | rfl | simp) rfl (by exact .t _) (tyE rfl) (by first | assumption | (simp only [List.length_map, List.length_cons, List.length_nil]; omega)) (by first | assumption | (unfold maxLen; simp only [List.length_map, List.length_cons, List.length_nil]; omega))) ?_ <;> refine yp (fun _ _ => po_nilcheck rfl rfl) ?_ <;> refine yp (fun _ _ => po_field_bx rfl rfl (tyF rfl)) ?_ <;> refine sany_eff [(2000, _)] [] (.free rfl rfl) rfl rfl (fun _ _ _ _ => e_store rfl rfl rfl rfl rfl rfl (tyT rfl) rfl rfl) ?_ <;> refine sany_nil ?_) | refine gc ?_ | refine ct ?_ | refine cf ?_ | refine sc ?_ ?_ <;> intro hc | refine rq rfl .nil ?_)
      have e1 := failO_app (fails ++ beatF now pre) ⟨q.id, 9⟩
      have e2 := failN_app (fails ++ beatF now pre) ⟨q.id, 9⟩
      refine swp_weak (st' := SBx ⟨wn, wi, wx, now, [], dos ++ beatD now at_ pre, (fails ++ beatF now pre) ++ [⟨q.id, 9⟩]⟩ A B (A ++ (⟨at_, au⟩ : ATun) :: B).length (beatK now pre).length (beatT now at_ pre (q :: rest)) u (beatK now pre ++ q :: rest) q) (weak_sub (.cons rfl (by first | rfl | (first | (exact e1) | (exact congrArg (fun n => [Sim.A.t (i64T wn), Sim.A.t (u64T wi), Sim.A.t (u64T wx), Sim.A.own 2001 (A ++ (⟨at_, au⟩ : ATun) :: B).length, Sim.A.t (u64T now), Sim.A.own 1002 (dos ++ beatD now at_ pre).length, Sim.A.own 1003 n]) e2))) rfl (.cons rfl (by first | rfl | (first | (exact e1) | (exact congrArg (fun n => [Sim.A.t (i64T wn), Sim.A.t (u64T wi), Sim.A.t (u64T wx), Sim.A.own 2001 (A ++ (⟨at_, au⟩ : ATun) :: B).length, Sim.A.t (u64T now), Sim.A.own 1002 (dos ++ beatD now at_ pre).length, Sim.A.own 1003 n]) e2))) rfl (.cons rfl (by first | rfl | (first | (exact e1) | (exact congrArg (fun n => [Sim.A.t (i64T wn), Sim.A.t (u64T wi), Sim.A.t (u64T wx), Sim.A.own 2001 (A ++ (⟨at_, au⟩ : ATun) :: B).length, Sim.A.t (u64T now), Sim.A.own 1002 (dos ++ beatD now at_ pre).length, Sim.A.own 1003 n]) e2))) rfl (.cons rfl (by first | rfl | (first | (exact e1) | (exact congrArg (fun n => [Sim.A.t (i64T wn), Sim.A.t (u64T wi), Sim.A.t (u64T wx), Sim.A.own 2001 (A ++ (⟨at_, au⟩ : ATun) :: B).length, Sim.A.t (u64T now), Sim.A.own 1002 (dos ++ beatD now at_ pre).length, Sim.A.own 1003 n]) e2))) rfl .nil)))) (.cons rfl (by first | rfl | (first | (exact e1) | (exact congrArg (fun n => [Sim.A.t (i64T wn), Sim.A.t (u64T wi), Sim.A.t (u64T wx), Sim.A.own 2001 (A ++ (⟨at_, au⟩ : ATun) :: B).length, Sim.A.t (u64T now), Sim.A.own 1002 (dos ++ beatD now at_ pre).length, Sim.A.own 1003 n]) e2))) rfl (.cons rfl (by first | rfl | (first | (exact e1) | (exact congrArg (fun n => [Sim.A.t (i64T wn), Sim.A.t (u64T wi), Sim.A.t (u64T wx), Sim.A.own 2001 (A ++ (⟨at_, au⟩ : ATun) :: B).length, Sim.A.t (u64T now), Sim.A.own 1002 (dos ++ beatD now at_ pre).length, Sim.A.own 1003 n]) e2))) rfl (.cons rfl (by first | rfl | (first | (exact e1) | (exact congrArg (fun n => [Sim.A.t (i64T wn), Sim.A.t (u64T wi), Sim.A.t (u64T wx), Sim.A.own 2001 (A ++ (⟨at_, au⟩ : ATun) :: B).length, Sim.A.t (u64T now), Sim.A.own 1002 (dos ++ beatD now at_ pre).length, Sim.A.own 1003 n]) e2))) rfl .nil))) (.cons rfl (by first | rfl | (first | (exact e1) | (exact congrArg (fun n => [Sim.A.t (i64T wn), Sim.A.t (u64T wi), Sim.A.t (u64T wx), Sim.A.own 2001 (A ++ (⟨at_, au⟩ : ATun) :: B).length, Sim.A.t (u64T now), Sim.A.own 1002 (dos ++ beatD now at_ pre).length, Sim.A.own 1003 n]) e2))) (.cons rfl (by first | rfl | (first | (exact e1) | (exact congrArg (fun n => [Sim.A.t (i64T wn), Sim.A.t (u64T wi), Sim.A.t (u64T wx), Sim.A.own 2001 (A ++ (⟨at_, au⟩ : ATun) :: B).length, Sim.A.t (u64T now), Sim.A.own 1002 (dos ++ beatD now at_ pre).length, Sim.A.own 1003 n]) e2))) (.cons rfl (by first | rfl | (first | (exact e1) | (exact congrArg (fun n => [Sim.A.t (i64T wn), Sim.A.t (u64T wi), Sim.A.t (u64T wx), Sim.A.own 2001 (A ++ (⟨at_, au⟩ : ATun) :: B).length, Sim.A.t (u64T now), Sim.A.own 1002 (dos ++ beatD now at_ pre).length, Sim.A.own 1003 n]) e2))) .nil)))) ?_
      unfold SBx wN
      dsimp only
      refine rg 5 ?_
      refine oMv ?_
      refine oMv ?_
      refine sp (po_nilcheck_oe rfl rfl rfl hnl) ?_
      refine sp (fdo rfl) ?_
      refine sp (ldo rfl) ?_
      refine sops_weak (weak_openF 42 3000 1005 90000 (a := famT A) (b := famT B) (o := ⟨70, 9, (beatK now pre ++ q :: rest).map askR⟩) rfl rfl rfl) ?_
      refine oMv ?_
      refine oMv ?_
      refine sp (xadd rfl) ?_
      have c2 := delQs ((beatK now pre ++ q :: rest).map askR) (beatK now pre).length _ rfl hltN
      rw [mid_del, show ((beatK now pre ++ q :: rest).map askR).length - 1 = ((beatK now pre ++ rest).map askR).length by rw [hml, List.length_map, List.length_append, List.length_append, List.length_cons]; omega] at c2
      refine sops_lcall c2 (fun i => i) (fun i => bif Nat.beq i 2001 then 1005 else bif Nat.beq i 1001 then 1006 else i) (fun _ => false) (.free rfl rfl) rfl rfl rfl (.cons rfl rfl rfl (.cons rfl rfl rfl (.cons rfl rfl rfl .nil))) .nil (.cons rfl rfl .nil) rfl rfl (fun _ h => Bool.noConfusion h) ?_
      refine sops_weakE (weak_closeS 46 3000 1006 (famT A) (famT B) rfl rfl rfl rfl) fun y => ?_
      refine sp (po_nilcheck_oe rfl rfl rfl hnl) ?_
      refine sp (fdo rfl) ?_
      refine sso ?_
      refine oN ?_
      have f1 := tunO_set (A := A) (B := B) (a := ⟨beatT now at_ pre (q :: rest), u⟩) ⟨{ beatT now at_ pre (q :: rest) with asks := beatK now pre ++ rest }, .slice y.1 y.2.1 y.2.2⟩
      have f1' := congrArg (fun r => (⟨118, 14, r⟩ : Own)) f1
      repeat' (first | refine rg 0 (aq0 ?_) | refine gc ?_ | refine ct ?_ | refine cf ?_ | refine sc ?_ ?_ <;> intro hc | refine rq rfl .nil ?_)
      refine fam_next ((pre ++ [q], rest), .slice y.1 y.2.1 y.2.2) (by simp) ?_ (by rw [List.append_assoc]; exact hx)
      dsimp only
      rw [beatK_old ho, beatD_old ho, beatF_old ho, beatT_old ho, ← List.append_assoc fails]
      exact (weak_sub (.cons rfl (by first | rfl | (first | (exact f1'))) rfl (.cons rfl (by first | rfl | (first | (exact f1'))) rfl (.cons rfl (by first | rfl | (first | (exact f1'))) rfl .nil))) (.cons rfl (by first | rfl | (first | (exact f1'))) rfl (.cons rfl (by first | rfl | (first | (exact f1'))) rfl .nil)) (.cons rfl (by first | rfl | (first | (exact f1'))) (.cons rfl (by first | rfl | (first | (exact f1'))) (.cons rfl (by first | rfl | (first | (exact f1'))) .nil))))
    · have ho : oldQ now q = false := hc
      refine swp_weak (st' := SBx ⟨wn, wi, wx, now, [], dos ++ beatD now at_ pre, fails ++ beatF now pre⟩ A B (A ++ (⟨at_, au⟩ : ATun) :: B).length (beatK now pre).length (beatT now at_ pre (q :: rest)) u (beatK now pre ++ q :: rest) q) (weak_sub (.cons rfl rfl rfl (.cons rfl rfl rfl (.cons rfl rfl rfl (.cons rfl rfl rfl .nil)))) (.cons rfl rfl rfl (.cons rfl rfl rfl (.cons rfl rfl rfl .nil))) (.cons rfl rfl (.cons rfl rfl (.cons rfl rfl .nil)))) ?_
      unfold SBx wN
      dsimp only
      have c3 := after_ ⟨wn, wi, wx, now, A ++ ⟨beatT now at_ pre (q :: rest), u⟩ :: B, dos ++ beatD now at_ pre, fails ++ beatF now pre⟩ q.since
      unfold wX wO wC at c3
      dsimp only at c3
      rw [hlm ⟨beatT now at_ pre (q :: rest), u⟩] at c3
      repeat' (first | (refine rg 6 ?_; refine oFb ?_; refine oLb ?_; refine oCm ?_; refine oMv ?_; (first | refine oMv ?_ | refine oK ?_ | ((refine ssp (fun hc => ?_) (fun hc => ?_)) <;> first | refine oMv ?_ | refine oK ?_)) <;> (first | refine oFb ?_ | refine oFd ?_ | refine sp (fdo rfl) ?_ | refine oK ?_) <;> (first | refine oLb ?_ | refine oLd ?_ | refine sp (ldo rfl) ?_ | refine oK ?_) <;> (first | refine sops_lcall (c3) (fun i => i) (fun i => bif Nat.beq i 2002 then 1002 else bif Nat.beq i 2003 then 1003 else i) (fun i => Nat.beq i 2001) gy rfl rfl rfl (by ((repeat' (first | exact .nil | refine .cons rfl rfl rfl ?_)) <;> fail)) (.cons rfl rfl .nil) (.cons rfl rfl (.cons rfl rfl (.cons rfl rfl .nil))) rfl rfl (kp_id 2001 rfl rfl rfl (by rfl)) ?_ | refine oK ?_) <;> (first | refine oCm ?_ | refine oK ?_) <;> (first | refine oPt ?_ | refine oPf ?_) <;> refine oAs ?_ <;> refine oN ?_) | refine gc ?_ | refine ct ?_ | refine cf ?_ | refine sc ?_ ?_ <;> intro hc | refine rq rfl .nil ?_)
      · have hdu : dueQ now q = true := by unfold dueQ; rw [show decide (q.n ≠ 0) = !decide (q.n = 0) from by simp]; simp_all
        have hn0 : ¬ q.n = 0 := by unfold dueQ at hdu; simp at hdu; exact hdu.1
        have hmem : q ∈ at_.asks := by rw [← hx]; simp
        have c4 := send_ ⟨wn, wi, wx, now, A ++ ⟨beatT now at_ pre (q :: rest), u⟩ :: B, dos ++ beatD now at_ pre, fails ++ beatF now pre⟩ A B ⟨beatT now at_ pre (q :: rest), u⟩ (beatK now pre).length q rfl (by show _ < (beatK now pre ++ q :: rest).length; rw [List.length_append, List.length_cons]; omega) (by show (beatK now pre ++ q :: rest)[_]? = _; rw [List.getElem?_append_right (Nat.le_refl _), Nat.sub_self]; rfl) (fun s => ⟨(hfew.each q hmem).bytes⟩) (by show (dos ++ beatD now at_ pre).length ≤ _; omega)
        unfold wB wO wC sendW addD at c4
        dsimp only at c4
        rw [beatT_snd ho hdu, famT_open (a := ⟨beatT now at_ pre (q :: rest), u⟩), famT_open (a := ⟨beatT now at_ (pre ++ [q]) rest, u⟩), hlm ⟨beatT now at_ pre (q :: rest), u⟩, hlm ⟨beatT now at_ (pre ++ [q]) rest, u⟩] at c4
        have e2 : ∀ s, sendQ now s q = { q with since := now } := fun s => by unfold sendQ; rw [if_neg hn0]
        rw [e2] at c4
        refine swp_weak (st' := SBx ⟨wn, wi, wx, now, [], dos ++ beatD now at_ pre, fails ++ beatF now pre⟩ A B (A ++ (⟨at_, au⟩ : ATun) :: B).length (beatK now pre).length (beatT now at_ pre (q :: rest)) u (beatK now pre ++ q :: rest) q) (weak_sub (.cons rfl rfl rfl (.cons rfl rfl rfl (.cons rfl rfl rfl (.cons rfl rfl rfl .nil)))) (.cons rfl rfl rfl (.cons rfl rfl rfl (.cons rfl rfl rfl .nil))) (.cons rfl rfl (.cons rfl rfl (.cons rfl rfl .nil)))) ?_
        unfold SBx wN
        dsimp only
        refine rg 7 ?_
        refine oMv ?_
        refine oMv ?_
        refine oMv ?_
        refine sops_lcall c4 (fun i => i) (fun i => bif Nat.beq i 2002 then 1002 else bif Nat.beq i 2003 then 1003 else bif Nat.beq i 1002 then 1012 else i) (fun i => Nat.beq i 2001) (.free rfl rfl) rfl rfl rfl (.cons rfl rfl rfl (.cons rfl rfl rfl (.cons rfl rfl rfl .nil))) (.cons rfl rfl (.cons rfl rfl .nil)) (.cons rfl rfl (.cons rfl rfl (.cons rfl rfl .nil))) rfl rfl (kp_id 2001 rfl rfl rfl (by rw [tunO_len, tunO_len]; exact len_mid)) ?_
        refine oN ?_
        repeat' (first | refine rg 8 (aq18 ?_) | refine gc ?_ | refine ct ?_ | refine cf ?_ | refine sc ?_ ?_ <;> intro hc | refine rq rfl .nil ?_)
        refine fam_next ((pre ++ [q], rest), u) (by simp) ?_ (by rw [List.append_assoc]; exact hx)
        dsimp only
        rw [beatK_snd ho hdu, beatD_snd ho hdu, beatF_young ho, ← List.append_assoc dos]
        have e5 : askO (beatT now at_ (pre ++ [q]) rest) = ⟨70, 9, (beatK now pre ++ [{ q with since := now }] ++ rest).map askR⟩ := by unfold askO beatT; rw [beatK_snd ho hdu]
        refine (weak_ren 1012 1002 rfl rfl rfl rfl rfl rfl rfl).trans ?_
        exact (weak_sub (.cons rfl (by first | rfl | (first | (rw [List.length_append]; rfl) | (rw [← e5]; rfl))) rfl (.cons rfl (by first | rfl | (first | (rw [List.length_append]; rfl) | (rw [← e5]; rfl))) rfl (.cons rfl (by first | rfl | (first | (rw [List.length_append]; rfl) | (rw [← e5]; rfl))) rfl .nil))) (.cons rfl (by first | rfl | (first | (rw [List.length_append]; rfl) | (rw [← e5]; rfl))) rfl (.cons rfl (by first | rfl | (first | (rw [List.length_append]; rfl) | (rw [← e5]; rfl))) rfl .nil)) (.cons rfl (by first | rfl | (first | (rw [List.length_append]; rfl) | (rw [← e5]; rfl))) (.cons rfl (by first | rfl | (first | (rw [List.length_append]; rfl) | (rw [← e5]; rfl))) (.cons rfl (by first | rfl | (first | (rw [List.length_append]; rfl) | (rw [← e5]; rfl))) .nil))))
      · have hdu : dueQ now q = false := by unfold dueQ; rw [show decide (q.n ≠ 0) = !decide (q.n = 0) from by simp]; simp_all
        repeat' (first | refine rg 8 (aq18 ?_) | refine gc ?_ | refine ct ?_ | refine cf ?_ | refine sc ?_ ?_ <;> intro hc | refine rq rfl .nil ?_)
        refine fam_next ((pre ++ [q], rest), u) (by simp) ?_ (by rw [List.append_assoc]; exact hx)
        dsimp only
        rw [beatK_keep ho hdu, beatD_keep hdu, beatF_young ho, ← beatT_keep ho hdu, List.append_assoc (beatK now pre)]
        exact (weak_sub (.cons rfl (by first | rfl | (first | (rw [List.length_append]; rfl))) rfl (.cons rfl (by first | rfl | (first | (rw [List.length_append]; rfl))) rfl (.cons rfl (by first | rfl | (first | (rw [List.length_append]; rfl))) rfl .nil))) (.cons rfl (by first | rfl | (first | (rw [List.length_append]; rfl))) rfl (.cons rfl (by first | rfl | (first | (rw [List.length_append]; rfl))) rfl .nil)) (.cons rfl (by first | rfl | (first | (rw [List.length_append]; rfl))) (.cons rfl (by first | rfl | (first | (rw [List.length_append]; rfl))) (.cons rfl (by first | rfl | (first | (rw [List.length_append]; rfl))) .nil))))
      · have hdu : dueQ now q = false := by unfold dueQ; rw [show decide (q.n ≠ 0) = !decide (q.n = 0) from by simp]; simp_all
        repeat' (first | refine rg 8 (aq18 ?_) | refine gc ?_ | refine ct ?_ | refine cf ?_ | refine sc ?_ ?_ <;> intro hc | refine rq rfl .nil ?_)
        refine fam_next ((pre ++ [q], rest), u) (by simp) ?_ (by rw [List.append_assoc]; exact hx)
        dsimp only
        rw [beatK_keep ho hdu, beatD_keep hdu, beatF_young ho, ← beatT_keep ho hdu, List.append_assoc (beatK now pre)]
        exact (weak_sub (.cons rfl (by first | rfl | (first | (rw [List.length_append]; rfl))) rfl (.cons rfl (by first | rfl | (first | (rw [List.length_append]; rfl))) rfl (.cons rfl (by first | rfl | (first | (rw [List.length_append]; rfl))) rfl .nil))) (.cons rfl (by first | rfl | (first | (rw [List.length_append]; rfl))) rfl (.cons rfl (by first | rfl | (first | (rw [List.length_append]; rfl))) rfl .nil)) (.cons rfl (by first | rfl | (first | (rw [List.length_append]; rfl))) (.cons rfl (by first | rfl | (first | (rw [List.length_append]; rfl))) (.cons rfl (by first | rfl | (first | (rw [List.length_append]; rfl))) .nil))))
end Go.Proofs.Ytabejnjnkpdjbaa.Sim
