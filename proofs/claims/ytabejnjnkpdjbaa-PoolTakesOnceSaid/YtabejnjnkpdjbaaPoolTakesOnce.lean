/- The law PoolTakesOnce. -/
import Derived.Test.YtabejnjnkpdjbaaS34
namespace Go.Proofs.Ytabejnjnkpdjbaa.Sim
set_option linter.unusedVariables false
set_option linter.unusedSimpArgs false
open Go.RowKit Mem
def nT (n : Int) : List T := [u64T n]
def bT (b : Bool) : List T := [.v (.bool b)]
def cntN (l : List Int) (n : Int) : Nat := l.countP fun x => decide (x = n)
theorem cntN_snoc (l : List Int) (n x : Int) : cntN (l ++ [x]) n = cntN l n + if x = n then 1 else 0 := by
  unfold cntN
  rw [List.countP_append, List.countP_cons, List.countP_nil]
  by_cases h : x = n <;> simp [h]
theorem cntN_pos {l : List Int} {n : Int} (h : n ∈ l) : 0 < cntN l n := by
  unfold cntN; rw [List.countP_pos_iff]; exact ⟨n, h, by simp⟩
theorem cntN_zero {l : List Int} {n : Int} (h : n ∉ l) : cntN l n = 0 := by
  unfold cntN; rw [List.countP_eq_zero]; intro x hx
  have : x ≠ n := fun e => h (e ▸ hx)
  simpa using this
theorem cntN_one {l : List Int} {n : Int} (h : n ∈ l) (hd : l.Nodup) : cntN l n = 1 := by
  induction l with
  | nil => cases h
  | cons x l ih =>
    obtain ⟨h1, h2⟩ := List.nodup_cons.1 hd
    unfold cntN at ih ⊢
    rw [List.countP_cons]
    by_cases e : x = n
    · subst e
      have := cntN_zero h1
      unfold cntN at this
      rw [this]; simp
    · rcases List.mem_cons.1 h with rfl | h
      · exact absurd rfl e
      · rw [ih h h2]; simp [e]
theorem cntN_le (l : List Int) (n : Int) : cntN l n ≤ l.length := List.countP_le_length
set_option maxRecDepth 100000 in
set_option maxHeartbeats 2000000 in
theorem count_ (l : List Int) (n : Int) (hl : l.length ≤ 1000000) : PCalls Try.prog 12 [.sl 1 (l.map nT), u64T n] (i64T ((cntN l n : Nat) : Int)) := by
  have hm : (l.map nT).length = l.length := List.length_map _
  refine pcalls_of Try.func12 rfl rfl Try.ntmps12 rfl ?_
  repeat' (first | (refine rg 0 ?_; refine oAs ?_; refine oN ?_) | (refine rg 1 ?_; refine oAs ?_; refine oN ?_) | (refine rg 2 ?_; refine oAs ?_; refine oN ?_) | refine gc ?_ | refine ct ?_ | refine cf ?_ | refine swp_cond rfl (fun hc => ?_) (fun hc => ?_) | refine rq rfl (rt .nil) ?_)
  refine swp_for (fun k => ⟨[(0, .t (.sl 1 (l.map nT))), (1, .t (u64T n)), (5, .t (i64T ((cntN (l.take k) n : Nat) : Int))), (6, .t (i64T (k : Int)))], [], []⟩) (fun _ => True) l.length ?_ trivial ?_
  · exact (weak_sub (.cons rfl rfl rfl (.cons rfl rfl rfl (.cons rfl rfl rfl (.cons rfl rfl rfl .nil)))) .nil .nil)
  intro k hk _
  by_cases hlt : k < l.length
  · have hltI : (k : Int) < ((l.map nT).length : Int) := by omega
    have hrow : (l.map nT)[k]? = some (nT l[k]) := map_at_some hlt
    have hlt2 : k < (l.map nT).length := by omega
    have hst : cntN (l.take (k + 1)) n = cntN (l.take k) n + if l[k] = n then 1 else 0 := by rw [List.take_succ_eq_append_getElem hlt, cntN_snoc]
    have hcb := cntN_le (l.take k) n
    have htl : (l.take k).length ≤ l.length := by rw [List.length_take]; omega
    generalize l[k] = x at *
    generalize cntN (l.take k) n = c at *
    by_cases he : x = n
    · have hd : decide (x = n) = true := decide_eq_true he
      rw [if_pos he] at hst
      repeat' (first | refine for_next hlt (weak_sub (.cons rfl (by rfl) rfl (.cons rfl (by rfl) rfl (.cons rfl (by first | rfl | ((rw [hst]))) rfl (.cons rfl (by rfl) rfl .nil)))) .nil .nil) trivial | (refine rg 3 ?_; refine oMv ?_; refine oMv ?_; refine sp (pln rfl (tyS rfl)) ?_; refine oCm ?_; refine oN ?_) | (refine rg 5 ?_; refine oMv ?_; refine oMv ?_; refine sp (pix rfl (tyS rfl)) ?_; (first | refine oLb ?_ | refine oLd ?_); refine oMv ?_; refine oCm ?_; refine oN ?_) | (refine rg 6 ?_; refine oMv ?_; refine sp (xinc rfl) ?_; refine oAs ?_; refine oN ?_) | (refine rg 4 ?_; refine oMv ?_; refine sp (xinc rfl) ?_; refine oAs ?_; refine oN ?_) | refine gc ?_ | refine ct ?_)
    · have hd : decide (x = n) = false := decide_eq_false he
      rw [if_neg he] at hst
      repeat' (first | refine for_next hlt (weak_sub (.cons rfl (by rfl) rfl (.cons rfl (by rfl) rfl (.cons rfl (by first | rfl | ((rw [hst]; rfl))) rfl (.cons rfl (by rfl) rfl .nil)))) .nil .nil) trivial | (refine rg 3 ?_; refine oMv ?_; refine oMv ?_; refine sp (pln rfl (tyS rfl)) ?_; refine oCm ?_; refine oN ?_) | (refine rg 5 ?_; refine oMv ?_; refine oMv ?_; refine sp (pix rfl (tyS rfl)) ?_; (first | refine oLb ?_ | refine oLd ?_); refine oMv ?_; refine oCm ?_; refine oN ?_) | (refine rg 4 ?_; refine oMv ?_; refine sp (xinc rfl) ?_; refine oAs ?_; refine oN ?_) | refine gc ?_ | refine ct ?_ | refine cf ?_)
  · obtain rfl : k = l.length := by omega
    have hltI : ¬ ((l.length : Nat) : Int) < ((l.map nT).length : Int) := by omega
    rw [List.take_length]
    repeat' (first | (refine rg 3 ?_; refine oMv ?_; refine oMv ?_; refine sp (pln rfl (tyS rfl)) ?_; refine oCm ?_; refine oN ?_) | (refine rg 7 ?_; refine oMv ?_; refine oAs ?_; refine oN ?_) | refine gc ?_ | refine ct ?_ | refine cf ?_ | refine swp_cond rfl (fun hc => ?_) (fun hc => ?_) | refine rq rfl (rt .nil) ?_)
    all_goals rfl
def tIn (T : List PTk) : PIn := ⟨2, 1, 1, 2, 2, .empty, .empty, 0, 0, 0, 0, 0, 0, T⟩
def codeN (n : Int) : Int := IntKind.i64.wrap (IntKind.u64.wrap ((BitVec.ofInt IntKind.u64.bits n &&& BitVec.ofInt IntKind.u64.bits 1023).toNat : Int))
def byteN (n : Int) : UInt8 := UInt8.ofNat (IntKind.u8.wrap n).toNat
theorem byteN_eq (n : Int) : IntKind.u8.wrap n = ((byteN n).toNat : Int) := by
  have h1 : 0 ≤ IntKind.u8.wrap n ∧ IntKind.u8.wrap n < 256 := by
    unfold IntKind.wrap
    simp [IntKind.bits, IntKind.signed]
    omega
  unfold byteN
  rw [UInt8.toNat_ofNat']
  omega
theorem takeP_t {T : List PTk} {n : Int} (hn : n ≠ 0) : takeP [tIn T] 0 2 2 1 1 2 n = ([(takeT 0 n (tIn T)).1], (takeT 0 n (tIn T)).2.1, (takeT 0 n (tIn T)).2.2) := by
  have hc : cutL (pOf 2 2 1 1 2) [tIn T] = some ([], tIn T, []) := by
    refine cutL_hit (A := []) (fun x hx => by cases hx) ?_
    unfold pOf tIn; simp
  unfold takeP
  rw [hc]
  dsimp only
  rw [if_neg hn]
  rfl
theorem takeP_0 {T : List PTk} : takeP [tIn T] 0 2 2 1 1 2 0 = ([tIn T], 0, zeroK) := by
  have hc : cutL (pOf 2 2 1 1 2) [tIn T] = some ([], tIn T, []) := by
    refine cutL_hit (A := []) (fun x hx => by cases hx) ?_
    unfold pOf tIn; simp
  unfold takeP
  rw [hc]; rfl
theorem doneP_t {T : List PTk} {d : PTk} : doneP [tIn T] 2 1 1 d = [tIn (doneK d (tIn T)).taken] := by
  have hc : cutL (pIn 2 1 1) [tIn T] = some ([], tIn T, []) := by
    refine cutL_hit (A := []) (fun x hx => by cases hx) ?_
    unfold pIn tIn; simp
  unfold doneP
  rw [hc]
  dsimp only
  unfold doneK
  split
  · rfl
  · split <;> rfl
/-- where the law's loop is: what was taken, what was new, what was answered -/
structure TkX where
  k : Nat
  T : List PTk
  fresh : List Int
  done : List Int
structure TkOk2 (l : List Int) (x : TkX) : Prop where
  inv : TkInv codeN byteN x.T x.fresh x.done
  hk : x.k ≤ l.length
  hf : x.fresh.length ≤ x.k
  hd : x.done.length ≤ x.k
def STx (l : List Int) (an : List Bool) (x : TkX) : St := ⟨[(0, .t (.sl 1 (l.map nT))), (1, .t (.sl 1 (an.map bT))), (5, .bp 5 0), (6, .bp 6 0), (8, .own 100 x.fresh.length), (9, .own 101 x.done.length), (10, .t (i64T (x.k : Int)))], [(5, [.t (i64T 2), .t (u64T 1), .t (u64T 1)]), (6, (inlT [tIn x.T]).map .t)], [(100, ⟨24, 1, x.fresh.map nT⟩), (101, ⟨24, 1, x.done.map nT⟩)]⟩
/-- behind a Take -/
def STy2 (l : List Int) (an : List Bool) (x : TkX) (T : List PTk) (n : Int) (what : Int) (q : PTk) : St := ⟨[(0, .t (.sl 1 (l.map nT))), (1, .t (.sl 1 (an.map bT))), (5, .bp 5 0), (6, .bp 6 0), (8, .own 100 x.fresh.length), (9, .own 101 x.done.length), (10, .t (i64T (x.k : Int))), (11, .t (u64T n)), (13, .t (i64T what)), (14, .bp 14 0)], [(5, [.t (i64T 2), .t (u64T 1), .t (u64T 1)]), (6, (inlT [tIn T]).map .t), (14, (takR q).map .t)], [(100, ⟨24, 1, x.fresh.map nT⟩), (101, ⟨24, 1, x.done.map nT⟩)]⟩
end Go.Proofs.Ytabejnjnkpdjbaa.Sim
namespace Go.Proofs.Ytabejnjnkpdjbaa.PoolTakesOnce
set_option linter.unusedVariables false
set_option linter.unusedSimpArgs false
open Go.RowKit Mem Sim
theorem k_adm2 : PCalls Try.prog 9 [.agg (inlT []), u64T 0, .agg (inT' (tIn []))] (.tup [.agg (inlT [tIn []]), i64T 0]) := by
  have e : admP [] 0 (tIn []) = ([tIn []], 0) := by kernel_rfl
  have k := admit_ [] 0 (tIn []) (by decide) (by intro t ht; cases ht)
  rw [e] at k
  exact LCalls.pc (args := [.agg (inlT []), u64T 0, .agg (inT' (tIn []))]) k (ar_tu (rs := [.agg (inlT [tIn []]), i64T 0]))
set_option maxRecDepth 100000 in
set_option maxHeartbeats 4000000 in
theorem law_ (l : List Int) (an : List Bool) (hl : l.length ≤ 9223372036854775807) (ha : an.length ≤ 9223372036854775807) : PCalls Try.prog 3 [.sl 1 (l.map nT), .sl 1 (an.map bT)] (.v (.bool true)) := by
  have ca := awake_
  have hml : (l.map nT).length = l.length := List.length_map _
  have hma : (an.map bT).length = an.length := List.length_map _
  refine pcalls_of Try.func3 rfl rfl Try.ntmps3 rfl ?_
  repeat' (first | (refine rg 0 ?_; refine oAs ?_; refine oN ?_) | (refine rg 1 ?_; refine sp (po_buildS str26 rfl (pc (pc (pc .nil))) rfl) ?_; refine sal str26 ?_; refine oS ?_; refine oN ?_) | refine gc ?_ | refine ct ?_ | refine cf ?_ | refine swp_cond rfl (fun hc => ?_) (fun hc => ?_) | refine rq rfl (rt .nil) ?_)
  refine rg 2 ?_
  refine sp (po_buildS str29 rfl .nil rfl) ?_
  refine sp (po_load_bx_agg rfl rfl (tyT rfl) rfl (vc (vc (vc .nil))) rfl) ?_
  refine sp (po_buildS str42 rfl (pc (pc (pc .nil))) rfl) ?_
  refine oC k_adm2 rfl (.cons rfl (.le fun m v h => tr_nilLast (l := []) (k := 14) h) (.cons rfl (.t _) (.cons rfl (.le fun m v h => tr_nilLast (l := inS (tIn [])) (k := 4) h) .nil))) ?_
  refine oMv ?_
  refine oEx ?_
  refine oEx ?_
  refine sal str29 ?_
  refine oS ?_
  refine oAs ?_
  refine oN ?_
  refine gc ?_
  refine swp_weak (st' := ⟨[(0, .t (.sl 1 (l.map nT))), (1, .t (.sl 1 (an.map bT))), (5, .bp 5 0), (6, .bp 6 0), (7, .t (i64T 0))], [(5, [.t (i64T 2), .t (u64T 1), .t (u64T 1)]), (6, (inlT [tIn []]).map .t)], []⟩) (weak_sub (.cons rfl rfl rfl (.cons rfl rfl rfl (.cons rfl rfl rfl (.cons rfl rfl rfl (.cons rfl rfl rfl .nil))))) (.cons rfl rfl rfl (.cons rfl rfl rfl .nil)) .nil) ?_
  by_cases hlong : 300 < l.length
  · have hI : (300 : Int) < ((l.map nT).length : Int) := by omega
    repeat' (first | (refine rg 3 ?_; refine oMv ?_; refine oCm ?_; refine oMv ?_; refine oMv ?_ <;> refine sp (pln rfl (tyS rfl)) ?_ <;> refine oCm ?_ <;> (first | refine oPt ?_ | refine oPf ?_) <;> refine oN ?_) | (refine rg 4 ?_; refine oMv ?_; refine oCm ?_; refine oMv ?_; refine oC (ca) rfl .nil ?_ <;> refine oPt ?_ <;> refine oAs ?_ <;> refine oN ?_) | refine gc ?_ | refine ct ?_ | refine cf ?_ | refine swp_cond rfl (fun hc => ?_) (fun hc => ?_) | refine rq rfl (rt .nil) ?_)
    all_goals rfl
  have hI : ¬ (300 : Int) < ((l.map nT).length : Int) := by omega
  repeat' (first | (refine rg 3 ?_; refine oMv ?_; refine oCm ?_; refine oMv ?_; refine oMv ?_ <;> refine sp (pln rfl (tyS rfl)) ?_ <;> refine oCm ?_ <;> (first | refine oPt ?_ | refine oPf ?_) <;> refine oN ?_) | (refine rg 5 ?_; refine oAs ?_; refine oAs ?_; refine oN ?_) | (refine rg 6 ?_; refine oAs ?_; refine oN ?_) | refine gc ?_ | refine ct ?_ | refine cf ?_ | refine swp_cond rfl (fun hc => ?_) (fun hc => ?_) | refine rq rfl (rt .nil) ?_)
  refine swp_weak (weak_own0 24 1 (s := 8) (i := 100) rfl rfl) ?_
  refine swp_weak (weak_own0 24 1 (s := 9) (i := 101) rfl rfl) ?_
  refine swp_fam (STx l an) (TkOk2 l) (fun x => l.length - x.k) ⟨0, [], [], []⟩ (weak_sub (.cons rfl rfl rfl (.cons rfl rfl rfl (.cons rfl rfl rfl (.cons rfl rfl rfl (.cons rfl rfl rfl (.cons rfl rfl rfl (.cons rfl rfl rfl .nil))))))) (.cons rfl rfl rfl (.cons rfl rfl rfl .nil)) (.cons rfl rfl (.cons rfl rfl .nil))) ⟨⟨.nil, rfl, .nil, fun q h => (by cases h), fun n h => (by cases h), fun q h => (by cases h), .nil, fun n h => (by cases h), fun q h => (by cases h)⟩, Nat.zero_le _, Nat.zero_le _, Nat.zero_le _⟩ ?_
  rintro ⟨k, T, fresh, done⟩ ⟨hinv, hk, hf, hd⟩
  dsimp only at hinv hk hf hd
  unfold STx
  dsimp only
  by_cases hlt : k < l.length
  · have hltI : (k : Int) < ((l.map nT).length : Int) := by omega
    have hlt2 : k < (l.map nT).length := by omega
    have hrow : (l.map nT)[k]? = some (nT l[k]) := map_at_some hlt
    generalize l[k] = n at *
    have hTl : T.length ≤ 16 := by have := hinv.len; omega
    have hfewT : ∀ U : List PTk, U.length ≤ 16 → (∀ q ∈ U, q.bytes.length ≤ 1) → FewIn (tIn U) := fun U h1 h2 => ⟨by show U.length ≤ 1000; omega, fun q hq => ⟨by have := h2 q hq; omega⟩⟩
    have k1 := take_ [tIn T] 0 2 2 1 1 2 n (by show 1 ≤ 500; omega) (fun t ht => by rcases List.mem_singleton.1 ht with rfl; exact hfewT T hTl hinv.few) (fun t ht => by rcases List.mem_singleton.1 ht with rfl; show T.length + 1 ≤ 19; omega)
    have c1 := LCalls.pc (args := [.agg (inlT [tIn T]), u64T 0, i64T 2, idT 2 1 1, u64T 2, u64T n]) k1 (ar_tu (rs := [.agg (inlT (takeP [tIn T] 0 2 2 1 1 2 n).1), i64T (takeP [tIn T] 0 2 2 1 1 2 n).2.1, .agg (takR (takeP [tIn T] 0 2 2 1 1 2 n).2.2)]))
    clear k1
    have kfr := count_ fresh n (by omega)
    have kdn := count_ done n (by omega)
    have hfm : fresh.length = (fresh.map nT).length := (List.length_map _).symm
    have hdm : done.length = (done.map nT).length := (List.length_map _).symm
    by_cases hn : n = 0
    · subst hn
      rw [takeP_0] at c1
      dsimp only at c1
      have hz : (!decide ((0 : Int) = 0)) = false := by decide
      repeat' (first | (refine rg 7 ?_; refine oMv ?_; refine oMv ?_; refine sp (pln rfl (tyS rfl)) ?_; refine oCm ?_; refine oN ?_) | (refine rg 9 ?_; refine oMv ?_; refine oMv ?_; refine sp (pix rfl (tyS rfl)) ?_; (first | refine oLb ?_ | refine oLd ?_); refine oAs ?_; refine oN ?_) | (refine rg 10 ?_; refine sp (po_load_bx_agg rfl rfl (tyT rfl) rfl (vc .nil) rfl) ?_; (refine sp (po_load_bx_agg rfl rfl (tyT rfl) rfl (vc (vc (vc .nil))) rfl) ?_); refine oMv ?_; refine oC (c1) rfl (ac (ac (ac (ac (ac (ac .nil)))))) ?_; refine oMv ?_; refine oEx ?_; refine oEx ?_; refine oEx ?_; refine sal str29 ?_; refine sal str46 ?_; refine oS ?_; refine oAs ?_; refine oS ?_; refine oN ?_) | (refine rg 11 ?_; refine sp (po_load_bx_agg rfl rfl (tyT rfl) rfl (vc .nil) rfl) ?_; refine oS ?_; refine oN ?_) | refine gc ?_ | refine ct ?_ | refine cf ?_ | refine swp_cond rfl (fun hc => ?_) (fun hc => ?_) | refine rq rfl (rt .nil) ?_)
      refine swp_weak (st' := STy2 l an ⟨k, T, fresh, done⟩ T 0 0 zeroK) (weak_sub (.cons rfl rfl rfl (.cons rfl rfl rfl (.cons rfl rfl rfl (.cons rfl rfl rfl (.cons rfl rfl rfl (.cons rfl rfl rfl (.cons rfl rfl rfl (.cons rfl rfl rfl (.cons rfl rfl rfl (.cons rfl rfl rfl .nil)))))))))) (.cons rfl rfl rfl (.cons rfl rfl rfl (.cons rfl rfl rfl .nil))) (.cons rfl rfl (.cons rfl rfl .nil))) ?_
      unfold STy2
      dsimp only
      repeat' (first | (refine rg 12 ?_; refine oMv ?_; refine oN ?_) | (refine rg 15 ?_; refine oCm ?_; refine oAs ?_; refine oN ?_) | (refine rg 16 ?_; refine oMv ?_; refine oCm ?_; refine oN ?_) | refine gc ?_ | refine ct ?_ | refine cf ?_ | refine swp_cond rfl (fun hc => ?_) (fun hc => ?_) | refine rq rfl (rt .nil) ?_)
      have h0 : 0 < ([tIn (T)].map inT').length := by simp
      have h1l : (!decide ((([tIn (T)].map inT').length : Int) = 1)) = false := by simp
      have hTk : ((T).map takR).length = (T).length := List.length_map _
      have h16 : decide ((16 : Int) < ((((tIn (T)).taken).map takR).length : Int)) = false := decide_eq_false (by show ¬ (16 : Int) < (((T).map takR).length : Int); omega)
      have hr0 : ([tIn (T)].map inT')[0]? = some (inT' (tIn (T))) := rfl
      repeat' (first | (refine rg 28 ?_; refine oFb ?_; refine oLb ?_; refine sp (pln rfl (tyS rfl)) ?_; refine oCm ?_; refine oMv ?_; refine oFb ?_ <;> refine oLb ?_ <;> refine sp (pix rfl (tyS rfl)) ?_ <;> (first | refine oFb ?_ | refine oFd ?_) <;> (first | refine oLb ?_ | refine oLd ?_) <;> refine sp (pln rfl (tyS rfl)) ?_ <;> refine oCm ?_ <;> (first | refine oPt ?_ | refine oPf ?_) <;> refine oN ?_) | (refine rg 8 ?_; refine oMv ?_; refine sp (xinc rfl) ?_; refine oAs ?_; refine oN ?_) | refine gc ?_ | refine ct ?_ | refine cf ?_ | refine swp_cond rfl (fun hc => ?_) (fun hc => ?_) | refine rq rfl (rt .nil) ?_)
      exact fam_next (TkX.mk (k + 1) (T) (fresh) (done)) (by show l.length - (k + 1) < l.length - k; omega) (weak_sub (.cons rfl rfl rfl (.cons rfl rfl rfl (.cons rfl rfl rfl (.cons rfl rfl rfl (.cons rfl rfl rfl (.cons rfl rfl rfl (.cons rfl rfl rfl .nil))))))) (.cons rfl rfl rfl (.cons rfl rfl rfl .nil)) (.cons rfl rfl (.cons rfl rfl .nil))) (TkOk2.mk hinv (by show k + 1 ≤ l.length; omega) (by show fresh.length ≤ k + 1; omega) (by show done.length ≤ k + 1; omega))
    rw [takeP_t hn] at c1
    have hnd : decide (n = 0) = false := decide_eq_false hn
    cases hc : cutL (fun q : PTk => decide (q.n = n)) T with
    | some z =>
      obtain ⟨C, q, D⟩ := z
      obtain ⟨he, hq, _⟩ := cutL_some hc
      have hqT : q ∈ T := by rw [he]; simp
      have hqn : q.n = n := by simpa using hq
      by_cases hq1 : q.done = 1
      · have htk : takeT 0 n (tIn T) = (tIn T, 2, q) := by unfold takeT; rw [show (tIn T).taken = T from rfl, hc]; dsimp only; rw [if_pos hq1]; rfl
        obtain ⟨a1, a2, a3⟩ := hinv.ans q hqT hq1
        have hqe : q = ⟨n, 1, codeN n, [byteN n]⟩ := by
          obtain ⟨x1, x2, x3, x4⟩ := q
          dsimp only at hqn hq1 a2 a3
          subst hqn hq1 a2 a3; rfl
        rw [hqn] at a1
        have hc1 := cntN_one a1 hinv.dn
        rw [htk, hqe] at c1
        dsimp only at c1
        rw [hc1] at kdn
        have e1 : (!decide (((1 : Nat) : Int) = 1)) = false := by decide
        have e2 : (!decide (codeN n = codeN n)) = false := by simp
        have e3 : (!decide (n = n)) = false := by simp
        have e4 : (!decide (bs [byteN n] = bs [byteN n])) = false := by simp
        repeat' (first | (refine rg 7 ?_; refine oMv ?_; refine oMv ?_; refine sp (pln rfl (tyS rfl)) ?_; refine oCm ?_; refine oN ?_) | (refine rg 9 ?_; refine oMv ?_; refine oMv ?_; refine sp (pix rfl (tyS rfl)) ?_; (first | refine oLb ?_ | refine oLd ?_); refine oAs ?_; refine oN ?_) | (refine rg 10 ?_; refine sp (po_load_bx_agg rfl rfl (tyT rfl) rfl (vc .nil) rfl) ?_; (refine sp (po_load_bx_agg rfl rfl (tyT rfl) rfl (vc (vc (vc .nil))) rfl) ?_); refine oMv ?_; refine oC (c1) rfl (ac (ac (ac (ac (ac (ac .nil)))))) ?_; refine oMv ?_; refine oEx ?_; refine oEx ?_; refine oEx ?_; refine sal str29 ?_; refine sal str46 ?_; refine oS ?_; refine oAs ?_; refine oS ?_; refine oN ?_) | (refine rg 11 ?_; refine sp (po_load_bx_agg rfl rfl (tyT rfl) rfl (vc .nil) rfl) ?_; refine oS ?_; refine oN ?_) | refine gc ?_ | refine ct ?_ | refine cf ?_ | refine swp_cond rfl (fun hc => ?_) (fun hc => ?_) | refine rq rfl (rt .nil) ?_)
        refine swp_weak (st' := STy2 l an ⟨k, T, fresh, done⟩ T n 2 ⟨n, 1, codeN n, [byteN n]⟩) (weak_sub (.cons rfl rfl rfl (.cons rfl rfl rfl (.cons rfl rfl rfl (.cons rfl rfl rfl (.cons rfl rfl rfl (.cons rfl rfl rfl (.cons rfl rfl rfl (.cons rfl rfl rfl (.cons rfl rfl rfl (.cons rfl rfl rfl .nil)))))))))) (.cons rfl rfl rfl (.cons rfl rfl rfl (.cons rfl rfl rfl .nil))) (.cons rfl rfl (.cons rfl rfl .nil))) ?_
        unfold STy2 takR bysT
        dsimp only
        repeat' (first | (refine rg 12 ?_; refine oMv ?_; refine oN ?_) | (refine rg 15 ?_; refine oCm ?_; refine oAs ?_; refine oN ?_) | (refine rg 18 ?_; refine oCm ?_; refine oAs ?_; refine oN ?_) | (refine rg 25 ?_; refine oCm ?_; refine oAs ?_; refine oN ?_) | (refine rg 26 ?_; refine oMv ?_; refine oMv ?_; refine oC (kdn) rfl (ac (ac .nil)) ?_; refine oCm ?_; refine oMv ?_; refine oFb ?_ <;> refine oLb ?_ <;> refine oMv ?_ <;> refine sp (po_and rfl rfl rfl) ?_ <;> refine sp (po_conv_int (c := codeN n) rfl rfl (tyK rfl) (tyK rfl) rfl) ?_ <;> refine oCm ?_ <;> (first | refine oPt ?_ | refine oPf ?_) <;> refine oMv ?_ <;> refine oFb ?_ <;> refine oLb ?_ <;> refine oMv ?_ <;> refine oCm ?_ <;> (first | refine oPt ?_ | refine oPf ?_) <;> refine oMv ?_ <;> refine oFb ?_ <;> refine oLb ?_ <;> (first | refine sp (po_conv_int (c := codeN n) rfl rfl (tyK rfl) (tyK rfl) rfl) ?_ | refine sp (po_conv_int (c := ((byteN n).toNat : Int)) rfl rfl (tyK rfl) (tyK rfl) (byteN_eq n)) ?_ | refine sp (po_bytes_str (l := [byteN n]) rfl rfl (.t _) byt44 (tyR rfl)) ?_) <;> refine oMv ?_ <;> (first | refine sp (po_conv_int (c := codeN n) rfl rfl (tyK rfl) (tyK rfl) rfl) ?_ | refine sp (po_conv_int (c := ((byteN n).toNat : Int)) rfl rfl (tyK rfl) (tyK rfl) (byteN_eq n)) ?_) <;> refine sp (po_buildSlice rfl (tyE rfl) (dc (.nil _)) rfl rfl rfl) ?_ <;> (first | refine sp (po_conv_int (c := codeN n) rfl rfl (tyK rfl) (tyK rfl) rfl) ?_ | refine sp (po_conv_int (c := ((byteN n).toNat : Int)) rfl rfl (tyK rfl) (tyK rfl) (byteN_eq n)) ?_ | refine sp (po_bytes_str (l := [byteN n]) rfl rfl (.t _) byt44 (tyR rfl)) ?_) <;> refine sp (po_str rfl rfl rfl rfl) ?_ <;> (first | refine oPt ?_ | refine oPf ?_) <;> refine oN ?_) | refine gc ?_ | refine ct ?_ | refine cf ?_ | refine swp_cond rfl (fun hc => ?_) (fun hc => ?_) | refine rq rfl (rt .nil) ?_)
        have h0 : 0 < ([tIn (T)].map inT').length := by simp
        have h1l : (!decide ((([tIn (T)].map inT').length : Int) = 1)) = false := by simp
        have hTk : ((T).map takR).length = (T).length := List.length_map _
        have h16 : decide ((16 : Int) < ((((tIn (T)).taken).map takR).length : Int)) = false := decide_eq_false (by show ¬ (16 : Int) < (((T).map takR).length : Int); omega)
        have hr0 : ([tIn (T)].map inT')[0]? = some (inT' (tIn (T))) := rfl
        repeat' (first | (refine rg 28 ?_; refine oFb ?_; refine oLb ?_; refine sp (pln rfl (tyS rfl)) ?_; refine oCm ?_; refine oMv ?_; refine oFb ?_ <;> refine oLb ?_ <;> refine sp (pix rfl (tyS rfl)) ?_ <;> (first | refine oFb ?_ | refine oFd ?_) <;> (first | refine oLb ?_ | refine oLd ?_) <;> refine sp (pln rfl (tyS rfl)) ?_ <;> refine oCm ?_ <;> (first | refine oPt ?_ | refine oPf ?_) <;> refine oN ?_) | (refine rg 8 ?_; refine oMv ?_; refine sp (xinc rfl) ?_; refine oAs ?_; refine oN ?_) | refine gc ?_ | refine ct ?_ | refine cf ?_ | refine swp_cond rfl (fun hc => ?_) (fun hc => ?_) | refine rq rfl (rt .nil) ?_)
        exact fam_next (TkX.mk (k + 1) (T) (fresh) (done)) (by show l.length - (k + 1) < l.length - k; omega) (weak_sub (.cons rfl rfl rfl (.cons rfl rfl rfl (.cons rfl rfl rfl (.cons rfl rfl rfl (.cons rfl rfl rfl (.cons rfl rfl rfl (.cons rfl rfl rfl .nil))))))) (.cons rfl rfl rfl (.cons rfl rfl rfl .nil)) (.cons rfl rfl (.cons rfl rfl .nil))) (TkOk2.mk hinv (by show k + 1 ≤ l.length; omega) (by show fresh.length ≤ k + 1; omega) (by show done.length ≤ k + 1; omega))
      · have htk : takeT 0 n (tIn T) = (tIn T, 3, zeroK) := by unfold takeT; rw [show (tIn T).taken = T from rfl, hc]; dsimp only; rw [if_neg hq1]; rfl
        have hcp := cntN_pos (hqn ▸ hinv.sub q hqT)
        have e1 : decide (((cntN fresh n : Nat) : Int) = 0) = false := decide_eq_false (by omega)
        rw [htk] at c1
        dsimp only at c1
        repeat' (first | (refine rg 7 ?_; refine oMv ?_; refine oMv ?_; refine sp (pln rfl (tyS rfl)) ?_; refine oCm ?_; refine oN ?_) | (refine rg 9 ?_; refine oMv ?_; refine oMv ?_; refine sp (pix rfl (tyS rfl)) ?_; (first | refine oLb ?_ | refine oLd ?_); refine oAs ?_; refine oN ?_) | (refine rg 10 ?_; refine sp (po_load_bx_agg rfl rfl (tyT rfl) rfl (vc .nil) rfl) ?_; (refine sp (po_load_bx_agg rfl rfl (tyT rfl) rfl (vc (vc (vc .nil))) rfl) ?_); refine oMv ?_; refine oC (c1) rfl (ac (ac (ac (ac (ac (ac .nil)))))) ?_; refine oMv ?_; refine oEx ?_; refine oEx ?_; refine oEx ?_; refine sal str29 ?_; refine sal str46 ?_; refine oS ?_; refine oAs ?_; refine oS ?_; refine oN ?_) | (refine rg 11 ?_; refine sp (po_load_bx_agg rfl rfl (tyT rfl) rfl (vc .nil) rfl) ?_; refine oS ?_; refine oN ?_) | refine gc ?_ | refine ct ?_ | refine cf ?_ | refine swp_cond rfl (fun hc => ?_) (fun hc => ?_) | refine rq rfl (rt .nil) ?_)
        refine swp_weak (st' := STy2 l an ⟨k, T, fresh, done⟩ T n 3 zeroK) (weak_sub (.cons rfl rfl rfl (.cons rfl rfl rfl (.cons rfl rfl rfl (.cons rfl rfl rfl (.cons rfl rfl rfl (.cons rfl rfl rfl (.cons rfl rfl rfl (.cons rfl rfl rfl (.cons rfl rfl rfl (.cons rfl rfl rfl .nil)))))))))) (.cons rfl rfl rfl (.cons rfl rfl rfl (.cons rfl rfl rfl .nil))) (.cons rfl rfl (.cons rfl rfl .nil))) ?_
        unfold STy2
        dsimp only
        repeat' (first | (refine rg 12 ?_; refine oMv ?_; refine oN ?_) | (refine rg 15 ?_; refine oCm ?_; refine oAs ?_; refine oN ?_) | (refine rg 18 ?_; refine oCm ?_; refine oAs ?_; refine oN ?_) | (refine rg 25 ?_; refine oCm ?_; refine oAs ?_; refine oN ?_) | (refine rg 13 ?_; refine oMv ?_; refine oMv ?_; refine oC (kfr) rfl (ac (ac .nil)) ?_; refine oCm ?_; refine oMv ?_; (first | refine oMv ?_ | refine oK ?_) <;> (first | refine sp (pln rfl (tyS rfl)) ?_ | refine oK ?_) <;> (first | refine oCm ?_ | refine oK ?_) <;> (first | refine oPt ?_ | refine oPf ?_) <;> refine oN ?_) | refine gc ?_ | refine ct ?_ | refine cf ?_ | refine swp_cond rfl (fun hc => ?_) (fun hc => ?_) | refine rq rfl (rt .nil) ?_)
        have h0 : 0 < ([tIn (T)].map inT').length := by simp
        have h1l : (!decide ((([tIn (T)].map inT').length : Int) = 1)) = false := by simp
        have hTk : ((T).map takR).length = (T).length := List.length_map _
        have h16 : decide ((16 : Int) < ((((tIn (T)).taken).map takR).length : Int)) = false := decide_eq_false (by show ¬ (16 : Int) < (((T).map takR).length : Int); omega)
        have hr0 : ([tIn (T)].map inT')[0]? = some (inT' (tIn (T))) := rfl
        repeat' (first | (refine rg 28 ?_; refine oFb ?_; refine oLb ?_; refine sp (pln rfl (tyS rfl)) ?_; refine oCm ?_; refine oMv ?_; refine oFb ?_ <;> refine oLb ?_ <;> refine sp (pix rfl (tyS rfl)) ?_ <;> (first | refine oFb ?_ | refine oFd ?_) <;> (first | refine oLb ?_ | refine oLd ?_) <;> refine sp (pln rfl (tyS rfl)) ?_ <;> refine oCm ?_ <;> (first | refine oPt ?_ | refine oPf ?_) <;> refine oN ?_) | (refine rg 8 ?_; refine oMv ?_; refine sp (xinc rfl) ?_; refine oAs ?_; refine oN ?_) | refine gc ?_ | refine ct ?_ | refine cf ?_ | refine swp_cond rfl (fun hc => ?_) (fun hc => ?_) | refine rq rfl (rt .nil) ?_)
        exact fam_next (TkX.mk (k + 1) (T) (fresh) (done)) (by show l.length - (k + 1) < l.length - k; omega) (weak_sub (.cons rfl rfl rfl (.cons rfl rfl rfl (.cons rfl rfl rfl (.cons rfl rfl rfl (.cons rfl rfl rfl (.cons rfl rfl rfl (.cons rfl rfl rfl .nil))))))) (.cons rfl rfl rfl (.cons rfl rfl rfl .nil)) (.cons rfl rfl (.cons rfl rfl .nil))) (TkOk2.mk hinv (by show k + 1 ≤ l.length; omega) (by show fresh.length ≤ k + 1; omega) (by show done.length ≤ k + 1; omega))
    | none =>
      by_cases hm : 16 ≤ T.length ∧ n < minN T
      · have htk : takeT 0 n (tIn T) = (tIn T, 3, zeroK) := by unfold takeT; rw [show (tIn T).taken = T from rfl, hc]; dsimp only; rw [if_pos hm]; rfl
        have hfl16 : 16 ≤ fresh.length := by have := hinv.len; omega
        have e2 : ¬ ((fresh.length : Nat) : Int) < 16 := by omega
        rw [htk] at c1
        dsimp only at c1
        repeat' (first | (refine rg 7 ?_; refine oMv ?_; refine oMv ?_; refine sp (pln rfl (tyS rfl)) ?_; refine oCm ?_; refine oN ?_) | (refine rg 9 ?_; refine oMv ?_; refine oMv ?_; refine sp (pix rfl (tyS rfl)) ?_; (first | refine oLb ?_ | refine oLd ?_); refine oAs ?_; refine oN ?_) | (refine rg 10 ?_; refine sp (po_load_bx_agg rfl rfl (tyT rfl) rfl (vc .nil) rfl) ?_; (refine sp (po_load_bx_agg rfl rfl (tyT rfl) rfl (vc (vc (vc .nil))) rfl) ?_); refine oMv ?_; refine oC (c1) rfl (ac (ac (ac (ac (ac (ac .nil)))))) ?_; refine oMv ?_; refine oEx ?_; refine oEx ?_; refine oEx ?_; refine sal str29 ?_; refine sal str46 ?_; refine oS ?_; refine oAs ?_; refine oS ?_; refine oN ?_) | (refine rg 11 ?_; refine sp (po_load_bx_agg rfl rfl (tyT rfl) rfl (vc .nil) rfl) ?_; refine oS ?_; refine oN ?_) | refine gc ?_ | refine ct ?_ | refine cf ?_ | refine swp_cond rfl (fun hc => ?_) (fun hc => ?_) | refine rq rfl (rt .nil) ?_)
        refine swp_weak (st' := STy2 l an ⟨k, T, fresh, done⟩ T n 3 zeroK) (weak_sub (.cons rfl rfl rfl (.cons rfl rfl rfl (.cons rfl rfl rfl (.cons rfl rfl rfl (.cons rfl rfl rfl (.cons rfl rfl rfl (.cons rfl rfl rfl (.cons rfl rfl rfl (.cons rfl rfl rfl (.cons rfl rfl rfl .nil)))))))))) (.cons rfl rfl rfl (.cons rfl rfl rfl (.cons rfl rfl rfl .nil))) (.cons rfl rfl (.cons rfl rfl .nil))) ?_
        unfold STy2
        dsimp only
        cases e1 : decide (((cntN fresh n : Nat) : Int) = 0) with
        | true =>
          repeat' (first | (refine rg 12 ?_; refine oMv ?_; refine oN ?_) | (refine rg 15 ?_; refine oCm ?_; refine oAs ?_; refine oN ?_) | (refine rg 18 ?_; refine oCm ?_; refine oAs ?_; refine oN ?_) | (refine rg 25 ?_; refine oCm ?_; refine oAs ?_; refine oN ?_) | (refine rg 13 ?_; refine oMv ?_; refine oMv ?_; refine oC (kfr) rfl (ac (ac .nil)) ?_; refine oCm ?_; refine oMv ?_; refine oMv ?_ <;> refine sp (pln rfl (tyS rfl)) ?_ <;> refine oCm ?_ <;> refine oPt ?_ <;> refine oN ?_) | refine gc ?_ | refine ct ?_ | refine cf ?_ | refine swp_cond rfl (fun hc => ?_) (fun hc => ?_) | refine rq rfl (rt .nil) ?_)
          have h0 : 0 < ([tIn (T)].map inT').length := by simp
          have h1l : (!decide ((([tIn (T)].map inT').length : Int) = 1)) = false := by simp
          have hTk : ((T).map takR).length = (T).length := List.length_map _
          have h16 : decide ((16 : Int) < ((((tIn (T)).taken).map takR).length : Int)) = false := decide_eq_false (by show ¬ (16 : Int) < (((T).map takR).length : Int); omega)
          have hr0 : ([tIn (T)].map inT')[0]? = some (inT' (tIn (T))) := rfl
          repeat' (first | (refine rg 28 ?_; refine oFb ?_; refine oLb ?_; refine sp (pln rfl (tyS rfl)) ?_; refine oCm ?_; refine oMv ?_; refine oFb ?_ <;> refine oLb ?_ <;> refine sp (pix rfl (tyS rfl)) ?_ <;> (first | refine oFb ?_ | refine oFd ?_) <;> (first | refine oLb ?_ | refine oLd ?_) <;> refine sp (pln rfl (tyS rfl)) ?_ <;> refine oCm ?_ <;> (first | refine oPt ?_ | refine oPf ?_) <;> refine oN ?_) | (refine rg 8 ?_; refine oMv ?_; refine sp (xinc rfl) ?_; refine oAs ?_; refine oN ?_) | refine gc ?_ | refine ct ?_ | refine cf ?_ | refine swp_cond rfl (fun hc => ?_) (fun hc => ?_) | refine rq rfl (rt .nil) ?_)
          exact fam_next (TkX.mk (k + 1) (T) (fresh) (done)) (by show l.length - (k + 1) < l.length - k; omega) (weak_sub (.cons rfl rfl rfl (.cons rfl rfl rfl (.cons rfl rfl rfl (.cons rfl rfl rfl (.cons rfl rfl rfl (.cons rfl rfl rfl (.cons rfl rfl rfl .nil))))))) (.cons rfl rfl rfl (.cons rfl rfl rfl .nil)) (.cons rfl rfl (.cons rfl rfl .nil))) (TkOk2.mk hinv (by show k + 1 ≤ l.length; omega) (by show fresh.length ≤ k + 1; omega) (by show done.length ≤ k + 1; omega))
        | false =>
          repeat' (first | (refine rg 12 ?_; refine oMv ?_; refine oN ?_) | (refine rg 15 ?_; refine oCm ?_; refine oAs ?_; refine oN ?_) | (refine rg 18 ?_; refine oCm ?_; refine oAs ?_; refine oN ?_) | (refine rg 25 ?_; refine oCm ?_; refine oAs ?_; refine oN ?_) | (refine rg 13 ?_; refine oMv ?_; refine oMv ?_; refine oC (kfr) rfl (ac (ac .nil)) ?_; refine oCm ?_; refine oMv ?_; (first | refine oMv ?_ | refine oK ?_) <;> (first | refine sp (pln rfl (tyS rfl)) ?_ | refine oK ?_) <;> (first | refine oCm ?_ | refine oK ?_) <;> (first | refine oPt ?_ | refine oPf ?_) <;> refine oN ?_) | refine gc ?_ | refine ct ?_ | refine cf ?_ | refine swp_cond rfl (fun hc => ?_) (fun hc => ?_) | refine rq rfl (rt .nil) ?_)
          have h0 : 0 < ([tIn (T)].map inT').length := by simp
          have h1l : (!decide ((([tIn (T)].map inT').length : Int) = 1)) = false := by simp
          have hTk : ((T).map takR).length = (T).length := List.length_map _
          have h16 : decide ((16 : Int) < ((((tIn (T)).taken).map takR).length : Int)) = false := decide_eq_false (by show ¬ (16 : Int) < (((T).map takR).length : Int); omega)
          have hr0 : ([tIn (T)].map inT')[0]? = some (inT' (tIn (T))) := rfl
          repeat' (first | (refine rg 28 ?_; refine oFb ?_; refine oLb ?_; refine sp (pln rfl (tyS rfl)) ?_; refine oCm ?_; refine oMv ?_; refine oFb ?_ <;> refine oLb ?_ <;> refine sp (pix rfl (tyS rfl)) ?_ <;> (first | refine oFb ?_ | refine oFd ?_) <;> (first | refine oLb ?_ | refine oLd ?_) <;> refine sp (pln rfl (tyS rfl)) ?_ <;> refine oCm ?_ <;> (first | refine oPt ?_ | refine oPf ?_) <;> refine oN ?_) | (refine rg 8 ?_; refine oMv ?_; refine sp (xinc rfl) ?_; refine oAs ?_; refine oN ?_) | refine gc ?_ | refine ct ?_ | refine cf ?_ | refine swp_cond rfl (fun hc => ?_) (fun hc => ?_) | refine rq rfl (rt .nil) ?_)
          exact fam_next (TkX.mk (k + 1) (T) (fresh) (done)) (by show l.length - (k + 1) < l.length - k; omega) (weak_sub (.cons rfl rfl rfl (.cons rfl rfl rfl (.cons rfl rfl rfl (.cons rfl rfl rfl (.cons rfl rfl rfl (.cons rfl rfl rfl (.cons rfl rfl rfl .nil))))))) (.cons rfl rfl rfl (.cons rfl rfl rfl .nil)) (.cons rfl rfl (.cons rfl rfl .nil))) (TkOk2.mk hinv (by show k + 1 ≤ l.length; omega) (by show fresh.length ≤ k + 1; omega) (by show done.length ≤ k + 1; omega))
      · have htk : takeT 0 n (tIn T) = (tIn (trimK (isort (T ++ [newK n]))), 1, zeroK) := by unfold takeT; rw [show (tIn T).taken = T from rfl, hc]; dsimp only; rw [if_neg hm]; rfl
        obtain ⟨hnf, hinv2⟩ := tk_new hinv hc hm
        have hcz := cntN_zero hnf
        rw [hcz] at kfr
        have e1 : ¬ (((0 : Nat) : Int) > 0) := by decide
        have e1d : decide (((0 : Nat) : Int) > 0) = false := by decide
        rw [htk] at c1
        dsimp only at c1
        have hTl2 : (trimK (isort (T ++ [newK n]))).length ≤ 16 := by have := hinv2.len; omega
        generalize trimK (isort (T ++ [newK n])) = U at *
        repeat' (first | (refine rg 7 ?_; refine oMv ?_; refine oMv ?_; refine sp (pln rfl (tyS rfl)) ?_; refine oCm ?_; refine oN ?_) | (refine rg 9 ?_; refine oMv ?_; refine oMv ?_; refine sp (pix rfl (tyS rfl)) ?_; (first | refine oLb ?_ | refine oLd ?_); refine oAs ?_; refine oN ?_) | (refine rg 10 ?_; refine sp (po_load_bx_agg rfl rfl (tyT rfl) rfl (vc .nil) rfl) ?_; (refine sp (po_load_bx_agg rfl rfl (tyT rfl) rfl (vc (vc (vc .nil))) rfl) ?_); refine oMv ?_; refine oC (c1) rfl (ac (ac (ac (ac (ac (ac .nil)))))) ?_; refine oMv ?_; refine oEx ?_; refine oEx ?_; refine oEx ?_; refine sal str29 ?_; refine sal str46 ?_; refine oS ?_; refine oAs ?_; refine oS ?_; refine oN ?_) | (refine rg 11 ?_; refine sp (po_load_bx_agg rfl rfl (tyT rfl) rfl (vc .nil) rfl) ?_; refine oS ?_; refine oN ?_) | refine gc ?_ | refine ct ?_ | refine cf ?_ | refine swp_cond rfl (fun hc => ?_) (fun hc => ?_) | refine rq rfl (rt .nil) ?_)
        refine swp_weak (st' := STy2 l an ⟨k, T, fresh, done⟩ U n 1 zeroK) (weak_sub (.cons rfl rfl rfl (.cons rfl rfl rfl (.cons rfl rfl rfl (.cons rfl rfl rfl (.cons rfl rfl rfl (.cons rfl rfl rfl (.cons rfl rfl rfl (.cons rfl rfl rfl (.cons rfl rfl rfl (.cons rfl rfl rfl .nil)))))))))) (.cons rfl rfl rfl (.cons rfl rfl rfl (.cons rfl rfl rfl .nil))) (.cons rfl rfl (.cons rfl rfl .nil))) ?_
        unfold STy2
        dsimp only
        have hfr : fresh.map nT ++ [[u64T n]] = (fresh ++ [n]).map nT := by rw [List.map_append]; rfl
        have hfo := congrArg (fun r => (⟨24, 1, r⟩ : Own)) hfr
        have hfl : Sim.A.own 100 (fresh.map nT ++ [[u64T n]]).length = Sim.A.own 100 (fresh ++ [n]).length := by rw [hfr, List.length_map]
        repeat' (first | (refine rg 12 ?_; refine oMv ?_; refine oN ?_) | (refine rg 15 ?_; refine oCm ?_; refine oAs ?_; refine oN ?_) | (refine rg 18 ?_; refine oCm ?_; refine oAs ?_; refine oN ?_) | (refine rg 19 ?_; refine oMv ?_; refine oCm ?_; refine oMv ?_; refine oMv ?_ <;> refine oMv ?_ <;> refine oC (kfr) rfl (ac (ac .nil)) ?_ <;> refine oCm ?_ <;> (first | refine oPt ?_ | refine oPf ?_) <;> refine oN ?_) | (refine rg 21 ?_; refine oMv ?_; refine oMv ?_; refine sp (po_buildSlice rfl (tyE rfl) (dc (.nil _)) rfl rfl rfl) ?_; refine sap rfl (tyE rfl) ?_; refine oAs ?_; refine oN ?_) | refine gc ?_ | refine ct ?_ | refine cf ?_ | refine swp_cond rfl (fun hc => ?_) (fun hc => ?_) | refine rq rfl (rt .nil) ?_)
        by_cases hka : k < an.length
        · have hkaI : (k : Int) < ((an.map bT).length : Int) := by omega
          have hka2 : k < (an.map bT).length := by omega
          have hrowa : (an.map bT)[k]? = some (bT an[k]) := map_at_some hka
          generalize an[k] = bb at *
          cases bb with
          | true =>
            have hdf : n ∉ done := fun h => hnf (hinv.ds n h)
            have hfewU : FewIn (tIn U) := hfewT U hTl2 hinv2.few
            have kd := done_ [tIn U] 2 1 1 ⟨n, 0, codeN n, [byteN n]⟩ (by show 1 ≤ 500; omega) (fun t ht => by rcases List.mem_singleton.1 ht with rfl; exact hfewU) ⟨by show 1 ≤ 1000000; omega⟩
            rw [doneP_t] at kd
            have hinv3 := tk_done hinv2 (List.mem_append_right fresh List.mem_cons_self) hdf (tIn U) rfl
            generalize (doneK ⟨n, 0, codeN n, [byteN n]⟩ (tIn U)).taken = V at *
            have hTl3 : V.length ≤ 16 := by have := hinv3.len; omega
            have c3 := LCalls.pc (args := [.agg (inlT [tIn U]), idT 2 1 1, .agg (takR ⟨n, 0, codeN n, [byteN n]⟩)]) kd ar_t
            unfold takR bysT at c3
            dsimp only at c3
            have hdr : done.map nT ++ [[u64T n]] = (done ++ [n]).map nT := by rw [List.map_append]; rfl
            have hdo := congrArg (fun r => (⟨24, 1, r⟩ : Own)) hdr
            have hdl : Sim.A.own 101 (done.map nT ++ [[u64T n]]).length = Sim.A.own 101 (done ++ [n]).length := by rw [hdr, List.length_map]
            repeat' (first | (refine rg 22 ?_; refine oMv ?_; refine oMv ?_; refine sp (pln rfl (tyS rfl)) ?_; refine oCm ?_; refine oMv ?_; refine oMv ?_ <;> refine oMv ?_ <;> refine sp (pix rfl (tyS rfl)) ?_ <;> (first | refine oLb ?_ | refine oLd ?_) <;> refine oPt ?_ <;> refine oN ?_) | (refine rg 23 ?_; refine sp (po_load_bx_agg rfl rfl (tyT rfl) rfl (vc .nil) rfl) ?_; (refine sp (po_load_bx_agg rfl rfl (tyT rfl) rfl (vc (vc (vc .nil))) rfl) ?_); refine oMv ?_; refine oMv ?_; refine sp (po_and rfl rfl rfl) ?_; refine sp (po_conv_int (c := codeN n) rfl rfl (tyK rfl) (tyK rfl) rfl) ?_; refine oMv ?_; (first | refine sp (po_conv_int (c := codeN n) rfl rfl (tyK rfl) (tyK rfl) rfl) ?_ | refine sp (po_conv_int (c := ((byteN n).toNat : Int)) rfl rfl (tyK rfl) (tyK rfl) (byteN_eq n)) ?_); refine sp (po_buildSlice rfl (tyE rfl) (dc (.nil _)) rfl rfl rfl) ?_; refine sp (po_buildS str46 rfl (pc (pc (pc .nil))) rfl) ?_; refine oC (c3) rfl (ac (ac (ac .nil))) ?_; refine oS ?_; refine oN ?_) | (refine rg 24 ?_; refine oMv ?_; refine oMv ?_; refine sp (po_buildSlice rfl (tyE rfl) (dc (.nil _)) rfl rfl rfl) ?_; refine sap rfl (tyE rfl) ?_; refine oAs ?_; refine oN ?_) | refine gc ?_ | refine ct ?_ | refine cf ?_ | refine swp_cond rfl (fun hc => ?_) (fun hc => ?_) | refine rq rfl (rt .nil) ?_)
            have h0 : 0 < ([tIn (V)].map inT').length := by simp
            have h1l : (!decide ((([tIn (V)].map inT').length : Int) = 1)) = false := by simp
            have hTk : ((V).map takR).length = (V).length := List.length_map _
            have h16 : decide ((16 : Int) < ((((tIn (V)).taken).map takR).length : Int)) = false := decide_eq_false (by show ¬ (16 : Int) < (((V).map takR).length : Int); omega)
            have hr0 : ([tIn (V)].map inT')[0]? = some (inT' (tIn (V))) := rfl
            repeat' (first | (refine rg 28 ?_; refine oFb ?_; refine oLb ?_; refine sp (pln rfl (tyS rfl)) ?_; refine oCm ?_; refine oMv ?_; refine oFb ?_ <;> refine oLb ?_ <;> refine sp (pix rfl (tyS rfl)) ?_ <;> (first | refine oFb ?_ | refine oFd ?_) <;> (first | refine oLb ?_ | refine oLd ?_) <;> refine sp (pln rfl (tyS rfl)) ?_ <;> refine oCm ?_ <;> (first | refine oPt ?_ | refine oPf ?_) <;> refine oN ?_) | (refine rg 8 ?_; refine oMv ?_; refine sp (xinc rfl) ?_; refine oAs ?_; refine oN ?_) | refine gc ?_ | refine ct ?_ | refine cf ?_ | refine swp_cond rfl (fun hc => ?_) (fun hc => ?_) | refine rq rfl (rt .nil) ?_)
            exact fam_next (TkX.mk (k + 1) (V) (fresh ++ [n]) (done ++ [n])) (by show l.length - (k + 1) < l.length - k; omega) (weak_sub (.cons rfl (by first | rfl | (first | (exact hfo) | (exact hfl) | (exact hdo) | (exact hdl))) rfl (.cons rfl (by first | rfl | (first | (exact hfo) | (exact hfl) | (exact hdo) | (exact hdl))) rfl (.cons rfl (by first | rfl | (first | (exact hfo) | (exact hfl) | (exact hdo) | (exact hdl))) rfl (.cons rfl (by first | rfl | (first | (exact hfo) | (exact hfl) | (exact hdo) | (exact hdl))) rfl (.cons rfl (by first | rfl | (first | (exact hfo) | (exact hfl) | (exact hdo) | (exact hdl))) rfl (.cons rfl (by first | rfl | (first | (exact hfo) | (exact hfl) | (exact hdo) | (exact hdl))) rfl (.cons rfl (by first | rfl | (first | (exact hfo) | (exact hfl) | (exact hdo) | (exact hdl))) rfl .nil))))))) (.cons rfl (by first | rfl | (first | (exact hfo) | (exact hfl) | (exact hdo) | (exact hdl))) rfl (.cons rfl (by first | rfl | (first | (exact hfo) | (exact hfl) | (exact hdo) | (exact hdl))) rfl .nil)) (.cons rfl (by first | rfl | (first | (exact hfo) | (exact hfl) | (exact hdo) | (exact hdl))) (.cons rfl (by first | rfl | (first | (exact hfo) | (exact hfl) | (exact hdo) | (exact hdl))) .nil))) (TkOk2.mk hinv3 (by show k + 1 ≤ l.length; omega) (by show (fresh ++ [n]).length ≤ k + 1; rw [List.length_append]; show fresh.length + 1 ≤ k + 1; omega) (by show (done ++ [n]).length ≤ k + 1; rw [List.length_append]; show done.length + 1 ≤ k + 1; omega))
          | false =>
            repeat' (first | (refine rg 22 ?_; refine oMv ?_; refine oMv ?_; refine sp (pln rfl (tyS rfl)) ?_; refine oCm ?_; refine oMv ?_; refine oMv ?_ <;> refine oMv ?_ <;> refine sp (pix rfl (tyS rfl)) ?_ <;> (first | refine oLb ?_ | refine oLd ?_) <;> refine oPt ?_ <;> refine oN ?_) | refine gc ?_ | refine ct ?_ | refine cf ?_ | refine swp_cond rfl (fun hc => ?_) (fun hc => ?_) | refine rq rfl (rt .nil) ?_)
            have h0 : 0 < ([tIn (U)].map inT').length := by simp
            have h1l : (!decide ((([tIn (U)].map inT').length : Int) = 1)) = false := by simp
            have hTk : ((U).map takR).length = (U).length := List.length_map _
            have h16 : decide ((16 : Int) < ((((tIn (U)).taken).map takR).length : Int)) = false := decide_eq_false (by show ¬ (16 : Int) < (((U).map takR).length : Int); omega)
            have hr0 : ([tIn (U)].map inT')[0]? = some (inT' (tIn (U))) := rfl
            repeat' (first | (refine rg 28 ?_; refine oFb ?_; refine oLb ?_; refine sp (pln rfl (tyS rfl)) ?_; refine oCm ?_; refine oMv ?_; refine oFb ?_ <;> refine oLb ?_ <;> refine sp (pix rfl (tyS rfl)) ?_ <;> (first | refine oFb ?_ | refine oFd ?_) <;> (first | refine oLb ?_ | refine oLd ?_) <;> refine sp (pln rfl (tyS rfl)) ?_ <;> refine oCm ?_ <;> (first | refine oPt ?_ | refine oPf ?_) <;> refine oN ?_) | (refine rg 8 ?_; refine oMv ?_; refine sp (xinc rfl) ?_; refine oAs ?_; refine oN ?_) | refine gc ?_ | refine ct ?_ | refine cf ?_ | refine swp_cond rfl (fun hc => ?_) (fun hc => ?_) | refine rq rfl (rt .nil) ?_)
            exact fam_next (TkX.mk (k + 1) (U) (fresh ++ [n]) (done)) (by show l.length - (k + 1) < l.length - k; omega) (weak_sub (.cons rfl (by first | rfl | (first | (exact hfo) | (exact hfl))) rfl (.cons rfl (by first | rfl | (first | (exact hfo) | (exact hfl))) rfl (.cons rfl (by first | rfl | (first | (exact hfo) | (exact hfl))) rfl (.cons rfl (by first | rfl | (first | (exact hfo) | (exact hfl))) rfl (.cons rfl (by first | rfl | (first | (exact hfo) | (exact hfl))) rfl (.cons rfl (by first | rfl | (first | (exact hfo) | (exact hfl))) rfl (.cons rfl (by first | rfl | (first | (exact hfo) | (exact hfl))) rfl .nil))))))) (.cons rfl (by first | rfl | (first | (exact hfo) | (exact hfl))) rfl (.cons rfl (by first | rfl | (first | (exact hfo) | (exact hfl))) rfl .nil)) (.cons rfl (by first | rfl | (first | (exact hfo) | (exact hfl))) (.cons rfl (by first | rfl | (first | (exact hfo) | (exact hfl))) .nil))) (TkOk2.mk hinv2 (by show k + 1 ≤ l.length; omega) (by show (fresh ++ [n]).length ≤ k + 1; rw [List.length_append]; show fresh.length + 1 ≤ k + 1; omega) (by show done.length ≤ k + 1; omega))
        · have hkaI : ¬ (k : Int) < ((an.map bT).length : Int) := by omega
          repeat' (first | (refine rg 22 ?_; refine oMv ?_; refine oMv ?_; refine sp (pln rfl (tyS rfl)) ?_; refine oCm ?_; refine oMv ?_; (first | refine oMv ?_ | refine oK ?_) <;> (first | refine oMv ?_ | refine oK ?_) <;> (first | refine sp (pix rfl (tyS rfl)) ?_ | refine oK ?_) <;> (first | refine oLb ?_ | refine oLd ?_ | refine oK ?_) <;> (first | refine oPt ?_ | refine oPf ?_) <;> refine oN ?_) | refine gc ?_ | refine ct ?_ | refine cf ?_ | refine swp_cond rfl (fun hc => ?_) (fun hc => ?_) | refine rq rfl (rt .nil) ?_)
          have h0 : 0 < ([tIn (U)].map inT').length := by simp
          have h1l : (!decide ((([tIn (U)].map inT').length : Int) = 1)) = false := by simp
          have hTk : ((U).map takR).length = (U).length := List.length_map _
          have h16 : decide ((16 : Int) < ((((tIn (U)).taken).map takR).length : Int)) = false := decide_eq_false (by show ¬ (16 : Int) < (((U).map takR).length : Int); omega)
          have hr0 : ([tIn (U)].map inT')[0]? = some (inT' (tIn (U))) := rfl
          repeat' (first | (refine rg 28 ?_; refine oFb ?_; refine oLb ?_; refine sp (pln rfl (tyS rfl)) ?_; refine oCm ?_; refine oMv ?_; refine oFb ?_ <;> refine oLb ?_ <;> refine sp (pix rfl (tyS rfl)) ?_ <;> (first | refine oFb ?_ | refine oFd ?_) <;> (first | refine oLb ?_ | refine oLd ?_) <;> refine sp (pln rfl (tyS rfl)) ?_ <;> refine oCm ?_ <;> (first | refine oPt ?_ | refine oPf ?_) <;> refine oN ?_) | (refine rg 8 ?_; refine oMv ?_; refine sp (xinc rfl) ?_; refine oAs ?_; refine oN ?_) | refine gc ?_ | refine ct ?_ | refine cf ?_ | refine swp_cond rfl (fun hc => ?_) (fun hc => ?_) | refine rq rfl (rt .nil) ?_)
          exact fam_next (TkX.mk (k + 1) (U) (fresh ++ [n]) (done)) (by show l.length - (k + 1) < l.length - k; omega) (weak_sub (.cons rfl (by first | rfl | (first | (exact hfo) | (exact hfl))) rfl (.cons rfl (by first | rfl | (first | (exact hfo) | (exact hfl))) rfl (.cons rfl (by first | rfl | (first | (exact hfo) | (exact hfl))) rfl (.cons rfl (by first | rfl | (first | (exact hfo) | (exact hfl))) rfl (.cons rfl (by first | rfl | (first | (exact hfo) | (exact hfl))) rfl (.cons rfl (by first | rfl | (first | (exact hfo) | (exact hfl))) rfl (.cons rfl (by first | rfl | (first | (exact hfo) | (exact hfl))) rfl .nil))))))) (.cons rfl (by first | rfl | (first | (exact hfo) | (exact hfl))) rfl (.cons rfl (by first | rfl | (first | (exact hfo) | (exact hfl))) rfl .nil)) (.cons rfl (by first | rfl | (first | (exact hfo) | (exact hfl))) (.cons rfl (by first | rfl | (first | (exact hfo) | (exact hfl))) .nil))) (TkOk2.mk hinv2 (by show k + 1 ≤ l.length; omega) (by show (fresh ++ [n]).length ≤ k + 1; rw [List.length_append]; show fresh.length + 1 ≤ k + 1; omega) (by show done.length ≤ k + 1; omega))
  · have hltI : ¬ (k : Int) < ((l.map nT).length : Int) := by omega
    repeat' (first | refine fam_exit ?_ | (refine rg 7 ?_; refine oMv ?_; refine oMv ?_; refine sp (pln rfl (tyS rfl)) ?_; refine oCm ?_; refine oN ?_) | (refine rg 30 ?_; refine oC (ca) rfl .nil ?_; refine oAs ?_; refine oN ?_) | refine gc ?_ | refine ct ?_ | refine cf ?_ | refine swp_cond rfl (fun hc => ?_) (fun hc => ?_) | refine rq rfl (rt .nil) ?_)
    all_goals rfl
end Go.Proofs.Ytabejnjnkpdjbaa.PoolTakesOnce
