/- Merged by bundles.py: SimSo, SimSs, PlSort3. -/
import Derived.Test.YtabejnjnkpdjbaaU32
import Derived.Test.YtabejnjnkpdjbaaU15
import Derived.Test.YtabejnjnkpdjbaaU28
/- symMerge: behind the search of the long way. -/
namespace Go.Proofs.Ytabejnjnkpdjbaa.Sim
set_option linter.unusedVariables false
set_option linter.unusedSimpArgs false
open Go.RowKit Mem
structure JoinU (N : Nat) (st' : St) (Q : Exit → St → Prop) (e : Exit) (s : St) : Prop where
  go : match e with
    | .normal => Weak N s st'
    | e => Q e s
theorem swp_joinU {P : Program} {N : Nat} {Q : Exit → St → Prop} {st : St} {c : Code} (st' : St) (k : Q .normal st') (h : SWp P N c (JoinU N st' Q) st) : SWp P N c Q st := .mk fun C a w hr =>
  wk_mono (fun e a' w' ⟨s, hr', hq⟩ => by
    cases e with
    | normal => exact ⟨st', (show Weak N s st' from hq.go).go _ _ _ hr', k⟩
    | _ => exact ⟨s, hr', hq.go⟩) (h.go C a w hr)
theorem joinU_go {N : Nat} {st' : St} {Q : Exit → St → Prop} {s : St} (hw : Weak N s st') : JoinU N st' Q .normal s := ⟨hw⟩
def SM39 (N a m b mid n s e : Nat) (l : List PTk) : St := ⟨smT N a m b mid n [(20, .t (i64T (s : Int))), (24, .t (i64T (e : Int)))], [], [(2000, ⟨46, 4, l.map takR⟩)]⟩
def SM41 (N a b mid s e : Nat) (l : List PTk) : St := ⟨[(0, .own 2000 N), (1, .t (i64T (a : Int))), (3, .t (i64T (b : Int))), (4, .t (.clo 57 [])), (18, .t (i64T (mid : Int))), (20, .t (i64T (s : Int))), (24, .t (i64T (e : Int)))], [], [(2000, ⟨46, 4, l.map takR⟩)]⟩
set_option maxRecDepth 100000 in
set_option maxHeartbeats 4000000 in
theorem symE_ {c : Code} (hc : fS 39 (bodyOf Try.f124) = some c) {Q : Exit → St → Prop} (N a m b mid n s e : Nat) (l : List PTk) (hN : N = l.length) (hb : N ≤ 2000) (heN : e ≤ N)
    (h : Q .normal (SM41 N a b mid s e (if s < m ∧ m < e then rotT l s m e else l))) : SWp Try.prog 220 c Q (SM39 N a m b mid n s e l) := by
  obtain rfl := Option.some.inj hc
  clear hc
  refine swp_joinU _ h ?_
  clear h
  unfold SM39 smT
  by_cases hs : s < m
  · have hsI : decide (((s : Nat) : Int) < ((m : Nat) : Int)) = true := decide_eq_true (by omega)
    by_cases hm : m < e
    · have hmI : decide (((m : Nat) : Int) < ((e : Nat) : Int)) = true := decide_eq_true (by omega)
      have c1 := rotate_ N s m e l hN hb hs hm heN
      have hln : ((rotT l s m e).map takR).length = (l.map takR).length := by rw [List.length_map, List.length_map, rotT_len]
      rw [if_pos ⟨hs, hm⟩]
      repeat' (first | refine gc ?_ | refine joinU_go (weak_sub (.cons rfl rfl rfl (.cons rfl rfl rfl (.cons rfl rfl rfl (.cons rfl rfl rfl (.cons rfl rfl rfl (.cons rfl rfl rfl (.cons rfl rfl rfl .nil))))))) .nil (.cons rfl rfl .nil)) | refine rg 39 (aq61 ?_) | (refine rg 40 (aq62 ?_); refine sops_lcall (c1) (fun i => i) (fun i => i) (fun i => Nat.beq i 2000) (.free rfl rfl) rfl rfl rfl (by ((repeat' (first | exact .nil | refine .cons rfl rfl rfl ?_)) <;> fail)) .nil (.cons rfl rfl .nil) rfl rfl (kp_id 2000 rfl rfl rfl (by first | rfl | assumption)) ?_; refine oN ?_) | refine ct ?_)
    · have hmI : decide (((m : Nat) : Int) < ((e : Nat) : Int)) = false := decide_eq_false (by omega)
      rw [if_neg fun x => hm x.2]
      repeat' (first | refine gc ?_ | refine joinU_go (weak_sub (.cons rfl rfl rfl (.cons rfl rfl rfl (.cons rfl rfl rfl (.cons rfl rfl rfl (.cons rfl rfl rfl (.cons rfl rfl rfl (.cons rfl rfl rfl .nil))))))) .nil (.cons rfl rfl .nil)) | refine rg 39 (aq61 ?_) | refine ct ?_ | refine cf ?_)
  · have hsI : decide (((s : Nat) : Int) < ((m : Nat) : Int)) = false := decide_eq_false (by omega)
    rw [if_neg fun x => hs x.1]
    repeat' (first | refine gc ?_ | refine joinU_go (weak_sub (.cons rfl rfl rfl (.cons rfl rfl rfl (.cons rfl rfl rfl (.cons rfl rfl rfl (.cons rfl rfl rfl (.cons rfl rfl rfl (.cons rfl rfl rfl .nil))))))) .nil (.cons rfl rfl .nil)) | refine rg 39 (aq63 ?_) | refine ct ?_ | refine cf ?_)
def symC (N a m b : Nat) (l l' : List PTk) : Prop := LCalls Try.prog 124 [.own 2000 N, .t (i64T (a : Int)), .t (i64T (m : Int)), .t (i64T (b : Int)), .t (.clo 57 [])] [] [(2000, ⟨46, 4, l.map takR⟩)] (resA []) [] [(2000, ⟨46, 4, l'.map takR⟩)]
set_option maxRecDepth 100000 in
set_option maxHeartbeats 4000000 in
theorem symF_ {c : Code} (hc : fS 41 (bodyOf Try.f124) = some c) {Q : Exit → St → Prop} (N a b mid s e : Nat) (l l' : List PTk) (hl : l'.length = l.length) (ih : a < s → s < mid → symC N a s mid l l')
    (h : Q .normal (SM41 N a b mid s e (if a < s ∧ s < mid then l' else l))) : SWp Try.prog 220 c Q (SM41 N a b mid s e l) := by
  obtain rfl := Option.some.inj hc
  clear hc
  refine swp_joinU _ h ?_
  clear h
  unfold SM41
  by_cases hs : a < s
  · have hsI : decide (((a : Nat) : Int) < ((s : Nat) : Int)) = true := decide_eq_true (by omega)
    by_cases hm : s < mid
    · have hmI : decide (((s : Nat) : Int) < ((mid : Nat) : Int)) = true := decide_eq_true (by omega)
      have c1 := ih hs hm
      unfold symC at c1
      have hln : (l'.map takR).length = (l.map takR).length := by rw [List.length_map, List.length_map, hl]
      rw [if_pos ⟨hs, hm⟩]
      repeat' (first | refine gc ?_ | refine joinU_go (weak_sub (.cons rfl rfl rfl (.cons rfl rfl rfl (.cons rfl rfl rfl (.cons rfl rfl rfl (.cons rfl rfl rfl (.cons rfl rfl rfl (.cons rfl rfl rfl .nil))))))) .nil (.cons rfl rfl .nil)) | refine rg 41 (aq61 ?_) | (refine rg 42 (aq62 ?_); refine sops_lcall (c1) (fun i => i) (fun i => i) (fun i => Nat.beq i 2000) (.free rfl rfl) rfl rfl rfl (by ((repeat' (first | exact .nil | refine .cons rfl rfl rfl ?_)) <;> fail)) .nil (.cons rfl rfl .nil) rfl rfl (kp_id 2000 rfl rfl rfl (by first | rfl | assumption)) ?_; refine oN ?_) | refine ct ?_)
    · have hmI : decide (((s : Nat) : Int) < ((mid : Nat) : Int)) = false := decide_eq_false (by omega)
      rw [if_neg fun x => hm x.2]
      repeat' (first | refine gc ?_ | refine joinU_go (weak_sub (.cons rfl rfl rfl (.cons rfl rfl rfl (.cons rfl rfl rfl (.cons rfl rfl rfl (.cons rfl rfl rfl (.cons rfl rfl rfl (.cons rfl rfl rfl .nil))))))) .nil (.cons rfl rfl .nil)) | refine rg 41 (aq61 ?_) | refine ct ?_ | refine cf ?_)
  · have hsI : decide (((a : Nat) : Int) < ((s : Nat) : Int)) = false := decide_eq_false (by omega)
    rw [if_neg fun x => hs x.1]
    repeat' (first | refine gc ?_ | refine joinU_go (weak_sub (.cons rfl rfl rfl (.cons rfl rfl rfl (.cons rfl rfl rfl (.cons rfl rfl rfl (.cons rfl rfl rfl (.cons rfl rfl rfl (.cons rfl rfl rfl .nil))))))) .nil (.cons rfl rfl .nil)) | refine rg 41 (aq63 ?_) | refine ct ?_ | refine cf ?_)
set_option maxRecDepth 100000 in
set_option maxHeartbeats 4000000 in
theorem symG_ {c : Code} (hc : fS 43 (bodyOf Try.f124) = some c) {Q : Exit → St → Prop} (N a b mid s e : Nat) (l l' : List PTk) (hl : l'.length = l.length) (ih : mid < e → e < b → symC N mid e b l l')
    (hret : ∀ st, RetL Try.prog Try.f124 (resA []) [] [(2000, ⟨46, 4, (if mid < e ∧ e < b then l' else l).map takR⟩)] .normal st → Q .normal st) : SWp Try.prog 220 c Q (SM41 N a b mid s e l) := by
  obtain rfl := Option.some.inj hc
  clear hc
  unfold SM41
  by_cases hs : mid < e
  · have hsI : decide (((mid : Nat) : Int) < ((e : Nat) : Int)) = true := decide_eq_true (by omega)
    by_cases hm : e < b
    · have hmI : decide (((e : Nat) : Int) < ((b : Nat) : Int)) = true := decide_eq_true (by omega)
      have c1 := ih hs hm
      unfold symC at c1
      have hln : (l'.map takR).length = (l.map takR).length := by rw [List.length_map, List.length_map, hl]
      rw [if_pos ⟨hs, hm⟩] at hret
      repeat' (first | refine gc ?_ | refine hret _ (retl (.inl rfl) rfl .nil rfl rfl .nil (.cons rfl rfl .nil)) | refine rg 43 (aq61 ?_) | (refine rg 44 (aq62 ?_); refine sops_lcall (c1) (fun i => i) (fun i => i) (fun i => Nat.beq i 2000) (.free rfl rfl) rfl rfl rfl (by ((repeat' (first | exact .nil | refine .cons rfl rfl rfl ?_)) <;> fail)) .nil (.cons rfl rfl .nil) rfl rfl (kp_id 2000 rfl rfl rfl (by first | rfl | assumption)) ?_; refine oN ?_) | refine ct ?_)
    · have hmI : decide (((e : Nat) : Int) < ((b : Nat) : Int)) = false := decide_eq_false (by omega)
      rw [if_neg fun x => hm x.2] at hret
      repeat' (first | refine gc ?_ | refine hret _ (retl (.inl rfl) rfl .nil rfl rfl .nil (.cons rfl rfl .nil)) | refine rg 43 (aq61 ?_) | refine ct ?_ | refine cf ?_)
  · have hsI : decide (((mid : Nat) : Int) < ((e : Nat) : Int)) = false := decide_eq_false (by omega)
    rw [if_neg fun x => hs x.1] at hret
    repeat' (first | refine gc ?_ | refine hret _ (retl (.inl rfl) rfl .nil rfl rfl .nil (.cons rfl rfl .nil)) | refine rg 43 (aq63 ?_) | refine ct ?_ | refine cf ?_)
end Go.Proofs.Ytabejnjnkpdjbaa.Sim

/- symMerge, whole. -/
namespace Go.Proofs.Ytabejnjnkpdjbaa.Sim
set_option linter.unusedVariables false
set_option linter.unusedSimpArgs false
open Go.RowKit Mem
set_option maxRecDepth 100000 in
set_option maxHeartbeats 4000000 in
theorem symZ_ {c0 d0 : Code} (hc0 : fS 32 (bodyOf Try.f124) = some (.seq c0 d0)) {Q : Exit → St → Prop} (N a m b f lo hi : Nat) (l : List PTk) (hN : N = l.length) (hb : N ≤ 2000) (h1 : a < m) (h2 : m < b) (h3 : b ≤ N) (ha : ¬ m - a = 1) (hbm : ¬ b - m = 1) (hf : b - a ≤ f + 1) (hlo : lo ≤ hi) (hhi : hi ≤ 10000)
    (hin : ∀ c, lo ≤ c → c < hi → c < N ∧ (a + b) / 2 + m - 1 - c < N ∧ c ≤ (a + b) / 2 + m - 1)
    (hs : bsr (fun c => !ltA ltK l ((a + b) / 2 + m - 1 - c) c) (hi - lo) lo hi = symS ltK l a m b)
    (ih : ∀ (l : List PTk) (a m b : Nat), N = l.length → a < m → m < b → b ≤ N → b - a ≤ f → symC N a m b l (symM ltK f l a m b))
    (hret : ∀ st, RetL Try.prog Try.f124 (resA []) [] [(2000, ⟨46, 4, (symM ltK (f + 1) l a m b).map takR⟩)] .normal st → Q .normal st) : SWp Try.prog 220 c0 (Then Try.prog 220 d0 Q) (SM32 N a m b ((a + b) / 2) ((a + b) / 2 + m) lo hi l) := by
  refine symD_ hc0 N a m b _ _ lo hi l hN hb hlo hhi (by omega) (by omega) hin ?_
  intro c1 d1 hc
  rw [hs]
  obtain ⟨rfl, rfl⟩ := Code.seq.inj (Option.some.inj hc)
  clear hc hc0
  have hsin := symS_in ltK l h1 h2
  have hm : symM ltK (f + 1) l a m b = if (a + b) / 2 < (a + b) / 2 + m - symS ltK l a m b ∧ (a + b) / 2 + m - symS ltK l a m b < b then symM ltK f (if a < symS ltK l a m b ∧ symS ltK l a m b < (a + b) / 2 then symM ltK f (symR ltK l a m b) a (symS ltK l a m b) ((a + b) / 2) else symR ltK l a m b) ((a + b) / 2) ((a + b) / 2 + m - symS ltK l a m b) b else (if a < symS ltK l a m b ∧ symS ltK l a m b < (a + b) / 2 then symM ltK f (symR ltK l a m b) a (symS ltK l a m b) ((a + b) / 2) else symR ltK l a m b) := by
    conv => lhs; unfold symM
    rw [if_neg ha, if_neg hbm]
  rw [hm] at hret
  clear hm
  have hR : (if symS ltK l a m b < m ∧ m < (a + b) / 2 + m - symS ltK l a m b then rotT l (symS ltK l a m b) m ((a + b) / 2 + m - symS ltK l a m b) else l) = symR ltK l a m b := rfl
  have hRl := symR_len ltK l a m b
  generalize symR ltK l a m b = R at *
  generalize symS ltK l a m b = s at *
  have hmid1 : a < (a + b) / 2 := by omega
  have hmid2 : (a + b) / 2 < b := by omega
  have hmidf : b - (a + b) / 2 ≤ f ∧ (a + b) / 2 - a ≤ f := by omega
  generalize (a + b) / 2 = mid at *
  generalize he : mid + m - s = e at *
  generalize hn : mid + m = n at *
  have hfl : ∀ (l : List PTk) x y z, (symM ltK f l x y z).length = l.length := fun l x y z => symM_len ltK f l x y z
  have c1 : a < s → s < mid → symC N a s mid R (symM ltK f R a s mid) := fun g1 g2 => ih R a s mid (by omega) g1 g2 (by omega) (by omega)
  have hl2 : (if a < s ∧ s < mid then symM ltK f R a s mid else R).length = R.length := by split; exact hfl _ _ _ _; rfl
  have c2 := fun (g1 : mid < e) (g2 : e < b) => ih (if a < s ∧ s < mid then symM ltK f R a s mid else R) mid e b (by omega) g1 g2 h3 hmidf.1
  unfold SM38 smT
  refine rg 38 ?_
  refine oMv ?_
  refine oMv ?_
  refine sp (po_arith (c := ((e : Nat) : Int)) rfl rfl rfl (ar_sub (by refine wrap_i64 ?_; omega) (by omega))) ?_
  refine oAs ?_
  refine oN ?_
  refine then_go ?_
  refine swp_seq ?_
  refine swp_weak (st' := SM39 N a m b mid n s e l) (weak_sub (.cons rfl rfl rfl (.cons rfl rfl rfl (.cons rfl rfl rfl (.cons rfl rfl rfl (.cons rfl rfl rfl (.cons rfl rfl rfl (.cons rfl rfl rfl (.cons rfl rfl rfl (.cons rfl rfl rfl .nil))))))))) .nil (.cons rfl rfl .nil)) ?_
  refine symE_ rfl N a m b mid n s e l hN hb (by omega) ?_
  rw [hR]
  refine then_go ?_
  refine swp_seq ?_
  refine symF_ rfl N a b mid s e R _ (hfl _ _ _ _) c1 ?_
  refine then_go ?_
  generalize (if a < s ∧ s < mid then symM ltK f R a s mid else R) = R2 at *
  exact symG_ rfl N a b mid s e R2 _ (hfl _ _ _ _) c2 hret
set_option maxRecDepth 100000 in
set_option maxHeartbeats 4000000 in
theorem symMerge_ (N : Nat) (hb : N ≤ 2000) : ∀ (f : Nat) (l : List PTk) (a m b : Nat), N = l.length → a < m → m < b → b ≤ N → b - a ≤ f → symC N a m b l (symM ltK f l a m b)
  | 0, l, a, m, b, hN, h1, h2, h3, hf => by omega
  | f + 1, l, a, m, b, hN, h1, h2, h3, hf => by
    unfold symC
    refine lcalls_of Try.func124 rfl rfl Try.ntmps124 rfl ?_
    by_cases ha : m - a = 1
    · have hm : symM ltK (f + 1) l a m b = mvU l a (bsr (fun h => ltA ltK l h a) (b - m) m b - 1 - a) := by
        conv => lhs; unfold symM
        rw [if_pos ha]
      rw [hm]
      have hd : decide (((m - a : Nat) : Int) = 1) = true := decide_eq_true (by omega)
      repeat' (first | (refine rg 0 (aq16 ?_); (refine sp (po_arith (c := ((m - a : Nat) : Int)) rfl rfl rfl (ar_sub (by refine wrap_i64 ?_; omega) (by omega))) ?_); refine aq3 ?_) | refine gc ?_ | refine ct ?_ | refine cf ?_ | refine sc ?_ ?_ <;> intro hc | refine rq rfl .nil ?_)
      refine swp_weak (st' := SM0 N a m b l) (weak_sub (.cons rfl rfl rfl (.cons rfl rfl rfl (.cons rfl rfl rfl (.cons rfl rfl rfl (.cons rfl rfl rfl .nil))))) .nil (.cons rfl rfl .nil)) ?_
      exact symA_ rfl N a m b l hN hb ha h2 h3 fun st h => ⟨h⟩
    have hd : decide (((m - a : Nat) : Int) = 1) = false := decide_eq_false (by omega)
    by_cases hbm : b - m = 1
    · have hm : symM ltK (f + 1) l a m b = mvD l m (m - bsr (fun h => !ltA ltK l m h) (m - a) a m) := by
        conv => lhs; unfold symM
        rw [if_neg ha, if_pos hbm]
      rw [hm]
      have hd2 : decide (((b - m : Nat) : Int) = 1) = true := decide_eq_true (by omega)
      repeat' (first | (refine rg 0 (aq16 ?_); (refine sp (po_arith (c := ((m - a : Nat) : Int)) rfl rfl rfl (ar_sub (by refine wrap_i64 ?_; omega) (by omega))) ?_); refine aq3 ?_) | (refine rg 12 (aq16 ?_); (first | refine sp (po_arith (c := ((m - a : Nat) : Int)) rfl rfl rfl (ar_sub (by refine wrap_i64 ?_; omega) (by omega))) ?_ | refine sp (po_arith (c := ((b - m : Nat) : Int)) rfl rfl rfl (ar_sub (by refine wrap_i64 ?_; omega) (by omega))) ?_); refine aq3 ?_) | refine gc ?_ | refine ct ?_ | refine cf ?_ | refine sc ?_ ?_ <;> intro hc | refine rq rfl .nil ?_)
      refine swp_weak (st' := SM0 N a m b l) (weak_sub (.cons rfl rfl rfl (.cons rfl rfl rfl (.cons rfl rfl rfl (.cons rfl rfl rfl (.cons rfl rfl rfl .nil))))) .nil (.cons rfl rfl .nil)) ?_
      exact symB_ rfl N a m b l hN hb h1 h2 h3 fun st h => ⟨h⟩
    have hd2 : decide (((b - m : Nat) : Int) = 1) = false := decide_eq_false (by omega)
    have hcv : IntKind.u64.wrap ((a + b : Nat) : Int) = ((a + b : Nat) : Int) := by show ((a + b : Nat) : Int) % 18446744073709551616 = _; omega
    by_cases hmm : (a + b) / 2 < m
    · have hmI : (((a + b) / 2 : Nat) : Int) < ((m : Nat) : Int) := by omega
      repeat' (first | (refine rg 0 ?_; (first | refine sp (po_half (m := a + b) (by omega) rfl rfl rfl) ?_ | refine oMv ?_); (first | refine sp (po_half (m := a + b) (by omega) rfl rfl rfl) ?_ | refine oMv ?_); (refine sp (po_arith (c := ((m - a : Nat) : Int)) rfl rfl rfl (ar_sub (by refine wrap_i64 ?_; omega) (by omega))) ?_); (first | refine sp (po_half (m := a + b) (by omega) rfl rfl rfl) ?_ | refine oCm ?_); refine oN ?_) | (refine rg 12 ?_; (first | refine sp (po_half (m := a + b) (by omega) rfl rfl rfl) ?_ | refine oMv ?_); (first | refine sp (po_half (m := a + b) (by omega) rfl rfl rfl) ?_ | refine oMv ?_); (first | refine sp (po_arith (c := ((m - a : Nat) : Int)) rfl rfl rfl (ar_sub (by refine wrap_i64 ?_; omega) (by omega))) ?_ | refine sp (po_arith (c := ((b - m : Nat) : Int)) rfl rfl rfl (ar_sub (by refine wrap_i64 ?_; omega) (by omega))) ?_); (first | refine sp (po_half (m := a + b) (by omega) rfl rfl rfl) ?_ | refine oCm ?_); refine oN ?_) | (refine rg 24 ?_; (first | refine sp (po_half (m := a + b) (by omega) rfl rfl rfl) ?_ | refine oMv ?_); (first | refine sp (po_half (m := a + b) (by omega) rfl rfl rfl) ?_ | refine oMv ?_); (first | refine sp (po_arith (c := ((m - a : Nat) : Int)) rfl rfl rfl (ar_sub (by refine wrap_i64 ?_; omega) (by omega))) ?_ | refine sp (po_arith (c := ((b - m : Nat) : Int)) rfl rfl rfl (ar_sub (by refine wrap_i64 ?_; omega) (by omega))) ?_ | refine sp (po_arith (c := ((a + b : Nat) : Int)) rfl rfl rfl (ar_add (by refine wrap_i64 ?_; omega) (by omega))) ?_); (refine sp (po_conv_int (c := ((a + b : Nat) : Int)) rfl rfl (tyK rfl) (tyK rfl) hcv) ?_); refine sp (po_half (m := a + b) (by omega) rfl rfl rfl) ?_; (first | refine sp (po_conv_int (c := ((a + b : Nat) : Int)) rfl rfl (tyK rfl) (tyK rfl) hcv) ?_ | refine sp (po_half (m := a + b) (by omega) rfl rfl rfl) ?_ | refine sp (po_conv_int (c := (((a + b) / 2 : Nat) : Int)) rfl rfl (tyK rfl) (tyK rfl) (by refine wrap_i64 ?_; omega)) ?_); (first | refine sp (po_half (m := a + b) (by omega) rfl rfl rfl) ?_ | refine oAs ?_); refine oN ?_) | (refine rg 25 ?_; (first | refine sp (po_half (m := a + b) (by omega) rfl rfl rfl) ?_ | refine oMv ?_); (first | refine sp (po_half (m := a + b) (by omega) rfl rfl rfl) ?_ | refine oMv ?_); (first | refine sp (po_arith (c := ((m - a : Nat) : Int)) rfl rfl rfl (ar_sub (by refine wrap_i64 ?_; omega) (by omega))) ?_ | refine sp (po_arith (c := ((b - m : Nat) : Int)) rfl rfl rfl (ar_sub (by refine wrap_i64 ?_; omega) (by omega))) ?_ | refine sp (po_arith (c := ((a + b : Nat) : Int)) rfl rfl rfl (ar_add (by refine wrap_i64 ?_; omega) (by omega))) ?_ | refine sp (po_half (m := a + b) (by omega) rfl rfl rfl) ?_ | refine sp (po_arith (c := (((a + b) / 2 + m : Nat) : Int)) rfl rfl rfl (ar_add (by refine wrap_i64 ?_; omega) (by omega))) ?_); (first | refine sp (po_half (m := a + b) (by omega) rfl rfl rfl) ?_ | refine oAs ?_); refine oN ?_) | (refine rg 26 ?_; (first | refine sp (po_half (m := a + b) (by omega) rfl rfl rfl) ?_ | refine oAs ?_); (first | refine sp (po_half (m := a + b) (by omega) rfl rfl rfl) ?_ | refine oAs ?_); refine oN ?_) | (refine rg 27 ?_; (first | refine sp (po_half (m := a + b) (by omega) rfl rfl rfl) ?_ | refine oMv ?_); (first | refine sp (po_half (m := a + b) (by omega) rfl rfl rfl) ?_ | refine oMv ?_); (first | refine sp (po_half (m := a + b) (by omega) rfl rfl rfl) ?_ | refine oCm ?_); refine oN ?_) | (refine rg 28 ?_; (first | refine sp (po_half (m := a + b) (by omega) rfl rfl rfl) ?_ | refine oMv ?_); (first | refine sp (po_half (m := a + b) (by omega) rfl rfl rfl) ?_ | refine oMv ?_); (first | refine sp (po_arith (c := ((m - a : Nat) : Int)) rfl rfl rfl (ar_sub (by refine wrap_i64 ?_; omega) (by omega))) ?_ | refine sp (po_arith (c := ((b - m : Nat) : Int)) rfl rfl rfl (ar_sub (by refine wrap_i64 ?_; omega) (by omega))) ?_ | refine sp (po_arith (c := ((a + b : Nat) : Int)) rfl rfl rfl (ar_add (by refine wrap_i64 ?_; omega) (by omega))) ?_ | refine sp (po_half (m := a + b) (by omega) rfl rfl rfl) ?_ | refine sp (po_arith (c := (((a + b) / 2 + m : Nat) : Int)) rfl rfl rfl (ar_add (by refine wrap_i64 ?_; omega) (by omega))) ?_ | refine sp (po_arith (c := (((a + b) / 2 + m - b : Nat) : Int)) rfl rfl rfl (ar_sub (by refine wrap_i64 ?_; omega) (by omega))) ?_); (first | refine sp (po_half (m := a + b) (by omega) rfl rfl rfl) ?_ | refine oAs ?_); refine oN ?_) | (refine rg 29 ?_; (first | refine sp (po_half (m := a + b) (by omega) rfl rfl rfl) ?_ | refine oMv ?_); (first | refine sp (po_half (m := a + b) (by omega) rfl rfl rfl) ?_ | refine oAs ?_); refine oN ?_) | refine gc ?_ | refine ct ?_ | refine cf ?_ | refine sc ?_ ?_ <;> intro hc | refine rq rfl .nil ?_)
      refine swp_weak (st' := SM32 N a m b ((a + b) / 2) ((a + b) / 2 + m) ((a + b) / 2 + m - b) ((a + b) / 2) l) (weak_sub (.cons rfl rfl rfl (.cons rfl rfl rfl (.cons rfl rfl rfl (.cons rfl rfl rfl (.cons rfl rfl rfl (.cons rfl rfl rfl (.cons rfl rfl rfl (.cons rfl rfl rfl (.cons rfl rfl rfl .nil))))))))) .nil (.cons rfl rfl .nil)) ?_
      exact symZ_ rfl N a m b f _ _ l hN hb h1 h2 h3 ha hbm hf (by omega) (by omega) (fun c g1 g2 => by omega) (by unfold symS; rw [if_pos hmm]) (symMerge_ N hb f) fun st h => h
    · have hmI : ¬ (((a + b) / 2 : Nat) : Int) < ((m : Nat) : Int) := by omega
      repeat' (first | (refine rg 0 ?_; (first | refine sp (po_half (m := a + b) (by omega) rfl rfl rfl) ?_ | refine oMv ?_); (first | refine sp (po_half (m := a + b) (by omega) rfl rfl rfl) ?_ | refine oMv ?_); (refine sp (po_arith (c := ((m - a : Nat) : Int)) rfl rfl rfl (ar_sub (by refine wrap_i64 ?_; omega) (by omega))) ?_); (first | refine sp (po_half (m := a + b) (by omega) rfl rfl rfl) ?_ | refine oCm ?_); refine oN ?_) | (refine rg 12 ?_; (first | refine sp (po_half (m := a + b) (by omega) rfl rfl rfl) ?_ | refine oMv ?_); (first | refine sp (po_half (m := a + b) (by omega) rfl rfl rfl) ?_ | refine oMv ?_); (first | refine sp (po_arith (c := ((m - a : Nat) : Int)) rfl rfl rfl (ar_sub (by refine wrap_i64 ?_; omega) (by omega))) ?_ | refine sp (po_arith (c := ((b - m : Nat) : Int)) rfl rfl rfl (ar_sub (by refine wrap_i64 ?_; omega) (by omega))) ?_); (first | refine sp (po_half (m := a + b) (by omega) rfl rfl rfl) ?_ | refine oCm ?_); refine oN ?_) | (refine rg 24 ?_; (first | refine sp (po_half (m := a + b) (by omega) rfl rfl rfl) ?_ | refine oMv ?_); (first | refine sp (po_half (m := a + b) (by omega) rfl rfl rfl) ?_ | refine oMv ?_); (first | refine sp (po_arith (c := ((m - a : Nat) : Int)) rfl rfl rfl (ar_sub (by refine wrap_i64 ?_; omega) (by omega))) ?_ | refine sp (po_arith (c := ((b - m : Nat) : Int)) rfl rfl rfl (ar_sub (by refine wrap_i64 ?_; omega) (by omega))) ?_ | refine sp (po_arith (c := ((a + b : Nat) : Int)) rfl rfl rfl (ar_add (by refine wrap_i64 ?_; omega) (by omega))) ?_); (refine sp (po_conv_int (c := ((a + b : Nat) : Int)) rfl rfl (tyK rfl) (tyK rfl) hcv) ?_); refine sp (po_half (m := a + b) (by omega) rfl rfl rfl) ?_; (first | refine sp (po_conv_int (c := ((a + b : Nat) : Int)) rfl rfl (tyK rfl) (tyK rfl) hcv) ?_ | refine sp (po_half (m := a + b) (by omega) rfl rfl rfl) ?_ | refine sp (po_conv_int (c := (((a + b) / 2 : Nat) : Int)) rfl rfl (tyK rfl) (tyK rfl) (by refine wrap_i64 ?_; omega)) ?_); (first | refine sp (po_half (m := a + b) (by omega) rfl rfl rfl) ?_ | refine oAs ?_); refine oN ?_) | (refine rg 25 ?_; (first | refine sp (po_half (m := a + b) (by omega) rfl rfl rfl) ?_ | refine oMv ?_); (first | refine sp (po_half (m := a + b) (by omega) rfl rfl rfl) ?_ | refine oMv ?_); (first | refine sp (po_arith (c := ((m - a : Nat) : Int)) rfl rfl rfl (ar_sub (by refine wrap_i64 ?_; omega) (by omega))) ?_ | refine sp (po_arith (c := ((b - m : Nat) : Int)) rfl rfl rfl (ar_sub (by refine wrap_i64 ?_; omega) (by omega))) ?_ | refine sp (po_arith (c := ((a + b : Nat) : Int)) rfl rfl rfl (ar_add (by refine wrap_i64 ?_; omega) (by omega))) ?_ | refine sp (po_half (m := a + b) (by omega) rfl rfl rfl) ?_ | refine sp (po_arith (c := (((a + b) / 2 + m : Nat) : Int)) rfl rfl rfl (ar_add (by refine wrap_i64 ?_; omega) (by omega))) ?_); (first | refine sp (po_half (m := a + b) (by omega) rfl rfl rfl) ?_ | refine oAs ?_); refine oN ?_) | (refine rg 26 ?_; (first | refine sp (po_half (m := a + b) (by omega) rfl rfl rfl) ?_ | refine oAs ?_); (first | refine sp (po_half (m := a + b) (by omega) rfl rfl rfl) ?_ | refine oAs ?_); refine oN ?_) | (refine rg 27 ?_; (first | refine sp (po_half (m := a + b) (by omega) rfl rfl rfl) ?_ | refine oMv ?_); (first | refine sp (po_half (m := a + b) (by omega) rfl rfl rfl) ?_ | refine oMv ?_); (first | refine sp (po_half (m := a + b) (by omega) rfl rfl rfl) ?_ | refine oCm ?_); refine oN ?_) | (refine rg 30 ?_; (first | refine sp (po_half (m := a + b) (by omega) rfl rfl rfl) ?_ | refine oMv ?_); (first | refine sp (po_half (m := a + b) (by omega) rfl rfl rfl) ?_ | refine oAs ?_); refine oN ?_) | (refine rg 31 ?_; (first | refine sp (po_half (m := a + b) (by omega) rfl rfl rfl) ?_ | refine oMv ?_); (first | refine sp (po_half (m := a + b) (by omega) rfl rfl rfl) ?_ | refine oAs ?_); refine oN ?_) | refine gc ?_ | refine ct ?_ | refine cf ?_ | refine sc ?_ ?_ <;> intro hc | refine rq rfl .nil ?_)
      refine swp_weak (st' := SM32 N a m b ((a + b) / 2) ((a + b) / 2 + m) a m l) (weak_sub (.cons rfl rfl rfl (.cons rfl rfl rfl (.cons rfl rfl rfl (.cons rfl rfl rfl (.cons rfl rfl rfl (.cons rfl rfl rfl (.cons rfl rfl rfl (.cons rfl rfl rfl (.cons rfl rfl rfl .nil))))))))) .nil (.cons rfl rfl .nil)) ?_
      exact symZ_ rfl N a m b f _ _ l hN hb h1 h2 h3 ha hbm hf (by omega) (by omega) (fun c g1 g2 => by omega) (by unfold symS; rw [if_neg hmm]) (symMerge_ N hb f) fun st h => h
end Go.Proofs.Ytabejnjnkpdjbaa.Sim

/- Sorting in place: what the models answer is the sorted row, those of one number as they stood. -/
namespace Go.Proofs.Ytabejnjnkpdjbaa.Sim
set_option linter.unusedVariables false
set_option linter.unusedSimpArgs false
open Go.RowKit Mem
section
variable {α : Type}
theorem swpT_mid (P Q S : List α) (x y : α) : swpT (P ++ x :: (Q ++ y :: S)) P.length (P.length + 1 + Q.length) = P ++ y :: (Q ++ x :: S) := by
  have h1 : (P ++ x :: (Q ++ y :: S))[P.length]? = some x := by rw [List.getElem?_append_right (Nat.le_refl _), Nat.sub_self]; rfl
  have h2 : (P ++ x :: (Q ++ y :: S))[P.length + 1 + Q.length]? = some y := by
    rw [List.getElem?_append_right (by omega), show P.length + 1 + Q.length - P.length = Q.length + 1 from by omega, List.getElem?_cons_succ, List.getElem?_append_right (Nat.le_refl _), Nat.sub_self]; rfl
  unfold swpT
  rw [h1, h2]
  dsimp only
  rw [List.set_append_right _ _ (Nat.le_refl _), Nat.sub_self, List.set_cons_zero, List.set_append_right _ _ (by omega), show P.length + 1 + Q.length - P.length = Q.length + 1 from by omega, List.set_cons_succ, List.set_append_right _ _ (Nat.le_refl _), Nat.sub_self, List.set_cons_zero]
theorem swapR_mid : ∀ (U V P W S : List α), U.length = V.length → swapR (P ++ (U ++ (W ++ (V ++ S)))) P.length (P.length + U.length + W.length) U.length = P ++ (V ++ (W ++ (U ++ S))) := by
  intro U
  -- by the last element
  induction hn : U.length generalizing U with
  | zero =>
    intro V P W S h
    have hU := List.eq_nil_of_length_eq_zero hn
    have hV := List.eq_nil_of_length_eq_zero (h.symm)
    subst hU hV
    rfl
  | succ n ih =>
    intro V P W S h
    rcases List.eq_nil_or_concat U with rfl | ⟨U', x, rfl⟩
    · simp at hn
    rcases List.eq_nil_or_concat V with rfl | ⟨V', y, rfl⟩
    · simp at h
    simp only [List.concat_eq_append] at hn h ⊢
    simp only [List.length_append, List.length_singleton] at hn h
    have hU' : U'.length = n := by omega
    have hV' : n = V'.length := by omega
    have e1 := ih U' hU' V' P ([x] ++ W) ([y] ++ S) hV'
    have s1 : P ++ (U' ++ [x] ++ (W ++ (V' ++ [y] ++ S))) = P ++ (U' ++ ([x] ++ W ++ (V' ++ ([y] ++ S)))) := by simp
    have s2 : P.length + n + ([x] ++ W).length = P.length + (n + 1) + W.length := by simp; omega
    rw [s2] at e1
    show swpT (swapR _ _ _ n) (P.length + n) (P.length + (n + 1) + W.length + n) = _
    rw [s1, e1]
    have s3 : P ++ (V' ++ ([x] ++ W ++ (U' ++ ([y] ++ S)))) = (P ++ V') ++ x :: ((W ++ U') ++ y :: S) := by simp
    have s4 : P.length + n = (P ++ V').length := by rw [List.length_append, hV']
    have s5 : P.length + (n + 1) + W.length + n = (P ++ V').length + 1 + (W ++ U').length := by rw [List.length_append, List.length_append, hU', ← hV']; omega
    rw [s3, s5, s4, swpT_mid]
    simp
theorem rotT_mid_aux (m : Nat) : ∀ (f : Nat) (P U V S : List α), m = P.length + U.length → 0 < U.length → 0 < V.length → U.length + V.length ≤ f + 1 →
    swapR (rotL m f (P ++ (U ++ (V ++ S))) U.length V.length).1 (m - (rotL m f (P ++ (U ++ (V ++ S))) U.length V.length).2) m (rotL m f (P ++ (U ++ (V ++ S))) U.length V.length).2 = P ++ (V ++ (U ++ S))
  | 0, P, U, V, S, hm, h1, h2, hf => by omega
  | f + 1, P, U, V, S, hm, h1, h2, hf => by
    unfold rotL
    by_cases he : U.length = V.length
    · rw [if_pos he]
      dsimp only
      have := swapR_mid U V P [] S he
      rw [List.nil_append, List.nil_append, List.length_nil, Nat.add_zero] at this
      rw [hm, show P.length + U.length - U.length = P.length from by omega]
      exact this
    rw [if_neg he]
    by_cases hlt : V.length < U.length
    · rw [if_pos hlt]
      -- the first of U against V
      have hU : U = U.take V.length ++ U.drop V.length := (List.take_append_drop _ _).symm
      have hl1 : (U.take V.length).length = V.length := by rw [List.length_take]; omega
      have hl2 : (U.drop V.length).length = U.length - V.length := List.length_drop
      generalize U.take V.length = U1 at *
      generalize U.drop V.length = U2 at *
      have e1 := swapR_mid U1 V P U2 S hl1
      have s1 : P ++ (U ++ (V ++ S)) = P ++ (U1 ++ (U2 ++ (V ++ S))) := by rw [hU]; simp
      have s2 : swapR (P ++ (U ++ (V ++ S))) (m - U.length) m V.length = (P ++ V) ++ (U2 ++ (U1 ++ S)) := by
        rw [s1, show m - U.length = P.length from by omega, show m = P.length + U1.length + U2.length from by omega, ← hl1, e1]; simp
      rw [s2, ← hl2]
      have hr := rotT_mid_aux m f (P ++ V) U2 U1 S (by rw [List.length_append]; omega) (by omega) (by omega) (by omega)
      rw [hl1] at hr
      rw [hr, hU]; simp
    · rw [if_neg hlt]
      have hV : V = V.take (V.length - U.length) ++ V.drop (V.length - U.length) := (List.take_append_drop _ _).symm
      have hl1 : (V.take (V.length - U.length)).length = V.length - U.length := by rw [List.length_take]; omega
      have hl2 : (V.drop (V.length - U.length)).length = U.length := by rw [List.length_drop]; omega
      generalize V.take (V.length - U.length) = V1 at *
      generalize V.drop (V.length - U.length) = V2 at *
      have e1 := swapR_mid U V2 P V1 S hl2.symm
      have s1 : P ++ (U ++ (V ++ S)) = P ++ (U ++ (V1 ++ (V2 ++ S))) := by rw [hV]; simp
      have s2 : swapR (P ++ (U ++ (V ++ S))) (m - U.length) (m + V.length - U.length) U.length = P ++ (V2 ++ (V1 ++ (U ++ S))) := by
        rw [s1, show m - U.length = P.length from by omega, show m + V.length - U.length = P.length + U.length + V1.length from by omega, e1]
      rw [s2, ← hl1]
      have hr := rotT_mid_aux m f P V2 V1 (U ++ S) (by omega) (by omega) (by omega) (by omega)
      rw [hl2] at hr
      rw [hr, hV]; simp
theorem rotT_mid (P U V S : List α) (h1 : 0 < U.length) (h2 : 0 < V.length) : rotT (P ++ (U ++ (V ++ S))) P.length (P.length + U.length) (P.length + U.length + V.length) = P ++ (V ++ (U ++ S)) := by
  unfold rotT
  have := rotT_mid_aux (P.length + U.length) (P.length + U.length + V.length - P.length) P U V S rfl h1 h2 (by omega)
  rw [show P.length + U.length - P.length = U.length from by omega, show P.length + U.length + V.length - (P.length + U.length) = V.length from by omega]
  exact this
theorem mvU_mid (P : List α) (x : α) : ∀ (n : Nat) (U S : List α), U.length = n → mvU (P ++ x :: (U ++ S)) P.length n = P ++ (U ++ x :: S) := by
  intro n
  induction n with
  | zero =>
    intro U S h
    rw [List.eq_nil_of_length_eq_zero h]; rfl
  | succ n ih =>
    intro U S h
    rcases List.eq_nil_or_concat U with rfl | ⟨U', y, rfl⟩
    · simp at h
    rw [List.concat_eq_append] at *
    rw [List.length_append, List.length_singleton] at h
    have hU' : U'.length = n := by omega
    have e1 := ih U' ([y] ++ S) hU'
    show swpT (mvU _ _ n) (P.length + n) (P.length + n + 1) = _
    rw [show P ++ x :: (U' ++ [y] ++ S) = P ++ x :: (U' ++ ([y] ++ S)) from by simp, e1]
    have := swpT_mid (P ++ U') [] S x y
    rw [List.length_append, hU', List.length_nil, Nat.add_zero] at this
    rw [show P ++ (U' ++ x :: ([y] ++ S)) = P ++ U' ++ x :: ([] ++ y :: S) from by simp, this]
    simp
theorem mvD_mid (x : α) : ∀ (n : Nat) (U P S : List α), U.length = n → mvD (P ++ (U ++ x :: S)) (P.length + U.length) n = P ++ x :: (U ++ S) := by
  intro n
  induction n with
  | zero =>
    intro U P S h
    rw [List.eq_nil_of_length_eq_zero h]; rfl
  | succ n ih =>
    intro U P S h
    cases U with
    | nil => simp at h
    | cons y U =>
    rw [List.length_cons] at h
    have hU' : U.length = n := by omega
    have e1 := ih U (P ++ [y]) S hU'
    rw [List.length_append, List.length_singleton] at e1
    show swpT (mvD _ _ n) (P.length + (U.length + 1) - n - 1) (P.length + (U.length + 1) - n) = _
    rw [List.length_cons, show P.length + (U.length + 1) = P.length + 1 + U.length from by omega, show P ++ (y :: U ++ x :: S) = P ++ [y] ++ (U ++ x :: S) from by simp]
    rw [e1]
    have := swpT_mid P [] (U ++ S) y x
    rw [List.length_nil, Nat.add_zero] at this
    rw [show P.length + 1 + U.length - n - 1 = P.length from by omega, show P.length + 1 + U.length - n = P.length + 1 from by omega, show P ++ [y] ++ x :: (U ++ S) = P ++ y :: ([] ++ x :: (U ++ S)) from by simp, this]
    simp
theorem bsr_spec (p : Nat → Bool) : ∀ (f i j lo hi : Nat), j - i ≤ f → i ≤ j → (lo < i → p (i - 1) = true) → (j < hi → p j = false) → (lo < bsr p f i j → p (bsr p f i j - 1) = true) ∧ (bsr p f i j < hi → p (bsr p f i j) = false)
  | 0, i, j, lo, hi, hf, hij, h1, h2 => by
    have : i = j := by omega
    subst this
    exact ⟨h1, h2⟩
  | f + 1, i, j, lo, hi, hf, hij, h1, h2 => by
    by_cases hlt : i < j
    · cases hp : p ((i + j) / 2) with
      | true =>
        rw [bsr_yes hlt hp]
        exact bsr_spec p f _ j lo hi (by omega) (by omega) (fun _ => hp) h2
      | false =>
        rw [bsr_no hlt hp]
        exact bsr_spec p f i _ lo hi (by omega) (by omega) h1 (fun _ => hp)
    · have : i = j := by omega
      subst this
      rw [bsr_end]
      exact ⟨h1, h2⟩
abbrev Srt (key : α → Int) (l : List α) : Prop := l.Pairwise fun x y => key x ≤ key y
def StEq (key : α → Int) (l l' : List α) : Prop := ∀ k : Int, l.filter (fun x => decide (key x = k)) = l'.filter (fun x => decide (key x = k))
variable {key : α → Int}
theorem StEq.refl (l : List α) : StEq key l l := fun _ => rfl
theorem StEq.trans {a b c : List α} (h : StEq key a b) (g : StEq key b c) : StEq key a c := fun k => (h k).trans (g k)
theorem StEq.symm {a b : List α} (h : StEq key a b) : StEq key b a := fun k => (h k).symm
theorem StEq.app {a b c d : List α} (h : StEq key a b) (g : StEq key c d) : StEq key (a ++ c) (b ++ d) := fun k => by rw [List.filter_append, List.filter_append, h k, g k]
theorem StEq.swap {a b : List α} (h : ∀ x ∈ a, ∀ y ∈ b, key y < key x) : StEq key (a ++ b) (b ++ a) := fun k => by
  rw [List.filter_append, List.filter_append]
  by_cases ha : a.filter (fun x => decide (key x = k)) = []
  · rw [ha]; simp
  · have hb : b.filter (fun x => decide (key x = k)) = [] := by
      rw [List.filter_eq_nil_iff]
      intro y hy hk
      apply ha
      rw [List.filter_eq_nil_iff]
      intro x hx hk2
      have := h x hx y hy
      simp at hk hk2
      omega
    rw [hb]; simp
theorem StEq.mem {a b : List α} (h : StEq key a b) {x : α} (hx : x ∈ a) : x ∈ b := by
  have : x ∈ a.filter (fun y => decide (key y = key x)) := List.mem_filter.2 ⟨hx, by simp⟩
  rw [h] at this
  exact (List.mem_filter.1 this).1
theorem StEq.eq : ∀ {a b : List α}, StEq key a b → Srt key a → Srt key b → a = b
  | [], [], _, _, _ => rfl
  | [], y :: b, h, _, _ => by have := h.symm.mem (x := y) (by simp); simp at this
  | x :: a, [], h, _, _ => by have := h.mem (x := x) (by simp); simp at this
  | x :: a, y :: b, h, ha, hb => by
    have hxy : key x ≤ key y := by
      rcases List.mem_cons.1 (h.symm.mem (x := y) (by simp)) with e | e
      · rw [e]; exact Int.le_refl _
      · exact (List.pairwise_cons.1 ha).1 _ e
    have hyx : key y ≤ key x := by
      rcases List.mem_cons.1 (h.mem (x := x) (by simp)) with e | e
      · rw [e]; exact Int.le_refl _
      · exact (List.pairwise_cons.1 hb).1 _ e
    have hk : key y = key x := by omega
    have h0 := h (key x)
    rw [List.filter_cons_of_pos (by simp), List.filter_cons_of_pos (by simp [hk])] at h0
    injection h0 with e1 e2
    subst e1
    rw [StEq.eq (a := a) (b := b) (fun k => ?_) (List.pairwise_cons.1 ha).2 (List.pairwise_cons.1 hb).2]
    by_cases hkx : key x = k
    · rw [← hkx]; exact e2
    · have := h k
      rw [List.filter_cons_of_neg (by simpa using hkx), List.filter_cons_of_neg (by simpa using hkx)] at this
      exact this
end
end Go.Proofs.Ytabejnjnkpdjbaa.Sim
