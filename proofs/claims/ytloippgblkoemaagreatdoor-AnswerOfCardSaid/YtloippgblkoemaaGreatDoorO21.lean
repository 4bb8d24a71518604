/- Merged by bundles.py: PlReq2, SimBld, SimRq6, SimRq7. -/
import Derived.Test.YtloippgblkoemaaGreatDoorO20
import Derived.Test.YtloippgblkoemaaGreatDoorO18
import Derived.Scope
/- What the reader of messages keeps within bounds. -/
namespace Go.Proofs.YtloippgblkoemaaGreatDoor.Rq
set_option linter.unusedVariables false
set_option linter.unusedSimpArgs false
open Go.RowKit Mem Sim Opn Hd Str
structure Inv (n : Nat) (r : PRd) : Prop where
  hn : r.raw.heads.length ≤ 900
  hh : ∀ h ∈ r.raw.heads, okHead h
  ho : r.out.length ≤ n
  hl : r.line.length ≤ 40000 + n
  hb : r.raw.body.length ≤ 40000 + n
  hf : -70000 - (n : Int) ≤ r.left ∧ r.left ≤ 70000
  hp : 0 ≤ r.phase ∧ r.phase ≤ 6
theorem Inv.ok {n : Nat} {r : PRd} (h : Inv n r) (hn : n ≤ 500000) : RdOk r := ⟨Nat.le_trans h.hn (by omega), h.hh, Nat.le_trans h.ho (by omega), Nat.le_trans h.hl (by omega), Nat.le_trans h.hb (by omega)⟩
theorem Inv.up {n : Nat} {r : PRd} (h : Inv n r) : Inv (n + 1) r := ⟨h.hn, h.hh, by have := h.ho; omega, by have := h.hl; omega, by have := h.hb; omega, by have := h.hf; omega, h.hp⟩
theorem Inv.fault {n : Nat} {r : PRd} (h : Inv n r) (e : Int) : Inv n (faultP r e) := ⟨h.hn, h.hh, h.ho, h.hl, h.hb, h.hf, h.hp⟩
theorem Inv.whole {n : Nat} {r : PRd} (h : Inv n r) : Inv (n + 1) (wholeP r) := ⟨Nat.zero_le _, fun x hx => (by cases hx), by have := h.ho; unfold wholeP; simp; omega, Nat.zero_le _, Nat.zero_le _, by show -70000 - ((n + 1 : Nat) : Int) ≤ 0 ∧ (0 : Int) ≤ 70000; omega, by show (0 : Int) ≤ 0 ∧ (0 : Int) ≤ 6; omega⟩
theorem Inv.phase {n : Nat} {r : PRd} (h : Inv n r) (p : Int) (hp : 0 ≤ p ∧ p ≤ 6) : Inv n { r with phase := p } := ⟨h.hn, h.hh, h.ho, h.hl, h.hb, h.hf, hp⟩
theorem Inv.phleft {n : Nat} {r : PRd} (h : Inv n r) (p q : Int) (hp : 0 ≤ p ∧ p ≤ 6) (hq : -1 ≤ q ∧ q ≤ 65535) : Inv n { r with phase := p, left := q } := ⟨h.hn, h.hh, h.ho, h.hl, h.hb, by show -70000 - (n : Int) ≤ q ∧ q ≤ 70000; omega, hp⟩
theorem lenP_rng (s : ByteArray) : 0 ≤ (lenP s).1 ∧ (lenP s).1 ≤ 1024 := by
  unfold lenP
  split
  · split
    · rename_i h; simp only []; omega
    · simp
  · simp
theorem fram_len (l : List Pl.Head) : 0 ≤ (fram l).1.length ∧ (fram l).1.length ≤ 1024 := by
  unfold fram framV
  split
  · simp
  · split <;> simp
  · rename_i s
    split
    · exact lenP_rng _
    · simp
  · simp
theorem Inv.body {n : Nat} {r : PRd} (h : Inv n r) : Inv (n + 1) (bodyP r) := by
  have hl := fram_len r.raw.heads
  unfold bodyP
  split
  · exact (h.fault _).up
  · split
    · exact (h.phase 3 (by omega)).up
    · split
      · exact h.whole
      · exact (h.phleft 2 _ (by omega) (by omega)).up
theorem Inv.header {n : Nat} {r : PRd} (h : Inv n r) (s : ByteArray) (hs : s.size ≤ maxLen) : Inv (n + 1) (headerP r s) := by
  unfold headerP
  split
  · exact h.body
  · split
    · exact (h.fault _).up
    · split
      · split
        · rename_i h24
          refine Inv.up ⟨?_, ?_, h.ho, h.hl, h.hb, h.hf, h.hp⟩
          · simp only [List.length_append, List.length_cons, List.length_nil]; omega
          · intro x hx
            rcases List.mem_append.1 hx with hx | hx
            · exact h.hh x hx
            · simp at hx; subst hx; exact readH_ok s hs
        · exact (h.fault _).up
      · exact (h.fault _).up
theorem Inv.chunk {n : Nat} {r : PRd} (h : Inv n r) (s : ByteArray) : Inv (n + 1) (chunkP r s) := by
  have hz := sizeP_rng s
  unfold chunkP
  split
  · exact (h.fault _).up
  · split
    · exact (h.phase 6 (by omega)).up
    · split
      · exact (h.fault _).up
      · exact (h.phleft 4 _ (by omega) (by omega)).up
theorem Inv.ended {n : Nat} {r : PRd} (h : Inv n r) (s : ByteArray) : Inv (n + 1) (endedP r s) := by
  unfold endedP
  split
  · exact (h.fault _).up
  · split
    · exact h.whole
    · exact (h.phase 3 (by omega)).up
theorem Inv.line {n : Nat} {r : PRd} (h : Inv n r) (s : ByteArray) (hs : s.size ≤ maxLen) : Inv (n + 1) (lineP r s) := by
  unfold lineP
  split
  · exact Inv.up ⟨h.hn, h.hh, h.ho, h.hl, h.hb, h.hf, by show (0 : Int) ≤ 1 ∧ (1 : Int) ≤ 6; omega⟩
  · split
    · exact h.header s hs
    · split
      · exact h.chunk s
      · exact h.ended s
theorem Inv.take {n : Nat} (hn : n ≤ 500000) {r : PRd} (h : Inv n r) (c : UInt8) : Inv (n + 1) (takeP r c) := by
  have h0 : Inv n { r with line := [] } := ⟨h.hn, h.hh, h.ho, Nat.zero_le _, h.hb, h.hf, h.hp⟩
  have hl := h.hl
  unfold takeP
  split
  · exact h0.line _ (by unfold maxLen; rw [bs_size, List.length_dropLast]; omega)
  · split
    · exact (h.fault _).up
    · split
      · exact (h.fault _).up
      · exact ⟨h.hn, h.hh, Nat.le_trans h.ho (by omega), by simp only [List.length_append, List.length_cons, List.length_nil]; omega, Nat.le_trans h.hb (by omega), by have := h.hf; show -70000 - ((n + 1 : Nat) : Int) ≤ r.left ∧ r.left ≤ 70000; omega, h.hp⟩
def bodyR (r : PRd) (c : UInt8) : PRd := { r with raw := { r.raw with body := r.raw.body ++ [c] }, left := r.left - 1 }
theorem Inv.bodyR {n : Nat} {r : PRd} (h : Inv n r) (c : UInt8) : (bodyR r c).out.length ≤ n ∧ Inv (n + 1) (bodyR r c) := by
  have h1 := h.ho
  have h2 := h.hl
  have h3 := h.hb
  have h4 := h.hf
  have h5 : r.out.length ≤ n + 1 := by omega
  have h6 : r.line.length ≤ 40000 + (n + 1) := by omega
  have h7 : (r.raw.body ++ [c]).length ≤ 40000 + (n + 1) := by rw [List.length_append]; simp; omega
  have h8 : -70000 - ((n + 1 : Nat) : Int) ≤ r.left - 1 ∧ r.left - 1 ≤ 70000 := by omega
  exact ⟨h1, h.hn, h.hh, h5, h6, h7, h8, h.hp⟩
theorem bodyByte_eq (r : PRd) (c : UInt8) : bodyByte r c = if 0 < (bodyR r c).left then bodyR r c else if (bodyR r c).phase = 2 then wholeP (bodyR r c) else { bodyR r c with phase := 5, left := 0 } := rfl
theorem Inv.bodyB {n : Nat} {r : PRd} (h : Inv n r) (c : UInt8) : Inv (n + 1) (bodyByte r c) := by
  obtain ⟨h0, h1⟩ := h.bodyR c
  rw [bodyByte_eq]
  split
  · exact h1
  · split
    · exact ⟨Nat.zero_le _, fun x hx => (by cases hx), by unfold wholeP; simp; exact h0, Nat.zero_le _, Nat.zero_le _, by show -70000 - ((n + 1 : Nat) : Int) ≤ 0 ∧ (0 : Int) ≤ 70000; omega, by show (0 : Int) ≤ 0 ∧ (0 : Int) ≤ 6; omega⟩
    · exact h1.phleft 5 0 (by omega) (by omega)
theorem Inv.byte {n : Nat} (hn : n ≤ 500000) {r : PRd} (h : Inv n r) (c : UInt8) : Inv (n + 1) (byteP r c) := by
  unfold byteP
  split
  · exact h.up
  · split
    · exact h.take hn c
    · exact h.bodyB c
theorem Inv.feed {m : Nat} {r : PRd} (h : Inv m r) (l : List UInt8) (hl : m + l.length ≤ 500000) : ∀ k, k ≤ l.length → Inv (m + k) (feedP r (l.take k))
  | 0, _ => h
  | k + 1, hk => by
    have ih := Inv.feed h l hl k (by omega)
    unfold feedP at ih ⊢
    rw [List.take_succ_eq_append_getElem (by omega), List.foldl_append]
    exact ih.byte (by omega) _
theorem feed_snoc (r : PRd) (l : List UInt8) {k : Nat} (hk : k < l.length) : feedP r (l.take (k + 1)) = byteP (feedP r (l.take k)) l[k] := by
  unfold feedP
  rw [List.take_succ_eq_append_getElem hk, List.foldl_append]; rfl
theorem feed_err {r : PRd} (he : r.err ≠ 0) : ∀ l : List UInt8, feedP r l = r
  | [] => rfl
  | c :: l => by
    show feedP (byteP r c) l = r
    have : byteP r c = r := by unfold byteP; rw [if_pos he]
    rw [this]; exact feed_err he l
theorem feed_stop (r : PRd) (l : List UInt8) (k : Nat) (he : (feedP r (l.take k)).err ≠ 0) : feedP r l = feedP r (l.take k) := by
  conv => lhs; rw [← List.take_append_drop k l]
  unfold feedP at he ⊢
  rw [List.foldl_append]
  exact feed_err he _
theorem inv0 : Inv 0 rd0 := ⟨Nat.zero_le _, fun x hx => (by cases hx), Nat.zero_le _, Nat.zero_le _, Nat.zero_le _, by show -70000 - ((0 : Nat) : Int) ≤ 0 ∧ (0 : Int) ≤ 70000; omega, by show (0 : Int) ≤ 0 ∧ (0 : Int) ≤ 6; omega⟩
end Go.Proofs.YtloippgblkoemaaGreatDoor.Rq

/- A logic of states: a literal that holds what the call owns. -/
namespace Go.Proofs.YtloippgblkoemaaGreatDoor.Sim
set_option linter.unusedVariables false
set_option linter.unusedSimpArgs false
open Go.RowKit Mem
/-- a literal's cells -/
def fillA (pl : Nat → Option (Nat × Nat)) : List A → List (Nat × A) → Option (List A)
  | zs, [] => some zs
  | zs, (i, t) :: r => match pl i with
    | some (off, sz) => bif t.okB && Nat.beq t.cells.length sz && Nat.ble (off + sz) zs.length then fillA pl (zs.take off ++ (t.cells ++ zs.drop (off + sz))) r else none
    | none => none
theorem fillA_ok {m : Mm} {g : Gh} {pl : Nat → Option (Nat × Nat)} : ∀ {parts : List (Nat × A)} {zs rs : List A} {cells : Array Value} {vals : List (Nat × Value)}, fillA pl zs parts = some rs → ACells m g zs cells.toList → parts.length = vals.length →
    (∀ (i : Nat) p q, parts[i]? = some p → vals[i]? = some q → q.1 = p.1 ∧ AR m g p.2 q.2) → ∃ cells', Instr.fill pl cells vals = some cells' ∧ ACells m g rs cells'.toList
  | [], zs, rs, cells, vals, h, hc, hl, _ => by
    have : vals = [] := List.eq_nil_of_length_eq_zero hl.symm
    subst this
    injection h with h; subst h
    exact ⟨cells, rfl, hc⟩
  | (i, t) :: r, zs, rs, cells, vals, h, hc, hl, hp => by
    obtain ⟨⟨i', v⟩, vals, rfl⟩ : ∃ q vs, vals = q :: vs := by cases vals with | nil => simp at hl | cons q vs => exact ⟨q, vs, rfl⟩
    obtain ⟨hi, hv⟩ := hp 0 _ _ rfl rfl
    dsimp only at hi hv
    subst hi
    unfold fillA at h
    cases hpl : pl i' with
    | none => rw [hpl] at h; cases h
    | some x =>
      obtain ⟨off, sz⟩ := x
      rw [hpl] at h
      dsimp only at h
      cases hb : (t.okB && Nat.beq t.cells.length sz && Nat.ble (off + sz) zs.length) with
      | false => rw [hb] at h; cases h
      | true =>
        rw [hb] at h
        simp only [Bool.and_eq_true] at hb
        obtain ⟨⟨hb1, hb2⟩, hb3⟩ := hb
        have hcv := acells_ok hv hb1
        have e1 : t.cells.length = sz := Nat.eq_of_beq_eq_true hb2
        have e2 : off + sz ≤ zs.length := Nat.le_of_ble_eq_true hb3
        have e3 : v.cells.size = sz := by have := hcv.1; simp at this; omega
        have e4 : off + sz ≤ cells.size := by have := hc.1; simp at this; omega
        have hset := fill_set off sz cells v.cells.toList (by simpa using e3) e4
        have hz : v.cells.zipIdx.foldl (fun cs (x : Value × Nat) => cs.setIfInBounds (off + x.2) x.1) cells = (v.cells.toList.zipIdx).foldl (fun cs (x : Value × Nat) => cs.setIfInBounds (off + x.2) x.1) cells := by
          rw [← Array.foldl_toList, Array.toList_zipIdx]
        have hnew : ACells m g (zs.take off ++ (t.cells ++ zs.drop (off + sz))) (v.cells.zipIdx.foldl (fun cs (x : Value × Nat) => cs.setIfInBounds (off + x.2) x.1) cells).toList := by
          rw [hz, hset]
          exact (hc.take off).app (hcv.app (hc.drop (off + sz)))
        obtain ⟨cells', h5, h6⟩ := fillA_ok (parts := r) h hnew (by simpa using hl) (fun j p q h1 h2 => hp (j + 1) p q (by simpa using h1) (by simpa using h2))
        refine ⟨cells', ?_, h6⟩
        unfold Instr.fill
        rw [hpl]
        dsimp only
        rw [if_neg (by simp; omega)]
        exact h5
theorem zero_acells (m : Mm) (g : Gh) {z : Value} (h : ∀ v ∈ z.cells.toList, v.oneCell' = true) : ACells m g (z.cells.toList.map fun v => A.t (.v v)) z.cells.toList := by
  refine ⟨by simp, fun j t v h1 h2 => ?_⟩
  rw [List.getElem?_map, h2] at h1
  simp at h1; subst h1
  exact ⟨TR.v _, h v (List.mem_of_getElem? h2)⟩
theorem ar_leaf {m : Mm} {g : Gh} {y : A} {u : Value} (h : AR m g y u) (hl : y.isLf = true) : AR0 m g y u := by
  cases y <;> first | exact h | cases hl
section
variable {P : Program} {bx : List (Nat × List A)} {ow : List (Nat × Own)} {o : Oper} {ρ : Operand → Option A} {r : A}
/-- a struct's literal of one part -/
theorem po_build_ag {t : TypeId} {i : Nat} {x : Operand} {y : A} {rs : List A} {pl : List (Nat × Nat)} {zs : List Value} (hS : strI P t = some (pl, zs)) (ho : o.op = .build t #[(i, x)]) (hx : ρ x = some y) (hb : fillA (fun i => pl[i]?) (zs.map fun v => .t (.v v)) [(i, y)] = some rs) (hlf : rs.all A.isLf = true) : PureOp P bx ow o ρ (.ag rs) := pure_run fun C m g w a he h => by
  have h1 := h x (by simp [ho, Op.operands]) _ hx
  unfold strI at hS
  split at hS
  · rename_i it fields hi hu
    split at hS
    · rename_i z places hz hpl
      cases hb2 : (z.cells.toList.all (·.oneCell')) with
      | false => rw [hb2] at hS; cases hS
      | true =>
        rw [hb2] at hS
        injection hS with hS
        injection hS with e1 e2
        subst e1 e2
        obtain ⟨cells, h3, h4⟩ := fillA_ok (m := m) (g := g) (vals := [(i, a.eval x)]) hb (zero_acells m g (List.all_eq_true.1 hb2)) rfl (fun j p q hj hq => by
          cases j with
          | zero => simp at hj hq; subst hj hq; exact ⟨rfl, h1⟩
          | succ j => simp at hj)
        have hbuilt : P.built t [(i, a.eval x)] = some cells := by
          unfold Program.built
          rw [hi, hu]
          dsimp only
          rw [hz, hpl]
          dsimp only
          have : (fun i : Nat => places[i]?) = (fun i : Nat => places.toArray[i]?) := by funext i; simp
          rw [← this]; exact h3
        have hrun := run_build (P := P) w t #[(i, a.eval x)] cells (by simpa using hbuilt)
        refine ⟨.agg cells, by simp [execOp, ho, hrun], cells, rfl, by have := h4.1; simpa using this, fun j y u hj hu => ?_⟩
        obtain ⟨h5, h6⟩ := h4.2 j y u hj (by simpa using hu)
        exact ⟨ar_leaf h5 ((List.all_eq_true.1 hlf) y (List.mem_of_getElem? hj)), h6⟩
    · cases hS
  · cases hS
end
/-- a scope through which the run goes without a jump -/
def nogF (Q : Exit → St → Prop) : Exit → St → Prop
  | .goto _, _ => False
  | e, st => Q e st
structure NoG (Q : Exit → St → Prop) (e : Exit) (st : St) : Prop where
  go : nogF Q e st
theorem swp_scope {P : Program} {N : Nat} {Q : Exit → St → Prop} {c : Code} {st : St} (h : SWp P N c (NoG Q) st) : SWp P N (.scope c) Q st := .mk fun C a w hr =>
  wp_scope_straight (Code.wp_mono (fun e a' w' ⟨st', hr', hq⟩ => by
    cases e with
    | goto l => exact absurd hq.go id
    | _ => exact ⟨st', hr', hq.go⟩) (h.go C a w hr))
theorem nog_r {Q : Exit → St → Prop} {st : St} (h : Q .ret st) : NoG Q .ret st := ⟨h⟩
end Go.Proofs.YtloippgblkoemaaGreatDoor.Sim

/- The reader of messages: bytes, walked. -/
namespace Go.Proofs.YtloippgblkoemaaGreatDoor.Rq
set_option linter.unusedVariables false
set_option linter.unusedSimpArgs false
open Go.RowKit Mem Sim Opn Hd Str
def FS (r : PRd) (l : List UInt8) (k : Nat) : St := ⟨[(6, .bp 12 0), (29, .t (.sl 1 (l.map byteT))), (30, .t (.v (.int .i64 ((l.map byteT).length : Int)))), (31, .t (.v (.int .i64 (k : Int)))), (4, .bp 4 0)], [(12, rdA (feedP r (l.take k))), (4, [.t (.v (.int .i64 0)), .t (.v (.slice none 0 0)), .t (.v (.string ⟨#[]⟩)), .t (.v (.slice none 0 0)), .t (.v (.slice none 0 0)), .t (.v (.int .i64 0)), .t (.v (.int .i64 0))])], rdO (feedP r (l.take k))⟩
def feedT (r : PRd) : T := .tup [.agg (parsC r), .sl 3 (r.out.map rawT)]
set_option maxRecDepth 100000 in
set_option maxHeartbeats 8000000 in
theorem feed_ {m : Nat} (r : PRd) (h0 : Inv m r) (hout : r.out = []) (l : List UInt8) (hl : m + l.length ≤ 500000) : PCalls Tryz.prog 19 [.agg (parsC r), .sl 1 (l.map byteT)] (feedT (feedP r l)) := by
  have hml : (l.map byteT).length = l.length := List.length_map _
  have co := own_ r (h0.ok (by omega))
  obtain ⟨hp1, hp2⟩ := h0.hp
  refine pcalls_of Tryz.func19 rfl rfl Tryz.ntmps19 rfl ?_
  repeat' (first | refine then_go ?_ | refine swp_seq ?_ | refine swp_scope ?_ | refine swp_label ?_ | refine nog_r ?_ | (refine rg 0 ?_; refine sbx ?_; refine sal str49 ?_; refine oAs ?_; refine oN ?_) | (refine rg 1 ?_; (refine sp (po_load_bx_agg rfl rfl (tyT rfl) rfl (vc (vc (vc (vc (vc (vc (vc .nil))))))) rfl) ?_); refine sops_lcall (co) (fun i => i) (fun i => i) (fun _ => false) (.free rfl rfl) rfl rfl rfl (by ((repeat' (first | exact .nil | refine .cons rfl rfl rfl ?_)) <;> fail)) .nil .nil rfl rfl (fun _ h => Bool.noConfusion h) ?_; refine sp (po_build_ag str80 rfl rfl rfl rfl) ?_; refine sbx ?_; refine oAs ?_; refine oN ?_) | (refine rg 2 ?_; refine oMv ?_; refine sp (po_nilcheck rfl rfl) ?_; refine oFb ?_; refine oFb ?_; refine oLb ?_; refine oCm ?_; refine oMv ?_; refine oMv ?_ <;> refine sp (po_nilcheck rfl rfl) ?_ <;> refine oFb ?_ <;> refine oFb ?_ <;> refine oLb ?_ <;> refine oCm ?_ <;> (first | refine oPt ?_ | refine oPf ?_) <;> refine oN ?_) | (refine rg 4 ?_; refine oMv ?_; (first | refine sp (po_len_own rfl rfl (tyS rfl)) ?_ | refine sp (pln rfl (tyS rfl)) ?_); refine oMv ?_; refine oN ?_) | refine swp_ret ?_ | refine swp_skip ?_ | refine swp_block ?_ | refine swp_exit ?_ | refine block_go ?_ | refine block_exit ?_ | refine block_far rfl ?_ | refine block_ret ?_ | refine then_ret ?_ | refine then_exit ?_ | refine for_ret ?_ | refine for_exit ?_ | refine ct ?_ | refine cf ?_ | refine swp_cond rfl (fun hc => ?_) (fun hc => ?_) | refine rq rfl (.cell rfl rfl (tyT rfl) (vc (vc (vc (vc (vc (vc (vc .nil))))))) rfl (rt .nil)) ?_)
  refine swp_weak (weak_own0_bx 25 3 (i := 12) (j := 7) (q := 1003) rfl rfl rfl) ?_
  have e0 : feedP r (l.take 0) = r := rfl
  refine swp_for (FS r l) (fun _ => True) l.length (weak_sub (.cons rfl (by first | rfl | ((first | (rw [e0]; unfold rdA; rw [hout]; rfl) | (rw [e0, hout]; rfl) | (show _ = Own.mk _ _ (List.map rawT (feedP r (l.take 0)).out); rw [e0, hout]; rfl)))) rfl (.cons rfl (by first | rfl | ((first | (rw [e0]; unfold rdA; rw [hout]; rfl) | (rw [e0, hout]; rfl) | (show _ = Own.mk _ _ (List.map rawT (feedP r (l.take 0)).out); rw [e0, hout]; rfl)))) rfl (.cons rfl (by first | rfl | ((first | (rw [e0]; unfold rdA; rw [hout]; rfl) | (rw [e0, hout]; rfl) | (show _ = Own.mk _ _ (List.map rawT (feedP r (l.take 0)).out); rw [e0, hout]; rfl)))) rfl (.cons rfl (by first | rfl | ((first | (rw [e0]; unfold rdA; rw [hout]; rfl) | (rw [e0, hout]; rfl) | (show _ = Own.mk _ _ (List.map rawT (feedP r (l.take 0)).out); rw [e0, hout]; rfl)))) rfl (.cons rfl (by first | rfl | ((first | (rw [e0]; unfold rdA; rw [hout]; rfl) | (rw [e0, hout]; rfl) | (show _ = Own.mk _ _ (List.map rawT (feedP r (l.take 0)).out); rw [e0, hout]; rfl)))) rfl .nil))))) (.cons rfl (by first | rfl | ((first | (rw [e0]; unfold rdA; rw [hout]; rfl) | (rw [e0, hout]; rfl) | (show _ = Own.mk _ _ (List.map rawT (feedP r (l.take 0)).out); rw [e0, hout]; rfl)))) rfl (.cons rfl (by first | rfl | ((first | (rw [e0]; unfold rdA; rw [hout]; rfl) | (rw [e0, hout]; rfl) | (show _ = Own.mk _ _ (List.map rawT (feedP r (l.take 0)).out); rw [e0, hout]; rfl)))) rfl .nil)) (.cons rfl (by first | rfl | ((first | (rw [e0]; unfold rdA; rw [hout]; rfl) | (rw [e0, hout]; rfl) | (show _ = Own.mk _ _ (List.map rawT (feedP r (l.take 0)).out); rw [e0, hout]; rfl)))) (.cons rfl (by first | rfl | ((first | (rw [e0]; unfold rdA; rw [hout]; rfl) | (rw [e0, hout]; rfl) | (show _ = Own.mk _ _ (List.map rawT (feedP r (l.take 0)).out); rw [e0, hout]; rfl)))) (.cons rfl (by first | rfl | ((first | (rw [e0]; unfold rdA; rw [hout]; rfl) | (rw [e0, hout]; rfl) | (show _ = Own.mk _ _ (List.map rawT (feedP r (l.take 0)).out); rw [e0, hout]; rfl)))) .nil)))) trivial ?_
  intro k hk _
  have hI := h0.feed l hl k hk
  unfold FS
  by_cases hlt : k < l.length
  · have hsn := feed_snoc r l hlt
    have hst := feed_stop r l k
    have hmk : (l.map byteT)[k]? = some (byteT l[k]) := map_at hlt
    generalize feedP r (l.take k) = q at *
    generalize l[k] = c at hsn hmk
    have hok := hI.ok (by omega)
    have hf := hI.hf
    have hp := hI.hp
    by_cases he : q.err = 0
    · have e1 : (!decide (q.err = 0)) = false := by rw [decide_eq_true he]; rfl
      by_cases hph : q.phase ≠ 2 ∧ q.phase ≠ 4
      · have hb : byteP q c = takeP q c := by unfold byteP; rw [if_neg (by simp [he]), if_pos hph]
        rw [hb] at hsn
        obtain ⟨hph2, hph4⟩ := hph
        have e2 : (!decide (q.phase = 2)) = true := by rw [decide_eq_false hph2]; rfl
        have e4 : (!decide (q.phase = 4)) = true := by rw [decide_eq_false hph4]; rfl
        have c9 := take_ q (by unfold LineP; omega) hok c
        repeat' (first | refine for_next hlt (weak_sub (.cons rfl (by rfl) rfl (.cons rfl (by rfl) rfl (.cons rfl (by rfl) rfl (.cons rfl (by rfl) rfl (.cons rfl (by rfl) rfl .nil))))) (.cons rfl (by first | rfl | ((rw [hsn]; try rfl))) rfl (.cons rfl (by rfl) rfl .nil)) (.cons rfl (by first | rfl | ((rw [hsn]; try rfl))) (.cons rfl (by first | rfl | ((rw [hsn]; try rfl))) (.cons rfl (by first | rfl | ((rw [hsn]; try rfl))) .nil)))) trivial | (refine rg 5 ?_; refine oCm ?_; refine oN ?_) | (refine rg 6 ?_; (first | refine sp (ixo rfl) ?_ | refine sp (pix rfl (tyS rfl)) ?_); (first | refine oLb ?_ | refine oLd ?_); refine oAs ?_; refine oN ?_) | (refine rg 7 ?_; refine oMv ?_; refine sp (po_nilcheck rfl rfl) ?_; refine oFb ?_; refine oFb ?_; refine oLb ?_; refine oCm ?_; refine oAs ?_; refine oN ?_) | (refine rg 8 ?_; refine oMv ?_; refine sp (po_nilcheck rfl rfl) ?_; refine oFb ?_; refine oFb ?_; refine oLb ?_; refine oCm ?_; refine oMv ?_; refine oMv ?_ <;> refine sp (po_nilcheck rfl rfl) ?_ <;> refine oFb ?_ <;> refine oFb ?_ <;> refine oLb ?_ <;> refine oCm ?_ <;> refine oPt ?_ <;> refine oAs ?_ <;> refine oN ?_) | (refine rg 9 ?_; refine oMv ?_; refine oMv ?_; refine sops_lcall (c9) (fun i => bif Nat.beq i 2000 then 12 else i) (fun i => i) (fun _ => false) (.free rfl rfl) rfl rfl rfl (by ((repeat' (first | exact .nil | refine .cons rfl rfl rfl ?_)) <;> fail)) (.cons rfl rfl .nil) (.cons rfl rfl (.cons rfl rfl (.cons rfl rfl .nil))) rfl rfl (fun _ h => Bool.noConfusion h) ?_; refine oN ?_) | (refine rg 16 ?_; refine sp (xinc rfl) ?_; refine oMv ?_; refine oN ?_) | refine gc ?_ | refine ct ?_ | refine cf ?_)
      · have hb : byteP q c = bodyByte q c := by unfold byteP; rw [if_neg (by simp [he]), if_neg hph]
        rw [hb, bodyByte_eq] at hsn
        have hmq : (q.raw.body.map byteT).length = q.raw.body.length := List.length_map _
        have hbb := hok.hb
        have hbd : ((q.raw.body.map byteT).length + 1) * 1 ≤ 140737488355328 := by omega
        have hbm : (q.raw.body.map byteT).length + 1 ≤ maxLen := by unfold maxLen; omega
        have hA : rdA (bodyR q c) = [.t (.v (.int .i64 q.phase)), .own 1001 (q.line.map byteT).length, .t (.v (.string q.raw.start)), .t (headsT q.raw.heads), .own 1002 (q.raw.body.map byteT ++ [byteT c]).length, .t (.v (.int .i64 (q.left - 1))), .t (.v (.int .i64 q.err)), .own 1003 (q.out.map rawT).length] := by
          unfold rdA bodyR; rw [List.map_append]; rfl
        have hO : rdO (bodyR q c) = [(1001, ⟨5, 1, q.line.map byteT⟩), (1002, ⟨5, 1, q.raw.body.map byteT ++ [byteT c]⟩), (1003, ⟨25, 3, q.out.map rawT⟩)] := by
          unfold rdO bodyR; rw [List.map_append]; rfl
        have hA5 : rdA { bodyR q c with phase := 5, left := 0 } = [.t (.v (.int .i64 5)), .own 1001 (q.line.map byteT).length, .t (.v (.string q.raw.start)), .t (headsT q.raw.heads), .own 1002 (q.raw.body.map byteT ++ [byteT c]).length, .t (.v (.int .i64 0)), .t (.v (.int .i64 q.err)), .own 1003 (q.out.map rawT).length] := by
          unfold rdA bodyR; rw [List.map_append]; rfl
        have hO5 : rdO { bodyR q c with phase := 5, left := 0 } = [(1001, ⟨5, 1, q.line.map byteT⟩), (1002, ⟨5, 1, q.raw.body.map byteT ++ [byteT c]⟩), (1003, ⟨25, 3, q.out.map rawT⟩)] := by
          unfold rdO bodyR; rw [List.map_append]; rfl
        have hB : (bodyR q c).raw.body.map byteT = q.raw.body.map byteT ++ [byteT c] := by unfold bodyR; rw [List.map_append]; rfl
        have c15 := whole_ (bodyR q c) hok.ho
        rw [hA, hO] at c15
        have hl1 : (bodyR q c).left = q.left - 1 := rfl
        have hl2 : (bodyR q c).phase = q.phase := rfl
        rw [hl1, hl2] at hsn
        have hph' : (q.phase = 2 ∧ (!decide (q.phase = 2)) = false) ∨ (q.phase = 4 ∧ q.phase ≠ 2 ∧ (!decide (q.phase = 2)) = true ∧ (!decide (q.phase = 4)) = false) := by
          by_cases h2 : q.phase = 2
          · exact .inl ⟨h2, by rw [decide_eq_true h2]; rfl⟩
          · have h4 : q.phase = 4 := by omega
            exact .inr ⟨h4, h2, by rw [decide_eq_false h2]; rfl, by rw [decide_eq_true h4]; rfl⟩
        by_cases hleft : 0 < q.left - 1
        · rw [if_pos hleft] at hsn
          rcases hph' with ⟨h2, e2⟩ | ⟨h4, h2, e2, e4⟩
          · repeat' (first | refine for_next hlt (weak_sub (.cons rfl (by rfl) rfl (.cons rfl (by rfl) rfl (.cons rfl (by rfl) rfl (.cons rfl (by rfl) rfl (.cons rfl (by rfl) rfl .nil))))) (.cons rfl (by first | rfl | ((rw [hsn]; first | rfl | exact hA.symm))) rfl (.cons rfl (by rfl) rfl .nil)) (.cons rfl (by first | rfl | ((rw [hsn]; rfl))) (.cons rfl (by first | rfl | ((rw [hsn]; first | rfl | exact hA.symm | exact hA | exact congrArg (fun x => Own.mk _ _ x) hB.symm))) (.cons rfl (by first | rfl | ((rw [hsn]; rfl))) .nil)))) trivial | (refine rg 5 ?_; refine oCm ?_; refine oN ?_) | (refine rg 6 ?_; (first | refine sp (ixo rfl) ?_ | refine sp (pix rfl (tyS rfl)) ?_); (first | refine oLb ?_ | refine oLd ?_); refine oAs ?_; refine oN ?_) | (refine rg 7 ?_; refine oMv ?_; refine sp (po_nilcheck rfl rfl) ?_; refine oFb ?_; refine oFb ?_; refine oLb ?_; refine oCm ?_; refine oAs ?_; refine oN ?_) | (refine rg 8 ?_; refine oMv ?_; refine sp (po_nilcheck rfl rfl) ?_; refine oFb ?_; refine oFb ?_; refine oLb ?_; refine oCm ?_; refine oMv ?_; (first | refine oMv ?_ | refine oK ?_) <;> (first | refine sp (po_nilcheck rfl rfl) ?_ | refine oK ?_) <;> (first | refine oFb ?_ | refine oFd ?_ | refine sp (fdo rfl) ?_ | refine oK ?_) <;> (first | refine oFb ?_ | refine oFd ?_ | refine sp (fdo rfl) ?_ | refine oK ?_) <;> (first | refine oLb ?_ | refine oLd ?_ | refine sp (ldo rfl) ?_ | refine oK ?_) <;> (first | refine oCm ?_ | refine oK ?_) <;> (first | refine oPt ?_ | refine oPf ?_) <;> refine oAs ?_ <;> refine oN ?_) | (refine rg 10 ?_; refine oMv ?_; refine oMv ?_; refine sp (po_nilcheck rfl rfl) ?_; refine oFb ?_; refine oFb ?_; refine oFb ?_; refine oLb ?_; refine oMv ?_; refine sp (po_buildSlice rfl (tyE rfl) (dc (.nil _)) rfl rfl rfl) ?_; refine sap rfl (tyE rfl) ?_; refine sp (po_nilcheck rfl rfl) ?_; refine oFb ?_; refine oFb ?_; refine oFb ?_; refine oS ?_; refine oN ?_) | (refine rg 11 ?_; refine oMv ?_; refine sp (po_nilcheck rfl rfl) ?_; refine oFb ?_; refine oFb ?_; refine oLb ?_; (first | refine sp (po_dec rfl rfl rfl (by omega)) ?_ | refine sp (po_arith rfl rfl rfl (ar_sub (by first | rfl | (refine wrap_i64 ?_; omega)) rfl)) ?_); refine sp (po_nilcheck rfl rfl) ?_; refine oFb ?_; refine oFb ?_; refine oS ?_; refine oN ?_) | (refine rg 13 ?_; refine oMv ?_; refine sp (po_nilcheck rfl rfl) ?_; refine oFb ?_; refine oFb ?_; refine oLb ?_; refine oCm ?_; refine oAs ?_; refine oN ?_) | (refine rg 16 ?_; refine sp (xinc rfl) ?_; refine oMv ?_; refine oN ?_) | refine gc ?_ | refine ct ?_ | refine cf ?_)
          · repeat' (first | refine for_next hlt (weak_sub (.cons rfl (by rfl) rfl (.cons rfl (by rfl) rfl (.cons rfl (by rfl) rfl (.cons rfl (by rfl) rfl (.cons rfl (by rfl) rfl .nil))))) (.cons rfl (by first | rfl | ((rw [hsn]; first | rfl | exact hA.symm))) rfl (.cons rfl (by rfl) rfl .nil)) (.cons rfl (by first | rfl | ((rw [hsn]; rfl))) (.cons rfl (by first | rfl | ((rw [hsn]; first | rfl | exact hA.symm | exact hA | exact congrArg (fun x => Own.mk _ _ x) hB.symm))) (.cons rfl (by first | rfl | ((rw [hsn]; rfl))) .nil)))) trivial | (refine rg 5 ?_; refine oCm ?_; refine oN ?_) | (refine rg 6 ?_; (first | refine sp (ixo rfl) ?_ | refine sp (pix rfl (tyS rfl)) ?_); (first | refine oLb ?_ | refine oLd ?_); refine oAs ?_; refine oN ?_) | (refine rg 7 ?_; refine oMv ?_; refine sp (po_nilcheck rfl rfl) ?_; refine oFb ?_; refine oFb ?_; refine oLb ?_; refine oCm ?_; refine oAs ?_; refine oN ?_) | (refine rg 8 ?_; refine oMv ?_; refine sp (po_nilcheck rfl rfl) ?_; refine oFb ?_; refine oFb ?_; refine oLb ?_; refine oCm ?_; refine oMv ?_; refine oMv ?_ <;> refine sp (po_nilcheck rfl rfl) ?_ <;> refine oFb ?_ <;> refine oFb ?_ <;> refine oLb ?_ <;> refine oCm ?_ <;> refine oPt ?_ <;> refine oAs ?_ <;> refine oN ?_) | (refine rg 10 ?_; refine oMv ?_; refine oMv ?_; refine sp (po_nilcheck rfl rfl) ?_; refine oFb ?_; refine oFb ?_; refine oFb ?_; refine oLb ?_; refine oMv ?_; refine sp (po_buildSlice rfl (tyE rfl) (dc (.nil _)) rfl rfl rfl) ?_; refine sap rfl (tyE rfl) ?_; refine sp (po_nilcheck rfl rfl) ?_; refine oFb ?_; refine oFb ?_; refine oFb ?_; refine oS ?_; refine oN ?_) | (refine rg 11 ?_; refine oMv ?_; refine sp (po_nilcheck rfl rfl) ?_; refine oFb ?_; refine oFb ?_; refine oLb ?_; (first | refine sp (po_dec rfl rfl rfl (by omega)) ?_ | refine sp (po_arith rfl rfl rfl (ar_sub (by first | rfl | (refine wrap_i64 ?_; omega)) rfl)) ?_); refine sp (po_nilcheck rfl rfl) ?_; refine oFb ?_; refine oFb ?_; refine oS ?_; refine oN ?_) | (refine rg 13 ?_; refine oMv ?_; refine sp (po_nilcheck rfl rfl) ?_; refine oFb ?_; refine oFb ?_; refine oLb ?_; refine oCm ?_; refine oAs ?_; refine oN ?_) | (refine rg 16 ?_; refine sp (xinc rfl) ?_; refine oMv ?_; refine oN ?_) | refine gc ?_ | refine ct ?_ | refine cf ?_)
        · rw [if_neg hleft] at hsn
          rcases hph' with ⟨h2, e2⟩ | ⟨h4, h2, e2, e4⟩
          · rw [if_pos h2] at hsn
            repeat' (first | refine for_next hlt (weak_sub (.cons rfl (by rfl) rfl (.cons rfl (by rfl) rfl (.cons rfl (by rfl) rfl (.cons rfl (by rfl) rfl (.cons rfl (by rfl) rfl .nil))))) (.cons rfl (by first | rfl | ((rw [hsn]; try rfl))) rfl (.cons rfl (by rfl) rfl .nil)) (.cons rfl (by first | rfl | ((rw [hsn]; try rfl))) (.cons rfl (by first | rfl | ((rw [hsn]; try rfl))) (.cons rfl (by first | rfl | ((rw [hsn]; try rfl))) .nil)))) trivial | (refine rg 5 ?_; refine oCm ?_; refine oN ?_) | (refine rg 6 ?_; (first | refine sp (ixo rfl) ?_ | refine sp (pix rfl (tyS rfl)) ?_); (first | refine oLb ?_ | refine oLd ?_); refine oAs ?_; refine oN ?_) | (refine rg 7 ?_; refine oMv ?_; refine sp (po_nilcheck rfl rfl) ?_; refine oFb ?_; refine oFb ?_; refine oLb ?_; refine oCm ?_; refine oAs ?_; refine oN ?_) | (refine rg 8 ?_; refine oMv ?_; refine sp (po_nilcheck rfl rfl) ?_; refine oFb ?_; refine oFb ?_; refine oLb ?_; refine oCm ?_; refine oMv ?_; (first | refine oMv ?_ | refine oK ?_) <;> (first | refine sp (po_nilcheck rfl rfl) ?_ | refine oK ?_) <;> (first | refine oFb ?_ | refine oFd ?_ | refine sp (fdo rfl) ?_ | refine oK ?_) <;> (first | refine oFb ?_ | refine oFd ?_ | refine sp (fdo rfl) ?_ | refine oK ?_) <;> (first | refine oLb ?_ | refine oLd ?_ | refine sp (ldo rfl) ?_ | refine oK ?_) <;> (first | refine oCm ?_ | refine oK ?_) <;> (first | refine oPt ?_ | refine oPf ?_) <;> refine oAs ?_ <;> refine oN ?_) | (refine rg 10 ?_; refine oMv ?_; refine oMv ?_; refine sp (po_nilcheck rfl rfl) ?_; refine oFb ?_; refine oFb ?_; refine oFb ?_; refine oLb ?_; refine oMv ?_; refine sp (po_buildSlice rfl (tyE rfl) (dc (.nil _)) rfl rfl rfl) ?_; refine sap rfl (tyE rfl) ?_; refine sp (po_nilcheck rfl rfl) ?_; refine oFb ?_; refine oFb ?_; refine oFb ?_; refine oS ?_; refine oN ?_) | (refine rg 11 ?_; refine oMv ?_; refine sp (po_nilcheck rfl rfl) ?_; refine oFb ?_; refine oFb ?_; refine oLb ?_; (first | refine sp (po_dec rfl rfl rfl (by omega)) ?_ | refine sp (po_arith rfl rfl rfl (ar_sub (by first | rfl | (refine wrap_i64 ?_; omega)) rfl)) ?_); refine sp (po_nilcheck rfl rfl) ?_; refine oFb ?_; refine oFb ?_; refine oS ?_; refine oN ?_) | (refine rg 13 ?_; refine oMv ?_; refine sp (po_nilcheck rfl rfl) ?_; refine oFb ?_; refine oFb ?_; refine oLb ?_; refine oCm ?_; refine oAs ?_; refine oN ?_) | (refine rg 14 ?_; refine oMv ?_; refine sp (po_nilcheck rfl rfl) ?_; refine oFb ?_; refine oFb ?_; refine oLb ?_; refine oCm ?_; refine oAs ?_; refine oN ?_) | (refine rg 15 ?_; refine oMv ?_; refine sops_lcall (c15) (fun i => bif Nat.beq i 2000 then 12 else i) (fun i => i) (fun _ => false) (.free rfl rfl) rfl rfl rfl (by ((repeat' (first | exact .nil | refine .cons rfl rfl rfl ?_)) <;> fail)) (.cons rfl rfl .nil) (.cons rfl rfl (.cons rfl rfl (.cons rfl rfl .nil))) rfl rfl (fun _ h => Bool.noConfusion h) ?_; refine oN ?_) | (refine rg 16 ?_; refine sp (xinc rfl) ?_; refine oMv ?_; refine oN ?_) | refine gc ?_ | refine ct ?_ | refine cf ?_)
          · rw [if_neg h2] at hsn
            repeat' (first | refine for_next hlt (weak_sub (.cons rfl (by rfl) rfl (.cons rfl (by rfl) rfl (.cons rfl (by rfl) rfl (.cons rfl (by rfl) rfl (.cons rfl (by rfl) rfl .nil))))) (.cons rfl (by first | rfl | ((rw [hsn]; first | rfl | exact hA5.symm))) rfl (.cons rfl (by rfl) rfl .nil)) (.cons rfl (by first | rfl | ((rw [hsn]; rfl))) (.cons rfl (by first | rfl | ((rw [hsn]; first | rfl | exact hA5.symm | exact hA5 | exact congrArg (fun x => Own.mk _ _ x) hB.symm))) (.cons rfl (by first | rfl | ((rw [hsn]; rfl))) .nil)))) trivial | (refine rg 5 ?_; refine oCm ?_; refine oN ?_) | (refine rg 6 ?_; (first | refine sp (ixo rfl) ?_ | refine sp (pix rfl (tyS rfl)) ?_); (first | refine oLb ?_ | refine oLd ?_); refine oAs ?_; refine oN ?_) | (refine rg 7 ?_; refine oMv ?_; refine sp (po_nilcheck rfl rfl) ?_; refine oFb ?_; refine oFb ?_; refine oLb ?_; refine oCm ?_; refine oAs ?_; refine oN ?_) | (refine rg 8 ?_; refine oMv ?_; refine sp (po_nilcheck rfl rfl) ?_; refine oFb ?_; refine oFb ?_; refine oLb ?_; refine oCm ?_; refine oMv ?_; refine oMv ?_ <;> refine sp (po_nilcheck rfl rfl) ?_ <;> refine oFb ?_ <;> refine oFb ?_ <;> refine oLb ?_ <;> refine oCm ?_ <;> refine oPt ?_ <;> refine oAs ?_ <;> refine oN ?_) | (refine rg 10 ?_; refine oMv ?_; refine oMv ?_; refine sp (po_nilcheck rfl rfl) ?_; refine oFb ?_; refine oFb ?_; refine oFb ?_; refine oLb ?_; refine oMv ?_; refine sp (po_buildSlice rfl (tyE rfl) (dc (.nil _)) rfl rfl rfl) ?_; refine sap rfl (tyE rfl) ?_; refine sp (po_nilcheck rfl rfl) ?_; refine oFb ?_; refine oFb ?_; refine oFb ?_; refine oS ?_; refine oN ?_) | (refine rg 11 ?_; refine oMv ?_; refine sp (po_nilcheck rfl rfl) ?_; refine oFb ?_; refine oFb ?_; refine oLb ?_; (first | refine sp (po_dec rfl rfl rfl (by omega)) ?_ | refine sp (po_arith rfl rfl rfl (ar_sub (by first | rfl | (refine wrap_i64 ?_; omega)) rfl)) ?_); refine sp (po_nilcheck rfl rfl) ?_; refine oFb ?_; refine oFb ?_; refine oS ?_; refine oN ?_) | (refine rg 13 ?_; refine oMv ?_; refine sp (po_nilcheck rfl rfl) ?_; refine oFb ?_; refine oFb ?_; refine oLb ?_; refine oCm ?_; refine oAs ?_; refine oN ?_) | (refine rg 14 ?_; refine oMv ?_; refine sp (po_nilcheck rfl rfl) ?_; refine oFb ?_; refine oFb ?_; refine oLb ?_; refine oCm ?_; refine oAs ?_; refine oN ?_) | (refine rg 12 ?_; refine oMv ?_; refine oMv ?_; refine sp (po_nilcheck rfl rfl) ?_; refine oFb ?_; refine oFb ?_; refine oS ?_; refine sp (po_nilcheck rfl rfl) ?_; refine oFb ?_; refine oFb ?_; refine oS ?_; refine oN ?_) | (refine rg 16 ?_; refine sp (xinc rfl) ?_; refine oMv ?_; refine oN ?_) | refine gc ?_ | refine ct ?_ | refine cf ?_)
    · have e1 : (!decide (q.err = 0)) = true := by rw [decide_eq_false he]; rfl
      rw [hst he]
      repeat' (first | (refine rg 5 ?_; refine oCm ?_; refine oN ?_) | (refine rg 6 ?_; (first | refine sp (ixo rfl) ?_ | refine sp (pix rfl (tyS rfl)) ?_); (first | refine oLb ?_ | refine oLd ?_); refine oAs ?_; refine oN ?_) | (refine rg 7 ?_; refine oMv ?_; refine sp (po_nilcheck rfl rfl) ?_; refine oFb ?_; refine oFb ?_; refine oLb ?_; refine oCm ?_; refine oAs ?_; refine oN ?_) | refine gc ?_ | refine ct ?_ | refine cf ?_ | refine swp_cond rfl (fun hc => ?_) (fun hc => ?_) | refine rq rfl (.cell rfl rfl (tyT rfl) (vc (vc (vc (vc (vc (vc (vc .nil))))))) rfl (rt .nil)) ?_)
      refine swp_weak (st' := ⟨[(4, .bp 4 0), (6, .bp 12 0)], [(12, rdA q), (4, [.t (.v (.int .i64 0)), .t (.v (.slice none 0 0)), .t (.v (.string ⟨#[]⟩)), .t (.v (.slice none 0 0)), .t (.v (.slice none 0 0)), .t (.v (.int .i64 0)), .t (.v (.int .i64 0))])], rdO q⟩) (weak_sub (.cons rfl rfl rfl (.cons rfl rfl rfl .nil)) (.cons rfl rfl rfl (.cons rfl rfl rfl .nil)) (.cons rfl rfl (.cons rfl rfl (.cons rfl rfl .nil)))) ?_
      refine swp_weak (weak_ren 1001 1 rfl rfl rfl rfl rfl rfl rfl) ?_
      refine swp_weak (weak_ren 1002 2 rfl rfl rfl rfl rfl rfl rfl) ?_
      refine swp_weak (weak_ren 1003 3 rfl rfl rfl rfl rfl rfl rfl) ?_
      repeat' (first | refine gc ?_ | refine nog_r ?_ | ((refine swp_any (id := 17) [[], [], [], [], [], [], [], [], [4], []] [[], [], [], [], [4], [4], [4], [4], [], []] mixed (by kernel_rfl) ?_) <;> refine yp (fun _ _ => po_move rfl rfl) ?_ <;> refine yp (fun _ _ => po_nilcheck rfl rfl) ?_ <;> refine yp (fun _ _ => po_field_bx rfl rfl (tyF rfl)) ?_ <;> (refine yp (fun _ _ => po_load_bx_agg rfl rfl (tyT rfl) rfl (vc (vc (vc (vc (vc (vc (vc .nil))))))) rfl) ?_) <;> refine yp (fun _ _ => po_move rfl rfl) ?_ <;> refine yp (fun _ _ => po_nilcheck rfl rfl) ?_ <;> refine yp (fun _ _ => po_field_bx rfl rfl (tyF rfl)) ?_ <;> refine yp (fun _ _ => po_load_bx rfl rfl (tyT rfl) rfl rfl) ?_ <;> refine sany_eff [(4, _)] [] (.free rfl rfl) rfl rfl (fun _ _ _ _ => e_store rfl rfl rfl rfl rfl rfl (tyT rfl) rfl rfl) ?_ <;> refine yp (fun _ _ => po_assign rfl rfl) ?_ <;> refine sany_nil ?_) | refine ct ?_ | refine cf ?_ | refine swp_cond rfl (fun hc => ?_) (fun hc => ?_) | refine rq rfl (.cell rfl rfl (tyT rfl) (vc (vc (vc (vc (vc (vc (vc .nil))))))) rfl (rt .nil)) ?_)
      rfl
  · obtain rfl : k = l.length := by omega
    rw [List.take_length]
    generalize feedP r l = q at *
    repeat' (first | (refine rg 5 ?_; refine oCm ?_; refine oN ?_) | refine gc ?_ | refine ct ?_ | refine cf ?_ | refine swp_cond rfl (fun hc => ?_) (fun hc => ?_) | refine rq rfl (.cell rfl rfl (tyT rfl) (vc (vc (vc (vc (vc (vc (vc .nil))))))) rfl (rt .nil)) ?_)
    refine swp_weak (st' := ⟨[(4, .bp 4 0), (6, .bp 12 0)], [(12, rdA q), (4, [.t (.v (.int .i64 0)), .t (.v (.slice none 0 0)), .t (.v (.string ⟨#[]⟩)), .t (.v (.slice none 0 0)), .t (.v (.slice none 0 0)), .t (.v (.int .i64 0)), .t (.v (.int .i64 0))])], rdO q⟩) (weak_sub (.cons rfl rfl rfl (.cons rfl rfl rfl .nil)) (.cons rfl rfl rfl (.cons rfl rfl rfl .nil)) (.cons rfl rfl (.cons rfl rfl (.cons rfl rfl .nil)))) ?_
    refine swp_weak (weak_ren 1001 1 rfl rfl rfl rfl rfl rfl rfl) ?_
    refine swp_weak (weak_ren 1002 2 rfl rfl rfl rfl rfl rfl rfl) ?_
    refine swp_weak (weak_ren 1003 3 rfl rfl rfl rfl rfl rfl rfl) ?_
    repeat' (first | refine gc ?_ | refine nog_r ?_ | ((refine swp_any (id := 17) [[], [], [], [], [], [], [], [], [4], []] [[], [], [], [], [4], [4], [4], [4], [], []] mixed (by kernel_rfl) ?_) <;> refine yp (fun _ _ => po_move rfl rfl) ?_ <;> refine yp (fun _ _ => po_nilcheck rfl rfl) ?_ <;> refine yp (fun _ _ => po_field_bx rfl rfl (tyF rfl)) ?_ <;> (refine yp (fun _ _ => po_load_bx_agg rfl rfl (tyT rfl) rfl (vc (vc (vc (vc (vc (vc (vc .nil))))))) rfl) ?_) <;> refine yp (fun _ _ => po_move rfl rfl) ?_ <;> refine yp (fun _ _ => po_nilcheck rfl rfl) ?_ <;> refine yp (fun _ _ => po_field_bx rfl rfl (tyF rfl)) ?_ <;> refine yp (fun _ _ => po_load_bx rfl rfl (tyT rfl) rfl rfl) ?_ <;> refine sany_eff [(4, _)] [] (.free rfl rfl) rfl rfl (fun _ _ _ _ => e_store rfl rfl rfl rfl rfl rfl (tyT rfl) rfl rfl) ?_ <;> refine yp (fun _ _ => po_assign rfl rfl) ?_ <;> refine sany_nil ?_) | refine ct ?_ | refine cf ?_ | refine swp_cond rfl (fun hc => ?_) (fun hc => ?_) | refine rq rfl (.cell rfl rfl (tyT rfl) (vc (vc (vc (vc (vc (vc (vc .nil))))))) rfl (rt .nil)) ?_)
    rfl
end Go.Proofs.YtloippgblkoemaaGreatDoor.Rq

/- The reader of messages: all that bytes are, walked. -/
namespace Go.Proofs.YtloippgblkoemaaGreatDoor.Rq
set_option linter.unusedVariables false
set_option linter.unusedSimpArgs false
open Go.RowKit Mem Sim Opn Hd Str
/-- the messages that bytes are, or the fault -/
def rawsL (l : List UInt8) : List PRaw × Int := if (feedP rd0 l).err ≠ 0 then ([], (feedP rd0 l).err) else if idleP (feedP rd0 l) then ((feedP rd0 l).out, 0) else ([], 2)
def rawsT (x : List PRaw × Int) : T := if x.2 = 0 then .tup [.sl 3 (x.1.map rawT), .v (.int .i64 x.2)] else .tup [.v (.slice none 0 0), .v (.int .i64 x.2)]
theorem inv_all (l : List UInt8) (hl : l.length ≤ 500000) : Inv l.length (feedP rd0 l) := by
  have := inv0.feed l (by omega) l.length (Nat.le_refl _)
  rwa [List.take_length, Nat.zero_add] at this
set_option maxRecDepth 100000 in
set_option maxHeartbeats 2000000 in
theorem raws_ (l : List UInt8) (hl : l.length ≤ 500000) : PCalls Tryz.prog 34 [.sl 1 (l.map byteT)] (rawsT (rawsL l)) := by
  have hI := inv_all l hl
  have c0 := new_
  have c1 := feed_ rd0 inv0 rfl l (by omega)
  unfold feedT at c1
  have c2 := idle_ (feedP rd0 l) (by have := hI.hl; omega)
  unfold rawsL
  generalize feedP rd0 l = q at *
  refine pcalls_of Tryz.func34 rfl rfl Tryz.ntmps34 rfl ?_
  by_cases he : q.err = 0
  · rw [if_neg (by simp [he])]
    have e1 : (!decide (q.err = 0)) = false := by rw [decide_eq_true he]; rfl
    cases hi : idleP q with
    | true =>
      rw [hi] at c2
      rw [if_pos rfl]
      repeat' (first | (refine rg 0 ?_; refine oAs ?_; refine oAs ?_; refine oN ?_) | (refine rg 1 ?_; refine oC (c0) rfl .nil ?_; refine oMv ?_; (first | refine oC (c0) rfl (ac (ac .nil)) ?_ | refine oC (c1) rfl (ac (ac .nil)) ?_); refine oMv ?_; refine oEx ?_; refine oEx ?_; refine sal str49 ?_; refine oS ?_; refine oAs ?_; refine oN ?_) | (refine rg 2 ?_; refine oFb ?_; refine oLb ?_; refine oCm ?_; refine oAs ?_; refine oN ?_) | (refine rg 4 ?_; (refine sp (po_load_bx_agg rfl rfl (tyT rfl) rfl (vc (vc (vc (vc (vc (vc (vc .nil))))))) rfl) ?_); (first | refine oC (c0) rfl (ac .nil) ?_ | refine oC (c1) rfl (ac .nil) ?_ | refine oC (c2) rfl (ac .nil) ?_); refine sp (po_not rfl rfl) ?_; refine oAs ?_; refine oN ?_) | (refine rg 6 ?_; refine oMv ?_; refine oAs ?_; refine oAs ?_; refine oN ?_) | refine gc ?_ | refine ct ?_ | refine cf ?_ | refine swp_cond rfl (fun hc => ?_) (fun hc => ?_) | refine rq rfl (rt (rt .nil)) ?_)
      rfl
    | false =>
      rw [hi] at c2
      rw [if_neg (by simp)]
      repeat' (first | (refine rg 0 ?_; refine oAs ?_; refine oAs ?_; refine oN ?_) | (refine rg 1 ?_; refine oC (c0) rfl .nil ?_; refine oMv ?_; (first | refine oC (c0) rfl (ac (ac .nil)) ?_ | refine oC (c1) rfl (ac (ac .nil)) ?_); refine oMv ?_; refine oEx ?_; refine oEx ?_; refine sal str49 ?_; refine oS ?_; refine oAs ?_; refine oN ?_) | (refine rg 2 ?_; refine oFb ?_; refine oLb ?_; refine oCm ?_; refine oAs ?_; refine oN ?_) | (refine rg 4 ?_; (refine sp (po_load_bx_agg rfl rfl (tyT rfl) rfl (vc (vc (vc (vc (vc (vc (vc .nil))))))) rfl) ?_); (first | refine oC (c0) rfl (ac .nil) ?_ | refine oC (c1) rfl (ac .nil) ?_ | refine oC (c2) rfl (ac .nil) ?_); refine sp (po_not rfl rfl) ?_; refine oAs ?_; refine oN ?_) | (refine rg 5 ?_; refine oAs ?_; refine oAs ?_; refine oN ?_) | refine gc ?_ | refine ct ?_ | refine cf ?_ | refine swp_cond rfl (fun hc => ?_) (fun hc => ?_) | refine rq rfl (rt (rt .nil)) ?_)
      rfl
  · rw [if_pos he]
    have e1 : (!decide (q.err = 0)) = true := by rw [decide_eq_false he]; rfl
    repeat' (first | (refine rg 0 ?_; refine oAs ?_; refine oAs ?_; refine oN ?_) | (refine rg 1 ?_; refine oC (c0) rfl .nil ?_; refine oMv ?_; (first | refine oC (c0) rfl (ac (ac .nil)) ?_ | refine oC (c1) rfl (ac (ac .nil)) ?_); refine oMv ?_; refine oEx ?_; refine oEx ?_; refine sal str49 ?_; refine oS ?_; refine oAs ?_; refine oN ?_) | (refine rg 2 ?_; refine oFb ?_; refine oLb ?_; refine oCm ?_; refine oAs ?_; refine oN ?_) | (refine rd 3 ?_; refine dFb ?_; refine dLb ?_; refine dAs ?_; refine dAs ?_; refine dN ?_; refine oN ?_) | refine gc ?_ | refine ct ?_ | refine cf ?_ | refine swp_cond rfl (fun hc => ?_) (fun hc => ?_) | refine rq rfl (rt (rt .nil)) ?_)
    unfold rawsT; rw [if_neg he]; rfl
end Go.Proofs.YtloippgblkoemaaGreatDoor.Rq
