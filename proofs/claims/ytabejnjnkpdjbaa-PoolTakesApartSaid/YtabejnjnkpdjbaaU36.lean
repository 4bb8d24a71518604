/- Merged by bundles.py: SimPl, SimCb, SimNl8, SimNl9. -/
import Derived.Test.YtabejnjnkpdjbaaU25
import Derived.Test.YtabejnjnkpdjbaaU20
import Derived.Test.YtabejnjnkpdjbaaU15
import Derived.Test.YtabejnjnkpdjbaaU13
import Derived.Test.YtabejnjnkpdjbaaU4
import Derived.Lib.SlBytesConst
import Derived.Test.YtabejnjnkpdjbaaU35
import Derived.Test.YtabejnjnkpdjbaaU31
/- Same, of pools; New. (Printed by mk_pol.py.) -/
namespace Go.Proofs.Ytabejnjnkpdjbaa.Sim
set_option linter.unusedVariables false
set_option linter.unusedSimpArgs false
open Go.RowKit Mem
def newP (node inc : Int) : PPool × Int := if node < 2 ∨ 9 < node ∨ inc < 1 ∨ 4611686018427387903 < inc then (⟨0, 0, 0, []⟩, 1) else (⟨node, inc, 1, []⟩, 0)
set_option maxRecDepth 100000 in
theorem new_ (node inc : Int) : LCalls Try.prog 16 [.t (i64T node), .t (u64T inc)] [] [] (.tu [.t (.agg (poolT (newP node inc).1)), .t (i64T (newP node inc).2)]) [] [] := by
  unfold newP
  refine lcalls_of Try.func16 rfl rfl Try.ntmps16 rfl ?_
  by_cases h1 : node < 2
  · rw [if_pos (.inl h1)]
    repeat' (first | (refine rg 0 ?_; refine sal str58 ?_; refine aq0 ?_) | (refine rg 1 ?_; refine oMv ?_; refine oCm ?_; refine oMv ?_; (first | refine oMv ?_ | refine oK ?_) <;> (first | refine oCm ?_ | refine oK ?_) <;> refine oPt ?_ <;> refine oMv ?_ <;> (first | refine oMv ?_ | refine oK ?_) <;> (first | refine oCm ?_ | refine oK ?_) <;> refine oPt ?_ <;> refine oMv ?_ <;> (first | refine oMv ?_ | refine oK ?_) <;> (first | refine oCm ?_ | refine oK ?_) <;> refine oPt ?_ <;> refine oN ?_) | (refine rg 2 ?_; refine sp (po_buildS str58 rfl .nil rfl) ?_; refine aq39 ?_) | refine gc ?_ | refine ct ?_ | refine cf ?_ | refine sc ?_ ?_ <;> intro hc | refine rq rfl (.cell rfl rfl (tyT rfl) (vc (vc (vc (vc .nil)))) rfl (rt .nil)) ?_)
    exact retl (.inr rfl) rfl (.cellT rfl rfl (tyT rfl) (vc (vc (vc (vc .nil)))) rfl (.tmp rfl rfl .nil)) rfl rfl .nil .nil
  by_cases h2 : 9 < node
  · rw [if_pos (.inr (.inl h2))]
    repeat' (first | (refine rg 0 ?_; refine sal str58 ?_; refine aq0 ?_) | (refine rg 1 ?_; refine oMv ?_; refine oCm ?_; refine oMv ?_; refine oMv ?_ <;> refine oCm ?_ <;> (first | refine oPt ?_ | refine oPf ?_) <;> refine oMv ?_ <;> (first | refine oMv ?_ | refine oK ?_) <;> (first | refine oCm ?_ | refine oK ?_) <;> refine oPt ?_ <;> refine oMv ?_ <;> (first | refine oMv ?_ | refine oK ?_) <;> (first | refine oCm ?_ | refine oK ?_) <;> refine oPt ?_ <;> refine oN ?_) | (refine rg 2 ?_; refine sp (po_buildS str58 rfl .nil rfl) ?_; refine aq39 ?_) | refine gc ?_ | refine ct ?_ | refine cf ?_ | refine sc ?_ ?_ <;> intro hc | refine rq rfl (.cell rfl rfl (tyT rfl) (vc (vc (vc (vc .nil)))) rfl (rt .nil)) ?_)
    exact retl (.inr rfl) rfl (.cellT rfl rfl (tyT rfl) (vc (vc (vc (vc .nil)))) rfl (.tmp rfl rfl .nil)) rfl rfl .nil .nil
  by_cases h3 : inc < 1
  · rw [if_pos (.inr (.inr (.inl h3)))]
    repeat' (first | (refine rg 0 ?_; refine sal str58 ?_; refine aq0 ?_) | (refine rg 1 ?_; refine oMv ?_; refine oCm ?_; refine oMv ?_; refine oMv ?_ <;> refine oCm ?_ <;> (first | refine oPt ?_ | refine oPf ?_) <;> refine oMv ?_ <;> refine oMv ?_ <;> refine oCm ?_ <;> (first | refine oPt ?_ | refine oPf ?_) <;> refine oMv ?_ <;> (first | refine oMv ?_ | refine oK ?_) <;> (first | refine oCm ?_ | refine oK ?_) <;> refine oPt ?_ <;> refine oN ?_) | (refine rg 2 ?_; refine sp (po_buildS str58 rfl .nil rfl) ?_; refine aq39 ?_) | refine gc ?_ | refine ct ?_ | refine cf ?_ | refine sc ?_ ?_ <;> intro hc | refine rq rfl (.cell rfl rfl (tyT rfl) (vc (vc (vc (vc .nil)))) rfl (rt .nil)) ?_)
    exact retl (.inr rfl) rfl (.cellT rfl rfl (tyT rfl) (vc (vc (vc (vc .nil)))) rfl (.tmp rfl rfl .nil)) rfl rfl .nil .nil
  by_cases h4 : 4611686018427387903 < inc
  · rw [if_pos (.inr (.inr (.inr h4)))]
    repeat' (first | (refine rg 0 ?_; refine sal str58 ?_; refine aq0 ?_) | refine rg 1 (aq84 ?_) | (refine rg 2 ?_; refine sp (po_buildS str58 rfl .nil rfl) ?_; refine aq39 ?_) | refine gc ?_ | refine ct ?_ | refine cf ?_ | refine sc ?_ ?_ <;> intro hc | refine rq rfl (.cell rfl rfl (tyT rfl) (vc (vc (vc (vc .nil)))) rfl (rt .nil)) ?_)
    exact retl (.inr rfl) rfl (.cellT rfl rfl (tyT rfl) (vc (vc (vc (vc .nil)))) rfl (.tmp rfl rfl .nil)) rfl rfl .nil .nil
  · rw [if_neg (by omega)]
    repeat' (first | (refine rg 0 ?_; refine sal str58 ?_; refine aq0 ?_) | refine rg 1 (aq84 ?_) | (refine rg 3 (aq16 ?_); refine sp (po_buildS str58 rfl (pc (pc (pc .nil))) rfl) ?_; refine aq39 ?_) | refine gc ?_ | refine ct ?_ | refine cf ?_ | refine sc ?_ ?_ <;> intro hc | refine rq rfl (.cell rfl rfl (tyT rfl) (vc (vc (vc (vc .nil)))) rfl (rt .nil)) ?_)
    exact retl (.inr rfl) rfl (.cellT rfl rfl (tyT rfl) (vc (vc (vc (vc .nil)))) rfl (.tmp rfl rfl .nil)) rfl rfl .nil .nil
end Go.Proofs.Ytabejnjnkpdjbaa.Sim

/- A logic of states: a constant text's bytes. -/
namespace Go.Proofs.Ytabejnjnkpdjbaa.Sim
set_option linter.unusedVariables false
set_option linter.unusedSimpArgs false
open Go.RowKit Mem
section
variable {P : Program} {N : Nat} {Q : Exit → St → Prop} {ops : Array Oper} {rest : List Oper} {o : Oper} {tm : List (Nat × A)} {bx : List (Nat × List A)} {ow : List (Nat × Own)}
structure SMk (P : Program) (N : Nat) (ops : Array Oper) (Q : Exit → St → Prop) (d e : Nat) (rows : List (List T)) (l : List Oper) (st : St) : Prop where
  go : ∀ C a w m g, RelG C N st a w m g → ∀ vs : List Value, vs.length = rows.length * 1 → (∀ r ∈ rows, r.length = 1) → CellsAre m rows.flatten vs → wpList P ops (Good C N Q) l (a.put (some d) (.slice (some ⟨w.heap.size, 0, none⟩) rows.length rows.length)) (w.alloc (.cells vs.toArray e))
theorem sops_cb1 {t e by_ len d : Nat} {xs : List (Nat × Operand)} {rows : List (List T)} (hg : GuardIs ops tm o true) (ho : o.op = .buildSlice t len xs.toArray) (hd : o.dst = some d) (hT : sliceE P t = some (e, 1, by_)) (hx : DParts ow (evA tm) 1 0 xs rows) (hlen : rows.length = len) (h0 : Nat.blt 0 len = true) (hsm : Nat.ble (len * 1) (2 ^ 24) = true)
    (k : SMk P N ops Q d e rows rest ⟨tm, bx, ow⟩) : SOps P N ops Q (o :: rest) ⟨tm, bx, ow⟩ := by
  refine .mk fun C a w ⟨m, g, hr⟩ => ?_
  obtain ⟨vs, h1, h2, h3, h4, h5⟩ := hx.ok hr.env (a := a) (fun x _ y hy => hr.ev hy)
  have hrun := built_run (P := P) hT w vs h3 (by omega) (Nat.lt_of_succ_le (Nat.le_of_ble_eq_true h0)) hsm
  refine wpList_step fun K hK => ?_
  rw [if_pos (hg.wanted (m := m) (g := g) fun j want e _ _ y hy => hr.tmps e y hy)]
  subst hlen
  refine wp_of_run (v := .slice (some ⟨w.heap.size, 0, none⟩) rows.length rows.length) (w' := w.alloc (.cells (vs.flatMap fun v => v.cells.toList).toArray e)) ?_ (hK _ _ ?_)
  · simp only [execOp, ho, List.map_toArray]
    rw [show (xs.map fun x => (x.1, a.eval x.2)) = (vs.zipIdx 0).map (fun x => (x.2, x.1)) from h1, Sem.run_bind, hrun]; rfl
  · rw [hd]
    exact k.go C a w m g hr _ (by rw [flatMap_cells_len h3, h2]) h4 h5
theorem sops_cb2 {t e d d2 : Nat} {rows : List (List T)} (hg : GuardIs ops ((d, .t (.sl 1 rows)) :: tm) o true) (ho : o.op = .convert t t (.tmp d)) (hd : o.dst = some d2) (hN : Nat.blt d N = true) (hN2 : Nat.blt d2 N = true) (hT : byE P t = some e) (hsm : Nat.ble rows.length (2 ^ 24) = true)
    (h : SOps P N ops Q rest ⟨(d2, .t (.sl 1 rows)) :: (d, .t (.sl 1 rows)) :: tm, bx, ow⟩) : SMk P N ops Q d e rows (o :: rest) ⟨tm, bx, ow⟩ := by
  refine .mk fun C a w m g hr vs hl h4 h5 => ?_
  obtain ⟨t1, t2⟩ := byE_spec hT
  have hle := Nat.le_of_ble_eq_true hsm
  have hrl : rows.length ≤ maxLen := by unfold maxLen; omega
  have hd1 : d < N := Nat.lt_of_succ_le (Nat.le_of_ble_eq_true hN)
  have hlo : Lo w (w.alloc (.cells vs.toArray e (vs.toArray.size, vs.toArray.size + 1))) := (Lo.refl w).alloc _
  have hs := upm_sub hr.env.sub hlo
  have he := ext_upm (w' := w.alloc (.cells vs.toArray e (vs.toArray.size, vs.toArray.size + 1))) hr.env.sub
  have hnew : (w.alloc (.cells vs.toArray e (vs.toArray.size, vs.toArray.size + 1))).heap[w.heap.size]? = some (.cells vs.toArray e (vs.toArray.size, vs.toArray.size + 1)) := heap_alloc_new w _
  have hTR : TR (upm m w (w.alloc (.cells vs.toArray e (vs.toArray.size, vs.toArray.size + 1)))) (.sl 1 rows) (.slice (some ⟨w.heap.size, 0, none⟩) rows.length rows.length) := by
    refine tr_owns (w := w.alloc (.cells vs.toArray e (vs.toArray.size, vs.toArray.size + 1))) (base := 0) (e := e) (vs := vs) ⟨hl, .inr ⟨w.heap.size, rows.length, vs.toArray, rfl, Nat.zero_le _, ⟨_, hnew, .inr (Nat.le_refl _)⟩, Nat.le_refl _, hrl, by simp [hl], ?_⟩⟩ h4 (h5.mono he.1) ?_
    · simp only; rw [← hl]; exact List.take_length
    · intro b hb k u hu
      injection hb with hb; subst hb
      unfold upm
      rw [if_neg (Nat.lt_irrefl _)]
      unfold World.cell?
      rw [hnew]
      simpa using hu
  have R1 := hr.put (x := .t (.sl 1 rows)) (v := .slice (some ⟨w.heap.size, 0, none⟩) rows.length rows.length) (hr.env.step hlo he hs) (fun x v h => h.mono he.1) hd1 hTR
  have R2 := R1.put (d := d2) (x := .t (.sl 1 rows)) (v := .slice (some ⟨w.heap.size, 0, none⟩) rows.length rows.length) R1.env (fun x v h => h) (Nat.lt_of_succ_le (Nat.le_of_ble_eq_true hN2)) hTR
  refine wpList_step fun K hK => ?_
  rw [if_pos (hg.wanted (m := upm m w (w.alloc (.cells vs.toArray e (vs.toArray.size, vs.toArray.size + 1)))) (g := g) fun j want e _ _ y hy => R1.tmps e y hy)]
  refine wp_of_run (v := .slice (some ⟨w.heap.size, 0, none⟩) rows.length rows.length) (w' := w.alloc (.cells vs.toArray e (vs.toArray.size, vs.toArray.size + 1))) ?_ (hK _ _ (h.go C _ _ ⟨_, _, by rw [hd]; exact R2⟩))
  have hev := eval_put_same (a := a) (.slice (some ⟨w.heap.size, 0, none⟩) rows.length rows.length) hr.size hd1
  have hc := Lib.run_convert_bytes_const (P := P) w t e vs.toArray rows.length rows.length t1 t2
  simp only [execOp, ho, hev, Sem.run_bind, hc]
  rfl
end
end Go.Proofs.Ytabejnjnkpdjbaa.Sim

/- Contracts without anything lent; query. -/
namespace Go.Proofs.Ytabejnjnkpdjbaa.Sim
set_option linter.unusedVariables false
set_option linter.unusedSimpArgs false
open Go.RowKit Mem
theorem LCalls.pc {P : Program} {f : FuncId} {args : List T} {r : T} {a : A} (h : LCalls P f (args.map .t) [] [] a [] []) (ha : ∀ m g v, AR m g a v → TR m r v) : PCalls P f args r where
  ent := h.ent
  run := fun m w vals hs hl hv hT => by
    refine (h.run m w ⟨fun _ => 0, fun _ => undef, fun _ => 0, fun _ => false, fun _ => false, fun _ => (0, 0), fun _ _ => false, fun _ _ => undef⟩ vals ?_ (by rw [hl, List.length_map]) (fun i x v h1 h2 => ?_)).mono ?_
    · exact {
        lo := .of_lo (Lo.refl _), gm := fun b o h => by cases h
        sub := hs, ext := ExtX.refl _ _ _, gt := hT, lb := fun i => rfl, lw := fun i => rfl
        ln := fun i o h => by cases h
        boxes := fun i cs h => by cases h
        inj := fun i j ci cj h => by cases h
        owns := fun i o h => by cases h
        apart := fun i j oi oj h => by cases h
        pin := fun i o h => by cases h
        pinb := fun i o h => by cases h
        rs := ⟨fun i R _ h => (by cases h), fun i j R R' _ _ h => (by cases h), fun i cs _ h => (by cases h)⟩ }
    · rw [List.getElem?_map] at h1
      cases ht : args[i]? with
      | none => rw [ht] at h1; cases h1
      | some t => rw [ht] at h1; injection h1 with h1; subst h1; exact hv i t v ht h2
    · rintro e w' ⟨v, m', g', rfl, henv, hv⟩
      exact ⟨v, m', rfl, henv.lo.lo (fun _ => rfl), henv.ext.ext (fun _ => rfl), henv.sub, ha m' g' v hv⟩
theorem ar_t {r : T} : ∀ m g v, AR m g (.t r) v → TR m r v := fun m g v h => h
theorem ar_tu {rs : List T} : ∀ m g v, AR m g (.tu (rs.map .t)) v → TR m (.tup rs) v := fun m g v h => by
  obtain ⟨vs, rfl, h1, h2⟩ := h
  refine .tup rs vs (by rw [h1, List.length_map]) fun j t u hj hu => ?_
  exact h2 j (.t t) u (by rw [List.getElem?_map, hj]; rfl) hu
theorem tr_nilLast {m : Mm} {l : List T} {k : Nat} {v : Value} (h : TR m (.agg (l ++ [.v (.slice none 0 0)])) v) : TR m (.agg (l ++ [.sl k []])) v := by
  generalize ht : T.agg (l ++ [.v (.slice none 0 0)]) = t at h
  cases h with
  | agg cs vs hl h1 h2 =>
    injection ht with ht; subst ht
    refine .agg _ vs (by simpa using hl) (by simpa using h1) fun j t u hj hu => ?_
    by_cases e : j < l.length
    · rw [List.getElem?_append_left e] at hj
      exact h2 j t u (by rw [List.getElem?_append_left e]; exact hj) hu
    · rw [List.getElem?_append_right (by omega)] at hj
      cases hjl : j - l.length with
      | zero =>
        rw [hjl] at hj; injection hj with hj; subst hj
        have := h2 j _ u (by rw [List.getElem?_append_right (by omega), hjl]; rfl) hu
        have hu' := tr_v this
        subst hu'
        exact tr_nil _ k (by unfold maxLen; omega)
      | succ q => rw [hjl] at hj; simp at hj
  | _ => cases ht
theorem byt44 : byE Try.prog 44 = some 5 := by kernel_rfl
def qry (n : Int) : PQ := ⟨n, 0, 0, 0, .empty, .empty, 0, 0, [120]⟩
set_option maxRecDepth 100000 in
theorem query_ (n : Int) : PCalls Try.prog 18 [u64T n] (.agg (askR (qry n))) := by
  refine pcalls_of Try.func18 rfl rfl Try.ntmps18 rfl ?_
  repeat' (first | (refine rg 0 ?_; refine sal str70 ?_; refine oN ?_) | (refine rg 1 ?_; refine oMv ?_; refine sops_cb1 (.free rfl rfl) rfl rfl (tyE rfl) (dc (.nil _)) rfl rfl rfl ?_; refine sops_cb2 (.free rfl rfl) rfl rfl rfl rfl byt44 rfl ?_; refine sp (po_buildS str70 rfl (pc (pc .nil)) rfl) ?_; refine aq12 ?_) | refine gc ?_ | refine ct ?_ | refine cf ?_ | refine sc ?_ ?_ <;> intro hc | refine rq rfl (.cell rfl rfl (tyT rfl) (vc (vc (vc (vc (vc (vc (vc (vc (vc .nil))))))))) rfl .nil) ?_)
  all_goals rfl
end Go.Proofs.Ytabejnjnkpdjbaa.Sim

/- The chapter's examples. (Printed by mk_nl9.py.) -/
namespace Go.Proofs.Ytabejnjnkpdjbaa.Sim
set_option linter.unusedVariables false
set_option linter.unusedSimpArgs false
open Go.RowKit Mem
set_option maxRecDepth 100000
theorem few0 (b n s : Int) (i : Int) : FewQ ⟨i, n, b, s, .empty, .empty, 0, 0, [120]⟩ := ⟨by show 1 ≤ 1000000; omega⟩
theorem k_new : PCalls Try.prog 16 [i64T 2, u64T 1] (.tup [.agg (poolT (⟨2, 1, 1, []⟩ : PPool)), i64T 0]) := by
  have e : newP 2 1 = ((⟨2, 1, 1, []⟩ : PPool), 0) := by kernel_rfl
  have k := new_ 2 1
  rw [e] at k
  exact LCalls.pc (args := [i64T 2, u64T 1]) k (ar_tu (rs := [.agg (poolT (⟨2, 1, 1, []⟩ : PPool)), i64T 0]))
theorem k_ask1 : PCalls Try.prog 17 [.agg (poolT (⟨2, 1, 1, []⟩ : PPool)), u64T 0, i64T 3, u64T 10, dstT 11 7 80, .agg (askR (qry 1))] (.tup [.agg (poolT (⟨2, 1, 2, [⟨2, 1, 1, 3, 10, 11, 7, 80, 1, 0, 0, 0, 0, [⟨1, 0, 0, 0, .empty, .empty, 0, 0, [120]⟩]⟩]⟩ : PPool)), .sl 18 (([⟨1, 3, 2, 1, 1, 10, 11, 7, 80, none⟩] : List PDo).map doR), i64T 0]) := by
  have e : askP (⟨2, 1, 1, []⟩ : PPool) 0 3 10 11 7 80 (qry 1) = ((⟨2, 1, 2, [⟨2, 1, 1, 3, 10, 11, 7, 80, 1, 0, 0, 0, 0, [⟨1, 0, 0, 0, .empty, .empty, 0, 0, [120]⟩]⟩]⟩ : PPool), [⟨1, 3, 2, 1, 1, 10, 11, 7, 80, none⟩], 0) := by kernel_rfl
  have k := ask_ (⟨2, 1, 1, []⟩ : PPool) 0 3 10 11 7 80 (qry 1) (by decide) (fun t ht => by cases ht) (few0 _ _ _ _)
  rw [e] at k
  exact LCalls.pc (args := [.agg (poolT (⟨2, 1, 1, []⟩ : PPool)), u64T 0, i64T 3, u64T 10, dstT 11 7 80, .agg (askR (qry 1))]) k (ar_tu (rs := [.agg (poolT (⟨2, 1, 2, [⟨2, 1, 1, 3, 10, 11, 7, 80, 1, 0, 0, 0, 0, [⟨1, 0, 0, 0, .empty, .empty, 0, 0, [120]⟩]⟩]⟩ : PPool)), .sl 18 (([⟨1, 3, 2, 1, 1, 10, 11, 7, 80, none⟩] : List PDo).map doR), i64T 0]))
theorem k_ask2 : PCalls Try.prog 17 [.agg (poolT (⟨2, 1, 2, [⟨2, 1, 1, 3, 10, 11, 7, 80, 1, 0, 0, 0, 0, [⟨1, 0, 0, 0, .empty, .empty, 0, 0, [120]⟩]⟩]⟩ : PPool)), u64T 0, i64T 3, u64T 10, dstT 11 7 80, .agg (askR (qry 2))] (.tup [.agg (poolT (⟨2, 1, 2, [⟨2, 1, 1, 3, 10, 11, 7, 80, 1, 0, 0, 0, 0, [⟨1, 0, 0, 0, .empty, .empty, 0, 0, [120]⟩, ⟨2, 0, 0, 0, .empty, .empty, 0, 0, [120]⟩]⟩]⟩ : PPool)), .sl 18 (([] : List PDo).map doR), i64T 0]) := by
  have e : askP (⟨2, 1, 2, [⟨2, 1, 1, 3, 10, 11, 7, 80, 1, 0, 0, 0, 0, [⟨1, 0, 0, 0, .empty, .empty, 0, 0, [120]⟩]⟩]⟩ : PPool) 0 3 10 11 7 80 (qry 2) = ((⟨2, 1, 2, [⟨2, 1, 1, 3, 10, 11, 7, 80, 1, 0, 0, 0, 0, [⟨1, 0, 0, 0, .empty, .empty, 0, 0, [120]⟩, ⟨2, 0, 0, 0, .empty, .empty, 0, 0, [120]⟩]⟩]⟩ : PPool), [], 0) := by kernel_rfl
  have k := ask_ (⟨2, 1, 2, [⟨2, 1, 1, 3, 10, 11, 7, 80, 1, 0, 0, 0, 0, [⟨1, 0, 0, 0, .empty, .empty, 0, 0, [120]⟩]⟩]⟩ : PPool) 0 3 10 11 7 80 (qry 2) (by decide) (fun t ht => by rcases List.mem_singleton.1 ht with rfl; exact ⟨by show 1 ≤ 1000; omega, fun q hq => by rcases List.mem_singleton.1 hq with rfl; exact few0 _ _ _ _⟩) (few0 _ _ _ _)
  rw [e] at k
  exact LCalls.pc (args := [.agg (poolT (⟨2, 1, 2, [⟨2, 1, 1, 3, 10, 11, 7, 80, 1, 0, 0, 0, 0, [⟨1, 0, 0, 0, .empty, .empty, 0, 0, [120]⟩]⟩]⟩ : PPool)), u64T 0, i64T 3, u64T 10, dstT 11 7 80, .agg (askR (qry 2))]) k (ar_tu (rs := [.agg (poolT (⟨2, 1, 2, [⟨2, 1, 1, 3, 10, 11, 7, 80, 1, 0, 0, 0, 0, [⟨1, 0, 0, 0, .empty, .empty, 0, 0, [120]⟩, ⟨2, 0, 0, 0, .empty, .empty, 0, 0, [120]⟩]⟩]⟩ : PPool)), .sl 18 (([] : List PDo).map doR), i64T 0]))
theorem k_ask3 : PCalls Try.prog 17 [.agg (poolT (⟨2, 1, 2, [⟨2, 1, 1, 3, 10, 11, 7, 80, 2, 2, 0, 0, 1, [⟨1, 1, 0, 1, .empty, .empty, 0, 0, [120]⟩]⟩]⟩ : PPool)), u64T 1, i64T 3, u64T 10, dstT 11 7 80, .agg (askR (qry 4))] (.tup [.agg (poolT (⟨2, 1, 2, [⟨2, 1, 1, 3, 10, 11, 7, 80, 2, 3, 0, 0, 1, [⟨1, 1, 0, 1, .empty, .empty, 0, 0, [120]⟩, ⟨4, 3, 1, 1, .empty, .empty, 0, 0, [120]⟩]⟩]⟩ : PPool)), .sl 18 (([⟨2, 3, 2, 1, 1, 0, 0, 0, 0, some ⟨4, 3, 1, 1, .empty, .empty, 0, 0, [120]⟩⟩] : List PDo).map doR), i64T 0]) := by
  have e : askP (⟨2, 1, 2, [⟨2, 1, 1, 3, 10, 11, 7, 80, 2, 2, 0, 0, 1, [⟨1, 1, 0, 1, .empty, .empty, 0, 0, [120]⟩]⟩]⟩ : PPool) 1 3 10 11 7 80 (qry 4) = ((⟨2, 1, 2, [⟨2, 1, 1, 3, 10, 11, 7, 80, 2, 3, 0, 0, 1, [⟨1, 1, 0, 1, .empty, .empty, 0, 0, [120]⟩, ⟨4, 3, 1, 1, .empty, .empty, 0, 0, [120]⟩]⟩]⟩ : PPool), [⟨2, 3, 2, 1, 1, 0, 0, 0, 0, some ⟨4, 3, 1, 1, .empty, .empty, 0, 0, [120]⟩⟩], 0) := by kernel_rfl
  have k := ask_ (⟨2, 1, 2, [⟨2, 1, 1, 3, 10, 11, 7, 80, 2, 2, 0, 0, 1, [⟨1, 1, 0, 1, .empty, .empty, 0, 0, [120]⟩]⟩]⟩ : PPool) 1 3 10 11 7 80 (qry 4) (by decide) (fun t ht => by rcases List.mem_singleton.1 ht with rfl; exact ⟨by show 1 ≤ 1000; omega, fun q hq => by rcases List.mem_singleton.1 hq with rfl; exact few0 _ _ _ _⟩) (few0 _ _ _ _)
  rw [e] at k
  exact LCalls.pc (args := [.agg (poolT (⟨2, 1, 2, [⟨2, 1, 1, 3, 10, 11, 7, 80, 2, 2, 0, 0, 1, [⟨1, 1, 0, 1, .empty, .empty, 0, 0, [120]⟩]⟩]⟩ : PPool)), u64T 1, i64T 3, u64T 10, dstT 11 7 80, .agg (askR (qry 4))]) k (ar_tu (rs := [.agg (poolT (⟨2, 1, 2, [⟨2, 1, 1, 3, 10, 11, 7, 80, 2, 3, 0, 0, 1, [⟨1, 1, 0, 1, .empty, .empty, 0, 0, [120]⟩, ⟨4, 3, 1, 1, .empty, .empty, 0, 0, [120]⟩]⟩]⟩ : PPool)), .sl 18 (([⟨2, 3, 2, 1, 1, 0, 0, 0, 0, some ⟨4, 3, 1, 1, .empty, .empty, 0, 0, [120]⟩⟩] : List PDo).map doR), i64T 0]))
theorem k_acc : PCalls Try.prog 19 [.agg (poolT (⟨2, 1, 2, [⟨2, 1, 1, 3, 10, 11, 7, 80, 1, 0, 0, 0, 0, [⟨1, 0, 0, 0, .empty, .empty, 0, 0, [120]⟩, ⟨2, 0, 0, 0, .empty, .empty, 0, 0, [120]⟩]⟩]⟩ : PPool)), u64T 1, i64T 3, idT 2 1 1] (.tup [.agg (poolT (⟨2, 1, 2, [⟨2, 1, 1, 3, 10, 11, 7, 80, 2, 2, 0, 0, 1, [⟨1, 1, 0, 1, .empty, .empty, 0, 0, [120]⟩, ⟨2, 2, 0, 1, .empty, .empty, 0, 0, [120]⟩]⟩]⟩ : PPool)), .sl 18 (([⟨2, 3, 2, 1, 1, 0, 0, 0, 0, some ⟨1, 1, 0, 1, .empty, .empty, 0, 0, [120]⟩⟩, ⟨2, 3, 2, 1, 1, 0, 0, 0, 0, some ⟨2, 2, 0, 1, .empty, .empty, 0, 0, [120]⟩⟩] : List PDo).map doR)]) := by
  have e1 : accP (⟨2, 1, 2, [⟨2, 1, 1, 3, 10, 11, 7, 80, 1, 0, 0, 0, 0, [⟨1, 0, 0, 0, .empty, .empty, 0, 0, [120]⟩, ⟨2, 0, 0, 0, .empty, .empty, 0, 0, [120]⟩]⟩]⟩ : PPool) 1 (pAt 3 2 1 1) = (⟨2, 1, 2, [⟨2, 1, 1, 3, 10, 11, 7, 80, 2, 2, 0, 0, 1, [⟨1, 1, 0, 1, .empty, .empty, 0, 0, [120]⟩, ⟨2, 2, 0, 1, .empty, .empty, 0, 0, [120]⟩]⟩]⟩ : PPool) := by kernel_rfl
  have e2 : accD (⟨2, 1, 2, [⟨2, 1, 1, 3, 10, 11, 7, 80, 1, 0, 0, 0, 0, [⟨1, 0, 0, 0, .empty, .empty, 0, 0, [120]⟩, ⟨2, 0, 0, 0, .empty, .empty, 0, 0, [120]⟩]⟩]⟩ : PPool) 1 (pAt 3 2 1 1) = [⟨2, 3, 2, 1, 1, 0, 0, 0, 0, some ⟨1, 1, 0, 1, .empty, .empty, 0, 0, [120]⟩⟩, ⟨2, 3, 2, 1, 1, 0, 0, 0, 0, some ⟨2, 2, 0, 1, .empty, .empty, 0, 0, [120]⟩⟩] := by kernel_rfl
  have k := accepted_ (⟨2, 1, 2, [⟨2, 1, 1, 3, 10, 11, 7, 80, 1, 0, 0, 0, 0, [⟨1, 0, 0, 0, .empty, .empty, 0, 0, [120]⟩, ⟨2, 0, 0, 0, .empty, .empty, 0, 0, [120]⟩]⟩]⟩ : PPool) 1 3 2 1 1 (by decide) (fun t ht => by rcases List.mem_singleton.1 ht with rfl; exact ⟨by show 2 ≤ 1000; omega, fun q hq => by rcases List.mem_cons.1 hq with rfl | hq; exact few0 _ _ _ _; rcases List.mem_singleton.1 hq with rfl; exact few0 _ _ _ _⟩)
  rw [e1, e2] at k
  exact LCalls.pc (args := [.agg (poolT (⟨2, 1, 2, [⟨2, 1, 1, 3, 10, 11, 7, 80, 1, 0, 0, 0, 0, [⟨1, 0, 0, 0, .empty, .empty, 0, 0, [120]⟩, ⟨2, 0, 0, 0, .empty, .empty, 0, 0, [120]⟩]⟩]⟩ : PPool)), u64T 1, i64T 3, idT 2 1 1]) k (ar_tu (rs := [.agg (poolT (⟨2, 1, 2, [⟨2, 1, 1, 3, 10, 11, 7, 80, 2, 2, 0, 0, 1, [⟨1, 1, 0, 1, .empty, .empty, 0, 0, [120]⟩, ⟨2, 2, 0, 1, .empty, .empty, 0, 0, [120]⟩]⟩]⟩ : PPool)), .sl 18 (([⟨2, 3, 2, 1, 1, 0, 0, 0, 0, some ⟨1, 1, 0, 1, .empty, .empty, 0, 0, [120]⟩⟩, ⟨2, 3, 2, 1, 1, 0, 0, 0, 0, some ⟨2, 2, 0, 1, .empty, .empty, 0, 0, [120]⟩⟩] : List PDo).map doR)]))
theorem k_rep : PCalls Try.prog 21 [.agg (poolT (⟨2, 1, 2, [⟨2, 1, 1, 3, 10, 11, 7, 80, 2, 2, 0, 0, 1, [⟨1, 1, 0, 1, .empty, .empty, 0, 0, [120]⟩, ⟨2, 2, 0, 1, .empty, .empty, 0, 0, [120]⟩]⟩]⟩ : PPool)), u64T 1, i64T 3, idT 2 1 1, u64T 2] (.tup [.agg (poolT (⟨2, 1, 2, [⟨2, 1, 1, 3, 10, 11, 7, 80, 2, 2, 0, 0, 1, [⟨1, 1, 0, 1, .empty, .empty, 0, 0, [120]⟩]⟩]⟩ : PPool)), u64T 2, .v (.bool true)]) := by
  have e : repR (⟨2, 1, 2, [⟨2, 1, 1, 3, 10, 11, 7, 80, 2, 2, 0, 0, 1, [⟨1, 1, 0, 1, .empty, .empty, 0, 0, [120]⟩, ⟨2, 2, 0, 1, .empty, .empty, 0, 0, [120]⟩]⟩]⟩ : PPool) 1 (pAt 3 2 1 1) 2 = ((⟨2, 1, 2, [⟨2, 1, 1, 3, 10, 11, 7, 80, 2, 2, 0, 0, 1, [⟨1, 1, 0, 1, .empty, .empty, 0, 0, [120]⟩]⟩]⟩ : PPool), 2, true) := by kernel_rfl
  have k := replied_ (⟨2, 1, 2, [⟨2, 1, 1, 3, 10, 11, 7, 80, 2, 2, 0, 0, 1, [⟨1, 1, 0, 1, .empty, .empty, 0, 0, [120]⟩, ⟨2, 2, 0, 1, .empty, .empty, 0, 0, [120]⟩]⟩]⟩ : PPool) 1 3 2 1 1 2 (by decide) (fun t ht => by rcases List.mem_singleton.1 ht with rfl; exact ⟨by show 2 ≤ 1000; omega, fun q hq => by rcases List.mem_cons.1 hq with rfl | hq; exact few0 _ _ _ _; rcases List.mem_singleton.1 hq with rfl; exact few0 _ _ _ _⟩)
  rw [e] at k
  exact LCalls.pc (args := [.agg (poolT (⟨2, 1, 2, [⟨2, 1, 1, 3, 10, 11, 7, 80, 2, 2, 0, 0, 1, [⟨1, 1, 0, 1, .empty, .empty, 0, 0, [120]⟩, ⟨2, 2, 0, 1, .empty, .empty, 0, 0, [120]⟩]⟩]⟩ : PPool)), u64T 1, i64T 3, idT 2 1 1, u64T 2]) k (ar_tu (rs := [.agg (poolT (⟨2, 1, 2, [⟨2, 1, 1, 3, 10, 11, 7, 80, 2, 2, 0, 0, 1, [⟨1, 1, 0, 1, .empty, .empty, 0, 0, [120]⟩]⟩]⟩ : PPool)), u64T 2, .v (.bool true)]))
theorem k_tk1 : PCalls Try.prog 24 [.agg (poolT (⟨2, 1, 2, [⟨2, 1, 1, 3, 10, 11, 7, 80, 2, 3, 0, 0, 1, [⟨1, 1, 0, 1, .empty, .empty, 0, 0, [120]⟩, ⟨4, 3, 1, 1, .empty, .empty, 0, 0, [120]⟩]⟩]⟩ : PPool)), u64T 4] (.tup [.agg (poolT (⟨2, 1, 2, [⟨2, 1, 1, 3, 10, 11, 7, 80, 2, 3, 0, 0, 4, [⟨1, 1, 0, 4, .empty, .empty, 0, 0, [120]⟩, ⟨4, 3, 1, 4, .empty, .empty, 0, 0, [120]⟩]⟩]⟩ : PPool)), .sl 18 (([⟨2, 3, 2, 1, 1, 0, 0, 0, 0, some ⟨1, 1, 0, 4, .empty, .empty, 0, 0, [120]⟩⟩, ⟨2, 3, 2, 1, 1, 0, 0, 0, 0, some ⟨4, 3, 1, 4, .empty, .empty, 0, 0, [120]⟩⟩] : List PDo).map doR), .sl 2 (([] : List PFail).map failR)]) := by
  have e1 : tickP (⟨2, 1, 2, [⟨2, 1, 1, 3, 10, 11, 7, 80, 2, 3, 0, 0, 1, [⟨1, 1, 0, 1, .empty, .empty, 0, 0, [120]⟩, ⟨4, 3, 1, 1, .empty, .empty, 0, 0, [120]⟩]⟩]⟩ : PPool) 4 = (⟨2, 1, 2, [⟨2, 1, 1, 3, 10, 11, 7, 80, 2, 3, 0, 0, 4, [⟨1, 1, 0, 4, .empty, .empty, 0, 0, [120]⟩, ⟨4, 3, 1, 4, .empty, .empty, 0, 0, [120]⟩]⟩]⟩ : PPool) := by kernel_rfl
  have e2 : tickD 4 ((⟨2, 1, 2, [⟨2, 1, 1, 3, 10, 11, 7, 80, 2, 3, 0, 0, 1, [⟨1, 1, 0, 1, .empty, .empty, 0, 0, [120]⟩, ⟨4, 3, 1, 1, .empty, .empty, 0, 0, [120]⟩]⟩]⟩ : PPool)).tuns = [⟨2, 3, 2, 1, 1, 0, 0, 0, 0, some ⟨1, 1, 0, 4, .empty, .empty, 0, 0, [120]⟩⟩, ⟨2, 3, 2, 1, 1, 0, 0, 0, 0, some ⟨4, 3, 1, 4, .empty, .empty, 0, 0, [120]⟩⟩] := by kernel_rfl
  have e3 : tickF 4 ((⟨2, 1, 2, [⟨2, 1, 1, 3, 10, 11, 7, 80, 2, 3, 0, 0, 1, [⟨1, 1, 0, 1, .empty, .empty, 0, 0, [120]⟩, ⟨4, 3, 1, 1, .empty, .empty, 0, 0, [120]⟩]⟩]⟩ : PPool)).tuns = [] := by kernel_rfl
  have k := tick_ (⟨2, 1, 2, [⟨2, 1, 1, 3, 10, 11, 7, 80, 2, 3, 0, 0, 1, [⟨1, 1, 0, 1, .empty, .empty, 0, 0, [120]⟩, ⟨4, 3, 1, 1, .empty, .empty, 0, 0, [120]⟩]⟩]⟩ : PPool) 4 (by decide) (fun t ht => by rcases List.mem_singleton.1 ht with rfl; exact ⟨by show 2 ≤ 1000; omega, fun q hq => by rcases List.mem_cons.1 hq with rfl | hq; exact few0 _ _ _ _; rcases List.mem_singleton.1 hq with rfl; exact few0 _ _ _ _⟩) (by decide)
  rw [e1, e2, e3] at k
  exact LCalls.pc (args := [.agg (poolT (⟨2, 1, 2, [⟨2, 1, 1, 3, 10, 11, 7, 80, 2, 3, 0, 0, 1, [⟨1, 1, 0, 1, .empty, .empty, 0, 0, [120]⟩, ⟨4, 3, 1, 1, .empty, .empty, 0, 0, [120]⟩]⟩]⟩ : PPool)), u64T 4]) k (ar_tu (rs := [.agg (poolT (⟨2, 1, 2, [⟨2, 1, 1, 3, 10, 11, 7, 80, 2, 3, 0, 0, 4, [⟨1, 1, 0, 4, .empty, .empty, 0, 0, [120]⟩, ⟨4, 3, 1, 4, .empty, .empty, 0, 0, [120]⟩]⟩]⟩ : PPool)), .sl 18 (([⟨2, 3, 2, 1, 1, 0, 0, 0, 0, some ⟨1, 1, 0, 4, .empty, .empty, 0, 0, [120]⟩⟩, ⟨2, 3, 2, 1, 1, 0, 0, 0, 0, some ⟨4, 3, 1, 4, .empty, .empty, 0, 0, [120]⟩⟩] : List PDo).map doR), .sl 2 (([] : List PFail).map failR)]))
theorem k_tk2 : PCalls Try.prog 24 [.agg (poolT (⟨2, 1, 2, [⟨2, 1, 1, 3, 10, 11, 7, 80, 2, 3, 0, 0, 4, [⟨1, 1, 0, 4, .empty, .empty, 0, 0, [120]⟩, ⟨4, 3, 1, 4, .empty, .empty, 0, 0, [120]⟩]⟩]⟩ : PPool)), u64T 13] (.tup [.agg (poolT (⟨2, 1, 2, [⟨2, 1, 1, 3, 10, 11, 7, 80, 2, 3, 0, 0, 4, []⟩]⟩ : PPool)), .sl 18 (([] : List PDo).map doR), .sl 2 (([⟨1, 9⟩, ⟨4, 9⟩] : List PFail).map failR)]) := by
  have e1 : tickP (⟨2, 1, 2, [⟨2, 1, 1, 3, 10, 11, 7, 80, 2, 3, 0, 0, 4, [⟨1, 1, 0, 4, .empty, .empty, 0, 0, [120]⟩, ⟨4, 3, 1, 4, .empty, .empty, 0, 0, [120]⟩]⟩]⟩ : PPool) 13 = (⟨2, 1, 2, [⟨2, 1, 1, 3, 10, 11, 7, 80, 2, 3, 0, 0, 4, []⟩]⟩ : PPool) := by kernel_rfl
  have e2 : tickD 13 ((⟨2, 1, 2, [⟨2, 1, 1, 3, 10, 11, 7, 80, 2, 3, 0, 0, 4, [⟨1, 1, 0, 4, .empty, .empty, 0, 0, [120]⟩, ⟨4, 3, 1, 4, .empty, .empty, 0, 0, [120]⟩]⟩]⟩ : PPool)).tuns = [] := by kernel_rfl
  have e3 : tickF 13 ((⟨2, 1, 2, [⟨2, 1, 1, 3, 10, 11, 7, 80, 2, 3, 0, 0, 4, [⟨1, 1, 0, 4, .empty, .empty, 0, 0, [120]⟩, ⟨4, 3, 1, 4, .empty, .empty, 0, 0, [120]⟩]⟩]⟩ : PPool)).tuns = [⟨1, 9⟩, ⟨4, 9⟩] := by kernel_rfl
  have k := tick_ (⟨2, 1, 2, [⟨2, 1, 1, 3, 10, 11, 7, 80, 2, 3, 0, 0, 4, [⟨1, 1, 0, 4, .empty, .empty, 0, 0, [120]⟩, ⟨4, 3, 1, 4, .empty, .empty, 0, 0, [120]⟩]⟩]⟩ : PPool) 13 (by decide) (fun t ht => by rcases List.mem_singleton.1 ht with rfl; exact ⟨by show 2 ≤ 1000; omega, fun q hq => by rcases List.mem_cons.1 hq with rfl | hq; exact few0 _ _ _ _; rcases List.mem_singleton.1 hq with rfl; exact few0 _ _ _ _⟩) (by decide)
  rw [e1, e2, e3] at k
  exact LCalls.pc (args := [.agg (poolT (⟨2, 1, 2, [⟨2, 1, 1, 3, 10, 11, 7, 80, 2, 3, 0, 0, 4, [⟨1, 1, 0, 4, .empty, .empty, 0, 0, [120]⟩, ⟨4, 3, 1, 4, .empty, .empty, 0, 0, [120]⟩]⟩]⟩ : PPool)), u64T 13]) k (ar_tu (rs := [.agg (poolT (⟨2, 1, 2, [⟨2, 1, 1, 3, 10, 11, 7, 80, 2, 3, 0, 0, 4, []⟩]⟩ : PPool)), .sl 18 (([] : List PDo).map doR), .sl 2 (([⟨1, 9⟩, ⟨4, 9⟩] : List PFail).map failR)]))
theorem k_tk3 : PCalls Try.prog 24 [.agg (poolT (⟨2, 1, 2, [⟨2, 1, 1, 3, 10, 11, 7, 80, 2, 3, 0, 0, 4, []⟩]⟩ : PPool)), u64T 40] (.tup [.agg (poolT (⟨2, 1, 2, []⟩ : PPool)), .sl 18 (([⟨3, 3, 2, 1, 1, 0, 0, 0, 0, none⟩] : List PDo).map doR), .sl 2 (([] : List PFail).map failR)]) := by
  have e1 : tickP (⟨2, 1, 2, [⟨2, 1, 1, 3, 10, 11, 7, 80, 2, 3, 0, 0, 4, []⟩]⟩ : PPool) 40 = (⟨2, 1, 2, []⟩ : PPool) := by kernel_rfl
  have e2 : tickD 40 ((⟨2, 1, 2, [⟨2, 1, 1, 3, 10, 11, 7, 80, 2, 3, 0, 0, 4, []⟩]⟩ : PPool)).tuns = [⟨3, 3, 2, 1, 1, 0, 0, 0, 0, none⟩] := by kernel_rfl
  have e3 : tickF 40 ((⟨2, 1, 2, [⟨2, 1, 1, 3, 10, 11, 7, 80, 2, 3, 0, 0, 4, []⟩]⟩ : PPool)).tuns = [] := by kernel_rfl
  have k := tick_ (⟨2, 1, 2, [⟨2, 1, 1, 3, 10, 11, 7, 80, 2, 3, 0, 0, 4, []⟩]⟩ : PPool) 40 (by decide) (fun t ht => by rcases List.mem_singleton.1 ht with rfl; exact ⟨by show 0 ≤ 1000; omega, fun q hq => by cases hq⟩) (by decide)
  rw [e1, e2, e3] at k
  exact LCalls.pc (args := [.agg (poolT (⟨2, 1, 2, [⟨2, 1, 1, 3, 10, 11, 7, 80, 2, 3, 0, 0, 4, []⟩]⟩ : PPool)), u64T 40]) k (ar_tu (rs := [.agg (poolT (⟨2, 1, 2, []⟩ : PPool)), .sl 18 (([⟨3, 3, 2, 1, 1, 0, 0, 0, 0, none⟩] : List PDo).map doR), .sl 2 (([] : List PFail).map failR)]))
theorem k_adm : PCalls Try.prog 9 [.agg (inlT []), u64T 0, .agg (inT' (⟨2, 1, 1, 2, 2, .empty, .empty, 10, 0, 11, 7, 80, 0, []⟩ : PIn))] (.tup [.agg (inlT ([(⟨2, 1, 1, 2, 2, .empty, .empty, 10, 0, 11, 7, 80, 0, []⟩ : PIn)] : List PIn)), i64T 0]) := by
  have e : admP [] 0 (⟨2, 1, 1, 2, 2, .empty, .empty, 10, 0, 11, 7, 80, 0, []⟩ : PIn) = (([(⟨2, 1, 1, 2, 2, .empty, .empty, 10, 0, 11, 7, 80, 0, []⟩ : PIn)] : List PIn), 0) := by kernel_rfl
  have k := admit_ [] 0 (⟨2, 1, 1, 2, 2, .empty, .empty, 10, 0, 11, 7, 80, 0, []⟩ : PIn) (by decide) (by intro t ht; cases ht)
  rw [e] at k
  exact LCalls.pc (args := [.agg (inlT []), u64T 0, .agg (inT' (⟨2, 1, 1, 2, 2, .empty, .empty, 10, 0, 11, 7, 80, 0, []⟩ : PIn))]) k (ar_tu (rs := [.agg (inlT ([(⟨2, 1, 1, 2, 2, .empty, .empty, 10, 0, 11, 7, 80, 0, []⟩ : PIn)] : List PIn)), i64T 0]))
theorem k_tak1 : PCalls Try.prog 11 [.agg (inlT ([(⟨2, 1, 1, 2, 2, .empty, .empty, 10, 0, 11, 7, 80, 0, []⟩ : PIn)] : List PIn)), u64T 0, i64T 2, idT 2 1 1, u64T 2, u64T 5] (.tup [.agg (inlT ([(⟨2, 1, 1, 2, 2, .empty, .empty, 10, 0, 11, 7, 80, 0, [⟨5, 0, 0, []⟩]⟩ : PIn)] : List PIn)), i64T 1, .agg (takR ⟨0, 0, 0, []⟩)]) := by
  have e : takeP ([(⟨2, 1, 1, 2, 2, .empty, .empty, 10, 0, 11, 7, 80, 0, []⟩ : PIn)] : List PIn) 0 2 2 1 1 2 5 = (([(⟨2, 1, 1, 2, 2, .empty, .empty, 10, 0, 11, 7, 80, 0, [⟨5, 0, 0, []⟩]⟩ : PIn)] : List PIn), 1, ⟨0, 0, 0, []⟩) := by kernel_rfl
  have k := take_ ([(⟨2, 1, 1, 2, 2, .empty, .empty, 10, 0, 11, 7, 80, 0, []⟩ : PIn)] : List PIn) 0 2 2 1 1 2 5 (by decide) (fun t ht => by rcases List.mem_singleton.1 ht with rfl; exact ⟨by show 0 ≤ 1000; omega, fun q hq => by cases hq⟩) (fun t ht => by rcases List.mem_singleton.1 ht with rfl; show 0 + 1 ≤ 501; omega)
  rw [e] at k
  exact LCalls.pc (args := [.agg (inlT ([(⟨2, 1, 1, 2, 2, .empty, .empty, 10, 0, 11, 7, 80, 0, []⟩ : PIn)] : List PIn)), u64T 0, i64T 2, idT 2 1 1, u64T 2, u64T 5]) k (ar_tu (rs := [.agg (inlT ([(⟨2, 1, 1, 2, 2, .empty, .empty, 10, 0, 11, 7, 80, 0, [⟨5, 0, 0, []⟩]⟩ : PIn)] : List PIn)), i64T 1, .agg (takR ⟨0, 0, 0, []⟩)]))
theorem k_tak2 : PCalls Try.prog 11 [.agg (inlT ([(⟨2, 1, 1, 2, 2, .empty, .empty, 10, 0, 11, 7, 80, 0, [⟨5, 0, 0, []⟩]⟩ : PIn)] : List PIn)), u64T 0, i64T 2, idT 2 1 1, u64T 2, u64T 5] (.tup [.agg (inlT ([(⟨2, 1, 1, 2, 2, .empty, .empty, 10, 0, 11, 7, 80, 0, [⟨5, 0, 0, []⟩]⟩ : PIn)] : List PIn)), i64T 3, .agg (takR ⟨0, 0, 0, []⟩)]) := by
  have e : takeP ([(⟨2, 1, 1, 2, 2, .empty, .empty, 10, 0, 11, 7, 80, 0, [⟨5, 0, 0, []⟩]⟩ : PIn)] : List PIn) 0 2 2 1 1 2 5 = (([(⟨2, 1, 1, 2, 2, .empty, .empty, 10, 0, 11, 7, 80, 0, [⟨5, 0, 0, []⟩]⟩ : PIn)] : List PIn), 3, ⟨0, 0, 0, []⟩) := by kernel_rfl
  have k := take_ ([(⟨2, 1, 1, 2, 2, .empty, .empty, 10, 0, 11, 7, 80, 0, [⟨5, 0, 0, []⟩]⟩ : PIn)] : List PIn) 0 2 2 1 1 2 5 (by decide) (fun t ht => by rcases List.mem_singleton.1 ht with rfl; exact ⟨by show 1 ≤ 1000; omega, fun q hq => by rcases List.mem_singleton.1 hq with rfl; exact ⟨by show 0 ≤ 1000000; omega⟩⟩) (fun t ht => by rcases List.mem_singleton.1 ht with rfl; show 1 + 1 ≤ 501; omega)
  rw [e] at k
  exact LCalls.pc (args := [.agg (inlT ([(⟨2, 1, 1, 2, 2, .empty, .empty, 10, 0, 11, 7, 80, 0, [⟨5, 0, 0, []⟩]⟩ : PIn)] : List PIn)), u64T 0, i64T 2, idT 2 1 1, u64T 2, u64T 5]) k (ar_tu (rs := [.agg (inlT ([(⟨2, 1, 1, 2, 2, .empty, .empty, 10, 0, 11, 7, 80, 0, [⟨5, 0, 0, []⟩]⟩ : PIn)] : List PIn)), i64T 3, .agg (takR ⟨0, 0, 0, []⟩)]))
theorem k_tak3 : PCalls Try.prog 11 [.agg (inlT ([(⟨2, 1, 1, 2, 2, .empty, .empty, 10, 0, 11, 7, 80, 0, [⟨5, 1, 200, []⟩]⟩ : PIn)] : List PIn)), u64T 0, i64T 2, idT 2 1 1, u64T 2, u64T 5] (.tup [.agg (inlT ([(⟨2, 1, 1, 2, 2, .empty, .empty, 10, 0, 11, 7, 80, 0, [⟨5, 1, 200, []⟩]⟩ : PIn)] : List PIn)), i64T 2, .agg (takR ⟨5, 1, 200, []⟩)]) := by
  have e : takeP ([(⟨2, 1, 1, 2, 2, .empty, .empty, 10, 0, 11, 7, 80, 0, [⟨5, 1, 200, []⟩]⟩ : PIn)] : List PIn) 0 2 2 1 1 2 5 = (([(⟨2, 1, 1, 2, 2, .empty, .empty, 10, 0, 11, 7, 80, 0, [⟨5, 1, 200, []⟩]⟩ : PIn)] : List PIn), 2, ⟨5, 1, 200, []⟩) := by kernel_rfl
  have k := take_ ([(⟨2, 1, 1, 2, 2, .empty, .empty, 10, 0, 11, 7, 80, 0, [⟨5, 1, 200, []⟩]⟩ : PIn)] : List PIn) 0 2 2 1 1 2 5 (by decide) (fun t ht => by rcases List.mem_singleton.1 ht with rfl; exact ⟨by show 1 ≤ 1000; omega, fun q hq => by rcases List.mem_singleton.1 hq with rfl; exact ⟨by show 0 ≤ 1000000; omega⟩⟩) (fun t ht => by rcases List.mem_singleton.1 ht with rfl; show 1 + 1 ≤ 501; omega)
  rw [e] at k
  exact LCalls.pc (args := [.agg (inlT ([(⟨2, 1, 1, 2, 2, .empty, .empty, 10, 0, 11, 7, 80, 0, [⟨5, 1, 200, []⟩]⟩ : PIn)] : List PIn)), u64T 0, i64T 2, idT 2 1 1, u64T 2, u64T 5]) k (ar_tu (rs := [.agg (inlT ([(⟨2, 1, 1, 2, 2, .empty, .empty, 10, 0, 11, 7, 80, 0, [⟨5, 1, 200, []⟩]⟩ : PIn)] : List PIn)), i64T 2, .agg (takR ⟨5, 1, 200, []⟩)]))
theorem k_done : PCalls Try.prog 13 [.agg (inlT ([(⟨2, 1, 1, 2, 2, .empty, .empty, 10, 0, 11, 7, 80, 0, [⟨5, 0, 0, []⟩]⟩ : PIn)] : List PIn)), idT 2 1 1, .agg (takR ⟨5, 0, 200, []⟩)] (.agg (inlT ([(⟨2, 1, 1, 2, 2, .empty, .empty, 10, 0, 11, 7, 80, 0, [⟨5, 1, 200, []⟩]⟩ : PIn)] : List PIn))) := by
  have e : doneP ([(⟨2, 1, 1, 2, 2, .empty, .empty, 10, 0, 11, 7, 80, 0, [⟨5, 0, 0, []⟩]⟩ : PIn)] : List PIn) 2 1 1 ⟨5, 0, 200, []⟩ = ([(⟨2, 1, 1, 2, 2, .empty, .empty, 10, 0, 11, 7, 80, 0, [⟨5, 1, 200, []⟩]⟩ : PIn)] : List PIn) := by kernel_rfl
  have k := done_ ([(⟨2, 1, 1, 2, 2, .empty, .empty, 10, 0, 11, 7, 80, 0, [⟨5, 0, 0, []⟩]⟩ : PIn)] : List PIn) 2 1 1 ⟨5, 0, 200, []⟩ (by decide) (fun t ht => by rcases List.mem_singleton.1 ht with rfl; exact ⟨by show 1 ≤ 1000; omega, fun q hq => by rcases List.mem_singleton.1 hq with rfl; exact ⟨by show 0 ≤ 1000000; omega⟩⟩) ⟨by show 0 ≤ 1000000; omega⟩
  rw [e] at k
  exact LCalls.pc (args := [.agg (inlT ([(⟨2, 1, 1, 2, 2, .empty, .empty, 10, 0, 11, 7, 80, 0, [⟨5, 0, 0, []⟩]⟩ : PIn)] : List PIn)), idT 2 1 1, .agg (takR ⟨5, 0, 200, []⟩)]) k ar_t
end Go.Proofs.Ytabejnjnkpdjbaa.Sim
