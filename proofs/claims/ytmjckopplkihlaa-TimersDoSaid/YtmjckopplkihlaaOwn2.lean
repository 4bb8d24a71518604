/- Rows of the call's own: an append of a make; what an insertion leaves. -/
import Derived.Test.YtmjckopplkihlaaDel
namespace Go.Proofs.Ytmjckopplkihlaa.Mem
set_option linter.unusedVariables false
set_option linter.unusedSimpArgs false
open Go.RowKit

theorem splice_in {β : Type} {L A B X : List β} (h : L.take (A.length + B.length) = A ++ B) (hl : A.length + X.length + B.length ≤ L.length) :
    (splice (splice L (A.length + X.length) B) A.length X).take (A.length + X.length + B.length) = A ++ X ++ B := by
  have hA : L.take A.length = A := by
    have h1 : L.take A.length = (L.take (A.length + B.length)).take A.length := by rw [List.take_take, Nat.min_eq_left (by omega)]
    rw [h1, h]; exact List.take_left' rfl
  have h2 : (splice L (A.length + X.length) B).take A.length = A := by
    unfold splice
    rw [List.take_append_of_le_length (by rw [List.length_take]; omega), List.take_take, Nat.min_eq_left (by omega), hA]
  have h3 : (splice L (A.length + X.length) B).drop (A.length + X.length) = B ++ L.drop (A.length + X.length + B.length) := by
    unfold splice
    exact List.drop_left' (by rw [List.length_take]; omega)
  have e : splice (splice L (A.length + X.length) B) A.length X = (A ++ X ++ B) ++ L.drop (A.length + X.length + B.length) := by
    rw [show splice (splice L (A.length + X.length) B) A.length X = (splice L (A.length + X.length) B).take A.length ++ (X ++ (splice L (A.length + X.length) B).drop (A.length + X.length)) from rfl, h2, h3]
    simp
  rw [e]
  exact List.take_left' (by simp only [List.length_append])
theorem splice_new {β : Type} {L A B X : List β} (h : L.take A.length = A) (hl : A.length + X.length + B.length ≤ L.length) :
    (splice (splice L A.length X) (A.length + X.length) B).take (A.length + X.length + B.length) = A ++ X ++ B := by
  have h3 : (splice L A.length X).take (A.length + X.length) = A ++ X := by
    unfold splice
    rw [h, ← List.append_assoc]; exact List.take_left' (by simp)
  have e : splice (splice L A.length X) (A.length + X.length) B = (A ++ X ++ B) ++ (splice L A.length X).drop (A.length + X.length + B.length) := by
    rw [show splice (splice L A.length X) (A.length + X.length) B = (splice L A.length X).take (A.length + X.length) ++ (B ++ (splice L A.length X).drop (A.length + X.length + B.length)) from rfl, h3]
    simp
  rw [e]
  exact List.take_left' (by simp only [List.length_append])
theorem size_splice {β : Type} {L cs : List β} {off : Nat} (h : off + cs.length ≤ L.length) : (splice L off cs).length = L.length := length_splice L off cs h

theorem run_overlaps_no {P : Program} {f : FuncId} {fn : Func} {tS tR e : TypeId} {size : Nat} (hf : P.funcs[f]? = some fn) (hname : (fn.name == "runtime.NumGoroutine") = false) (hb : fn.body.isNone = true) (hn : Extern.findNext fn = none) (he : Extern.find fn = some (Extern.SlicesOverlaps.overlaps #[tS, tS] #[tR]))
    (ht : P.underlying tS = some (.slice e)) (hz : ∀ w, (Go.sizeOf e).run P w = .ok size w) (w : World) (a b : Nat) (hne : a ≠ b) (ca cb : Array Value) (ta tb : TypeId) (ha : w.heap[a]? = some (.cells ca ta (0, 0))) (hB : w.heap[b]? = some (.cells cb tb (0, 0))) (h0 : 0 < cb.size) (oa ob la ka lb kb : Nat) :
    (callFunc f #[.slice (some ⟨a, oa, none⟩) la ka, .slice (some ⟨b, ob, none⟩) lb kb]).run P w = .ok (.value (.bool false)) w := by
  rw [run_callFunc_extern hf hname hb hn he, Lib.run_overlaps_apart w tS tR e ht size hz ⟨a, oa, none⟩ ⟨b, ob, none⟩ la ka lb kb hne ta tb ca.size cb.size (by simp [World.shape?, ha]) (by simp [World.shape?, hB]) (by omega) (by simp [World.frozen?, ha]) (by simp [World.frozen?, ha])]
  rfl

/-- append(s[:i], make(S, k)...), where there is no room: a new block -/
theorem wpList_append_zeros {P : Program} {w : World} {ops : Array Oper} {rest : List Oper} {o : Oper} {a : Act} {Q : Exit → Act → World → Prop} (hgd : o.guard = none) (s x : Operand) (t tn : TypeId)
    (ho : o.op = .call { callee := .builtin .append, args := #[s, x], argTypes := #[t, tn] }) (kn : IntKind) (htn : P.underlying tn = some (.int kn))
    (e : TypeId) (i : TypeInfo) (z : Value) (size bytes : Nat) (ht : P.underlying t = some (.slice e)) (hi : P.info? e = some i) (hz : i.zero = some z) (hsize : i.size = size) (hby : i.bytes = bytes) (hzs : z.cells.size = size) (hsz : 0 < size)
    (g sLen sCap : Nat) (hs : a.eval s = .slice (some ⟨g, 0, none⟩) sLen sCap) (olds : List Value) (hlo : olds.length = sLen * size) (holds : ∀ (j : Nat) u, olds[j]? = some u → w.cell? ⟨g, j, none⟩ = some u)
    (zi : Int) (hx : a.eval x = .int .i64 zi) (k : Nat) (hzi : zi = k) (h0 : 0 < k) (need : Nat) (hneed : sLen + k = need) (hg : sCap < sLen + k) (h63 : sLen + k ≤ maxLen) (hbytes : (sLen + k) * bytes ≤ 140737488355328)
    (h : ∀ (w' : World) (cap : Nat) (cur : List Value), Hid (w'.heap[w.heap.size]? = some (.cells cur.toArray e (0, 0)) ∧ cur.length = cap * size ∧ cur.take (sLen * size) = olds) → need ≤ cap → cap ≤ maxLen → Lo w w' → w.heap.size < w'.heap.size →
      wpList P ops Q rest (a.put o.dst (.slice (some ⟨w.heap.size, 0, none⟩) need cap)) w') : wpList P ops Q (o :: rest) a w := by
  subst hzi hsize hby hneed
  have hsmall : sLen + k ≤ 9223372036854775807 := by simp only [maxLen] at h63; omega
  have hk48 : k * i.bytes ≤ (sLen + k) * i.bytes := Nat.mul_le_mul_right _ (by omega)
  have hf := run_firstCells_some (P := P) w.drew i.size sLen ⟨g, 0, none⟩ sLen sCap olds hlo (fun j u hj => by rw [addr_add, Nat.zero_add]; simpa using holds j u hj)
  have hrun := Lib.run_append_grow_zeros (P := P) w t tn o.type e i z .i64 kn ht htn hi hz (some ⟨g, 0, none⟩) sLen sCap olds hf k h0 hsz hg (by omega) (by omega) (growslice_fits hg hbytes)
  refine wpList_plain hgd fun K hK => ?_
  unfold Oper.wp execOp
  simp only [ho, resolve, invoke, builtin, Sem.run_bind, Sem.run_pure, Result.andThen_ok, List.map_toArray, List.map_cons, List.map_nil, hs, hx, hrun]
  have hge := grownCap_ge w (sLen + k) sCap e
  have hcm := grownCap_le_maxLen w (sLen + k) sCap e h63
  generalize grownCap w (sLen + k) sCap e = cap at *
  refine hK _ _ (h _ cap (olds ++ (Builtin.zeroCells z.cells k).toList ++ (Builtin.zeroCells z.cells (cap - (sLen + k))).toList) (Lib.hid ⟨?_, ?_, ?_⟩) hge hcm ?_ (by simp))
  · have := heap_alloc_new w.drew (.cells (olds.toArray ++ Builtin.zeroCells z.cells k ++ Builtin.zeroCells z.cells (cap - (sLen + k))) e)
    rw [show w.drew.heap.size = w.heap.size from rfl] at this
    rw [this]
    simp
  · simp only [List.length_append, hlo, Array.length_toList, size_zeroCells, hzs]
    rw [← Nat.add_mul, ← Nat.add_mul]
    congr 1; omega
  · rw [List.append_assoc]; exact List.take_left' hlo
  · exact ((Lo.refl w).drew).alloc _
end Go.Proofs.Ytmjckopplkihlaa.Mem
