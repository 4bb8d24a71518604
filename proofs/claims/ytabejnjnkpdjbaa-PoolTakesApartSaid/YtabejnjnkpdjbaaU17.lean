/- Merged by bundles.py: SimDeQ, SimDeT, SimDf, SimPo5, SimPo6. -/
import Derived.Test.YtabejnjnkpdjbaaU16
import Derived.Test.YtabejnjnkpdjbaaU15
/- slices.Delete at api.Query. (Written by mk_delete1.py.) -/
namespace Go.Proofs.Ytabejnjnkpdjbaa.Sim
set_option linter.unusedVariables false
set_option linter.unusedSimpArgs false
open Go.RowKit Mem BigFrame
theorem infoQ : (Try.prog.info? 70).map (fun i => (i.zero, i.size, i.bytes)) = some (some (.agg #[.int .u64 0, .int .u64 0, .int .u64 0, .int .u64 0, .string ⟨#[]⟩, .string ⟨#[]⟩, .int .u64 0, .int .u32 0, .slice none 0 0]), 9, 104) := by kernel_rfl
set_option maxRecDepth 100000 in
set_option maxHeartbeats 3200000 in
theorem delQ (g cap n i : Nat) (cur : List Value) (fz : Nat × Nat) (w : World) (hg : w.heap[g]? = some (.cells cur.toArray 70 fz)) (hfz : FzOk fz cur.length) (hin : i < n) (hnc : n ≤ cap) (hcm : cap ≤ maxLen) (hcs : cap * 9 ≤ cur.length) (h1 : ∀ u ∈ cur.take (n * 9), u.oneCell' = true) :
    Calls Try.prog 77 #[.slice (some ⟨g, 0, none⟩) n cap, .int .i64 i, .int .i64 ((i : Int) + 1)] w fun e w' => e = .returned (.slice (some ⟨g, 0, none⟩) (n - 1) cap) ∧ w.grownBy w' (some g) ∧ ∃ cur' : List Value, w'.heap[g]? = some (.cells cur'.toArray 70 fz) ∧ cur'.length = cur.length ∧ cur'.take ((n - 1) * 9) = dropE 9 i (cur.take (n * 9)) := by
  obtain ⟨i0, hi, hz0, hz1, hz2⟩ := info_parts infoQ
  have HG := Lib.hid hg
  have HF := Lib.hid hfz
  have hnl : n * 9 ≤ cur.length := by omega
  have hsrc : Hid (∀ w0, Lo w w0 → ∀ (j : Nat) u, ((cur.take (n * 9)).drop ((i + 1) * 9))[j]? = some u → w0.cell? ((⟨g, (i + 1) * 9, none⟩ : Addr).add j) = some u) := Lib.hid fun w0 hl j u hj => by
    rw [addr_add]
    refine lo_keep hl ?_
    rw [List.getElem?_drop] at hj
    have hjn : (i + 1) * 9 + j < n * 9 := by have := (List.getElem?_eq_some_iff.1 hj).1; simp at this; omega
    rw [List.getElem?_take_of_lt hjn] at hj
    have hjl := (List.getElem?_eq_some_iff.1 hj).1
    obtain ⟨hx, hy⟩ := List.getElem?_eq_some_iff.1 hj
    simp [World.cell?, hg, hjl, hy]
  have hlen : ((cur.take (n * 9)).drop ((i + 1) * 9)).length = (n - (i + 1)) * 9 := by simp only [List.length_drop, List.length_take]; omega
  have hone : ∀ u ∈ (cur.take (n * 9)).drop ((i + 1) * 9), u.oneCell' = true := fun u hu => h1 u (List.mem_of_mem_drop hu)
  have HSP := Lib.hid (splice_dropE (L := cur) (sz := 9) hin hnl)
  have hfit0 : i * 9 + ((cur.take (n * 9)).drop ((i + 1) * 9)).length ≤ cur.length := by rw [hlen]; omega
  have hsl : (splice cur (i * 9) ((cur.take (n * 9)).drop ((i + 1) * 9))).length = cur.length := size_splice hfit0
  clear hg hfz h1
  generalize (cur.take (n * 9)).drop ((i + 1) * 9) = Xs at *
  generalize dropE 9 i (cur.take (n * 9)) = Ys at *
  have j0 : (0 : Int) ≤ (i : Int) := by omega
  have j1 : (i : Int) + 1 ≤ (n : Int) := by omega
  have j2 : (n : Int) ≤ (cap : Int) := by omega
  have j3 : ¬ ((i : Int) = (i : Int) + 1) := by omega
  have j4 : (0 : Int) ≤ (i : Int) + 1 := by omega
  have j5 : ((i : Int) + 1).toNat = i + 1 := by omega
  have j6 : (i : Int) ≤ (i : Int) + 1 := by omega
  have j7 : (i : Int) ≤ (cap : Int) := by omega
  have hbg : g < w.heap.size := block_lt HG.out
  go_enter Try.func77, Try.ntmps77
  go_wp2
  obtain ⟨ad, had, hadc⟩ : ∃ ad : Addr, (if cap = i + 1 then some (⟨g, 0, none⟩ : Addr) else some ⟨g, (i + 1) * 9, none⟩) = some ad ∧ Hid (∀ w0, Lo w w0 → ∀ (j : Nat) u, Xs[j]? = some u → w0.cell? (ad.add j) = some u) := by
    by_cases h : cap = i + 1
    · refine ⟨⟨g, 0, none⟩, if_pos h, Lib.hid fun w0 hl j u hj => ?_⟩
      have := (List.getElem?_eq_some_iff.1 hj).1
      omega
    · exact ⟨⟨g, (i + 1) * 9, none⟩, if_neg h, hsrc⟩
  go_region_law (refine step_append_roomN rfl (.tmp 22) (.tmp 25) 116 70 i0 9 rfl Try.underlying116 hi hz1 g i cap ad (n - (i + 1)) (cap - (i + 1)) (by simp [Act.eval, Act.put]) (by simp [Act.eval, Act.put, had]) cur fz HG.out HF.out Xs hlen (hadc.out _ (Lo.refl w).drew) (by omega) hfit0 (show i + (n - (i + 1)) = n - 1 by omega) hone ?_; intro w1 HG1 hgr1)
  have hgr1 : w.grownBy w1 (some g) := grown_trans (grown_of_lo (Lo.refl w).drew) hgr1
  have q0 : ((n - 1 : Nat) : Int) ≤ (n : Int) := by omega
  have q1 : (0 : Int) ≤ ((n - 1 : Nat) : Int) := by omega
  have q2 : ¬ (cap = n - 1) := by omega
  have q3 : n - (n - 1) = 1 := by omega
  have HF1 : Hid (FzOk fz (splice cur (i * 9) Xs).length) := Lib.hid (by rw [hsl]; exact HF.out)
  have hzc : (Value.agg #[.int .u64 0, .int .u64 0, .int .u64 0, .int .u64 0, .string ⟨#[]⟩, .string ⟨#[]⟩, .int .u64 0, .int .u32 0, .slice none 0 0]).cells.size = 9 := rfl
  have hzf : (n - 1) * 9 + 1 * (Value.agg #[.int .u64 0, .int .u64 0, .int .u64 0, .int .u64 0, .string ⟨#[]⟩, .string ⟨#[]⟩, .int .u64 0, .int .u32 0, .slice none 0 0]).cells.size ≤ (splice cur (i * 9) Xs).length := by rw [hsl, hzc]; omega
  have hz1' : ∀ u ∈ (Value.agg #[.int .u64 0, .int .u64 0, .int .u64 0, .int .u64 0, .string ⟨#[]⟩, .string ⟨#[]⟩, .int .u64 0, .int .u32 0, .slice none 0 0]).cells.toList, u.oneCell' = true := fun u hu => List.all_eq_true.1 (show (Value.agg #[.int .u64 0, .int .u64 0, .int .u64 0, .int .u64 0, .string ⟨#[]⟩, .string ⟨#[]⟩, .int .u64 0, .int .u32 0, .slice none 0 0]).cells.toList.all (·.oneCell') = true from rfl) u hu
  have hz0' : 0 < (Value.agg #[.int .u64 0, .int .u64 0, .int .u64 0, .int .u64 0, .string ⟨#[]⟩, .string ⟨#[]⟩, .int .u64 0, .int .u32 0, .slice none 0 0]).cells.size := by rw [hzc]; omega
  have h01 : 0 < 1 := by omega
  go_wp2_with ((refine wpList_clear_rowN rfl (.tmp 31) 116 rfl 70 i0 (.agg #[.int .u64 0, .int .u64 0, .int .u64 0, .int .u64 0, .string ⟨#[]⟩, .string ⟨#[]⟩, .int .u64 0, .int .u32 0, .slice none 0 0]) Try.underlying116 hi hz0 g ((n - 1) * 9) 1 (cap - (n - 1)) rfl h01 _ 70 HG1.out HF1.out hzf hz1' hz0' ?_); intro w2 cur2 HG2 hgr2)
  go_ret
  exact ⟨rfl, grown_trans hgr1 hgr2, cur2, HG2.out.1, HG2.out.2.1.trans hsl, by rw [HG2.out.2.2]; exact HSP.out⟩
end Go.Proofs.Ytabejnjnkpdjbaa.Sim

/- slices.Delete at api.Tunnel. (Written by mk_delete1.py.) -/
namespace Go.Proofs.Ytabejnjnkpdjbaa.Sim
set_option linter.unusedVariables false
set_option linter.unusedSimpArgs false
open Go.RowKit Mem BigFrame
theorem infoT : (Try.prog.info? 118).map (fun i => (i.zero, i.size, i.bytes)) = some (some (.agg #[.int .i64 0, .int .u64 0, .int .u64 0, .int .i64 0, .int .u64 0, .int .u64 0, .int .u32 0, .int .i64 0, .int .i64 0, .int .u64 0, .int .u64 0, .int .u64 0, .int .u64 0, .slice none 0 0]), 14, 128) := by kernel_rfl
set_option maxRecDepth 100000 in
set_option maxHeartbeats 3200000 in
theorem delT (g cap n i : Nat) (cur : List Value) (fz : Nat × Nat) (w : World) (hg : w.heap[g]? = some (.cells cur.toArray 118 fz)) (hfz : FzOk fz cur.length) (hin : i < n) (hnc : n ≤ cap) (hcm : cap ≤ maxLen) (hcs : cap * 14 ≤ cur.length) (h1 : ∀ u ∈ cur.take (n * 14), u.oneCell' = true) :
    Calls Try.prog 117 #[.slice (some ⟨g, 0, none⟩) n cap, .int .i64 i, .int .i64 ((i : Int) + 1)] w fun e w' => e = .returned (.slice (some ⟨g, 0, none⟩) (n - 1) cap) ∧ w.grownBy w' (some g) ∧ ∃ cur' : List Value, w'.heap[g]? = some (.cells cur'.toArray 118 fz) ∧ cur'.length = cur.length ∧ cur'.take ((n - 1) * 14) = dropE 14 i (cur.take (n * 14)) := by
  obtain ⟨i0, hi, hz0, hz1, hz2⟩ := info_parts infoT
  have HG := Lib.hid hg
  have HF := Lib.hid hfz
  have hnl : n * 14 ≤ cur.length := by omega
  have hsrc : Hid (∀ w0, Lo w w0 → ∀ (j : Nat) u, ((cur.take (n * 14)).drop ((i + 1) * 14))[j]? = some u → w0.cell? ((⟨g, (i + 1) * 14, none⟩ : Addr).add j) = some u) := Lib.hid fun w0 hl j u hj => by
    rw [addr_add]
    refine lo_keep hl ?_
    rw [List.getElem?_drop] at hj
    have hjn : (i + 1) * 14 + j < n * 14 := by have := (List.getElem?_eq_some_iff.1 hj).1; simp at this; omega
    rw [List.getElem?_take_of_lt hjn] at hj
    have hjl := (List.getElem?_eq_some_iff.1 hj).1
    obtain ⟨hx, hy⟩ := List.getElem?_eq_some_iff.1 hj
    simp [World.cell?, hg, hjl, hy]
  have hlen : ((cur.take (n * 14)).drop ((i + 1) * 14)).length = (n - (i + 1)) * 14 := by simp only [List.length_drop, List.length_take]; omega
  have hone : ∀ u ∈ (cur.take (n * 14)).drop ((i + 1) * 14), u.oneCell' = true := fun u hu => h1 u (List.mem_of_mem_drop hu)
  have HSP := Lib.hid (splice_dropE (L := cur) (sz := 14) hin hnl)
  have hfit0 : i * 14 + ((cur.take (n * 14)).drop ((i + 1) * 14)).length ≤ cur.length := by rw [hlen]; omega
  have hsl : (splice cur (i * 14) ((cur.take (n * 14)).drop ((i + 1) * 14))).length = cur.length := size_splice hfit0
  clear hg hfz h1
  generalize (cur.take (n * 14)).drop ((i + 1) * 14) = Xs at *
  generalize dropE 14 i (cur.take (n * 14)) = Ys at *
  have j0 : (0 : Int) ≤ (i : Int) := by omega
  have j1 : (i : Int) + 1 ≤ (n : Int) := by omega
  have j2 : (n : Int) ≤ (cap : Int) := by omega
  have j3 : ¬ ((i : Int) = (i : Int) + 1) := by omega
  have j4 : (0 : Int) ≤ (i : Int) + 1 := by omega
  have j5 : ((i : Int) + 1).toNat = i + 1 := by omega
  have j6 : (i : Int) ≤ (i : Int) + 1 := by omega
  have j7 : (i : Int) ≤ (cap : Int) := by omega
  have hbg : g < w.heap.size := block_lt HG.out
  go_enter Try.func117, Try.ntmps117
  go_wp2
  obtain ⟨ad, had, hadc⟩ : ∃ ad : Addr, (if cap = i + 1 then some (⟨g, 0, none⟩ : Addr) else some ⟨g, (i + 1) * 14, none⟩) = some ad ∧ Hid (∀ w0, Lo w w0 → ∀ (j : Nat) u, Xs[j]? = some u → w0.cell? (ad.add j) = some u) := by
    by_cases h : cap = i + 1
    · refine ⟨⟨g, 0, none⟩, if_pos h, Lib.hid fun w0 hl j u hj => ?_⟩
      have := (List.getElem?_eq_some_iff.1 hj).1
      omega
    · exact ⟨⟨g, (i + 1) * 14, none⟩, if_neg h, hsrc⟩
  go_region_law (refine step_append_roomN rfl (.tmp 22) (.tmp 25) 56 118 i0 14 rfl Try.underlying56 hi hz1 g i cap ad (n - (i + 1)) (cap - (i + 1)) (by simp [Act.eval, Act.put]) (by simp [Act.eval, Act.put, had]) cur fz HG.out HF.out Xs hlen (hadc.out _ (Lo.refl w).drew) (by omega) hfit0 (show i + (n - (i + 1)) = n - 1 by omega) hone ?_; intro w1 HG1 hgr1)
  have hgr1 : w.grownBy w1 (some g) := grown_trans (grown_of_lo (Lo.refl w).drew) hgr1
  have q0 : ((n - 1 : Nat) : Int) ≤ (n : Int) := by omega
  have q1 : (0 : Int) ≤ ((n - 1 : Nat) : Int) := by omega
  have q2 : ¬ (cap = n - 1) := by omega
  have q3 : n - (n - 1) = 1 := by omega
  have HF1 : Hid (FzOk fz (splice cur (i * 14) Xs).length) := Lib.hid (by rw [hsl]; exact HF.out)
  have hzc : (Value.agg #[.int .i64 0, .int .u64 0, .int .u64 0, .int .i64 0, .int .u64 0, .int .u64 0, .int .u32 0, .int .i64 0, .int .i64 0, .int .u64 0, .int .u64 0, .int .u64 0, .int .u64 0, .slice none 0 0]).cells.size = 14 := rfl
  have hzf : (n - 1) * 14 + 1 * (Value.agg #[.int .i64 0, .int .u64 0, .int .u64 0, .int .i64 0, .int .u64 0, .int .u64 0, .int .u32 0, .int .i64 0, .int .i64 0, .int .u64 0, .int .u64 0, .int .u64 0, .int .u64 0, .slice none 0 0]).cells.size ≤ (splice cur (i * 14) Xs).length := by rw [hsl, hzc]; omega
  have hz1' : ∀ u ∈ (Value.agg #[.int .i64 0, .int .u64 0, .int .u64 0, .int .i64 0, .int .u64 0, .int .u64 0, .int .u32 0, .int .i64 0, .int .i64 0, .int .u64 0, .int .u64 0, .int .u64 0, .int .u64 0, .slice none 0 0]).cells.toList, u.oneCell' = true := fun u hu => List.all_eq_true.1 (show (Value.agg #[.int .i64 0, .int .u64 0, .int .u64 0, .int .i64 0, .int .u64 0, .int .u64 0, .int .u32 0, .int .i64 0, .int .i64 0, .int .u64 0, .int .u64 0, .int .u64 0, .int .u64 0, .slice none 0 0]).cells.toList.all (·.oneCell') = true from rfl) u hu
  have hz0' : 0 < (Value.agg #[.int .i64 0, .int .u64 0, .int .u64 0, .int .i64 0, .int .u64 0, .int .u64 0, .int .u32 0, .int .i64 0, .int .i64 0, .int .u64 0, .int .u64 0, .int .u64 0, .int .u64 0, .slice none 0 0]).cells.size := by rw [hzc]; omega
  have h01 : 0 < 1 := by omega
  go_wp2_with ((refine wpList_clear_rowN rfl (.tmp 31) 56 rfl 118 i0 (.agg #[.int .i64 0, .int .u64 0, .int .u64 0, .int .i64 0, .int .u64 0, .int .u64 0, .int .u32 0, .int .i64 0, .int .i64 0, .int .u64 0, .int .u64 0, .int .u64 0, .int .u64 0, .slice none 0 0]) Try.underlying56 hi hz0 g ((n - 1) * 14) 1 (cap - (n - 1)) rfl h01 _ 118 HG1.out HF1.out hzf hz1' hz0' ?_); intro w2 cur2 HG2 hgr2)
  go_ret
  exact ⟨rfl, grown_trans hgr1 hgr2, cur2, HG2.out.1, HG2.out.2.1.trans hsl, by rw [HG2.out.2.2]; exact HSP.out⟩
end Go.Proofs.Ytabejnjnkpdjbaa.Sim

/- slices.Delete of one element, as a contract: the row goes over to the one that is left. -/
namespace Go.Proofs.Ytabejnjnkpdjbaa.Sim
set_option linter.unusedVariables false
set_option linter.unusedSimpArgs false
open Go.RowKit Mem
theorem setRow_then {w w' : World} {b : Nat} {cur cur' : Array Value} {e : TypeId} {fz : Nat × Nat} (h0 : w.heap[b]? = some (.cells cur e fz)) (hg : w.grownBy w' (some b)) (hb : w'.heap[b]? = some (.cells cur' e fz)) : Lo (w.setRow b cur') w' := by
  have hs := EnvG.setB.grown_setRow' w b cur'
  refine Lo.of_grown ⟨hg.os.trans hs.os.symm, hg.tape.trans hs.tape.symm, hg.output.trans hs.output.symm, ?_, fun k hk _ => ?_⟩
  · have := hg.size; simp; exact this
  · have hk' : k < w.heap.size := by simpa using hk
    by_cases e1 : k = b
    · subst e1; rw [hb, setRow_heap w k cur cur' e fz h0]
    · rw [setRow_other w b k cur' e1]; exact hg.block k hk' (fun h => e1 (by injection h))
theorem flat_drop' {sz : Nat} {rows : List (List T)} (hr : ∀ r ∈ rows, r.length = sz) (k : Nat) : (rows.drop k).flatten = rows.flatten.drop (k * sz) := by
  have h1 := flat_take hr k
  have h2 : (rows.take k).flatten ++ (rows.drop k).flatten = rows.flatten := by rw [← List.flatten_append, List.take_append_drop]
  by_cases hk : k ≤ rows.length
  · have h3 : (rows.take k).flatten.length = k * sz := by
      rw [flat_len fun r h => hr r (List.mem_of_mem_take h), List.length_take, Nat.min_eq_left hk]
    rw [← h2, List.drop_left' h3]
  · have h4 : rows.flatten.length ≤ k * sz := by rw [flat_len hr]; exact Nat.mul_le_mul_right _ (by omega)
    rw [List.drop_eq_nil_of_le (by omega), List.drop_eq_nil_of_le h4]; rfl
theorem dropE_rows {sz i : Nat} {rows : List (List T)} (hr : ∀ r ∈ rows, r.length = sz) : dropE sz i rows.flatten = (rows.eraseIdx i).flatten := by
  unfold dropE
  rw [List.eraseIdx_eq_take_drop_succ, List.flatten_append, flat_take hr, flat_drop' hr]
theorem CellsAre.dropE {m : Mm} {ts : List T} {vs : List Value} (h : CellsAre m ts vs) (sz i : Nat) : CellsAre m (dropE sz i ts) (dropE sz i vs) := (h.take _).app (h.drop _)
theorem del_lift {P : Program} {f : FuncId} {fn : Func} {c : Code} {e sz : Nat} (hf : P.funcs[f]? = some fn) (hb : fn.body = some c) (hname : (fn.name == "runtime.NumGoroutine") = false)
    (hd : ∀ (g cap n i : Nat) (cur : List Value) (fz : Nat × Nat) (w : World), w.heap[g]? = some (.cells cur.toArray e fz) → FzOk fz cur.length → i < n → n ≤ cap → cap ≤ maxLen → cap * sz ≤ cur.length → (∀ u ∈ cur.take (n * sz), u.oneCell' = true) →
      Calls P f #[.slice (some ⟨g, 0, none⟩) n cap, .int .i64 i, .int .i64 ((i : Int) + 1)] w fun e' w' => e' = .returned (.slice (some ⟨g, 0, none⟩) (n - 1) cap) ∧ w.grownBy w' (some g) ∧ ∃ cur' : List Value, w'.heap[g]? = some (.cells cur'.toArray e fz) ∧ cur'.length = cur.length ∧ cur'.take ((n - 1) * sz) = dropE sz i (cur.take (n * sz)))
    (rows : List (List T)) (i n : Nat) (hn : n = rows.length) (hi : i < rows.length) :
    LCalls P f [.own 2001 n, .t (.v (.int .i64 (i : Int))), .t (.v (.int .i64 ((i : Int) + 1)))] [] [(2001, ⟨e, sz, rows⟩)] (.own 1001 (n - 1)) [] [(1001, ⟨e, sz, rows.eraseIdx i⟩)] where
  ent := fun vals w => by
    have hname' : ¬ fn.name = "runtime.NumGoroutine" := by simpa using hname
    simp [callFunc, hf, hname', hb]
  run := fun m w g vals he hl hv => by
    subst hn
    obtain ⟨v0, v1, v2, rfl⟩ : ∃ v0 v1 v2, vals = #[v0, v1, v2] := by
      obtain ⟨l⟩ := vals
      match l, hl with
      | [a, b, c], _ => exact ⟨a, b, c, rfl⟩
    have h0 := hv 0 _ _ rfl rfl
    have h1 : v1 = _ := tr_v (show TR m (.v _) v1 from hv 1 _ _ rfl rfl)
    have h2 : v2 = _ := tr_v (show TR m (.v _) v2 from hv 2 _ _ rfl rfl)
    subst h1 h2
    -- under its new number
    obtain ⟨m1, g1, he1, har1⟩ := he.ren (i := 2001) (i' := 1001) (o := ⟨e, sz, rows⟩) rfl rfl rfl rfl
    have h3 := har1 _ _ h0
    have he1 : EnvG (lentC w m g [] [(2001, ⟨e, sz, rows⟩)]) [] [(1001, ⟨e, sz, rows⟩)] w m1 g1 := he1
    have h3 : AR m1 g1 (.own 1001 rows.length) v0 := h3
    obtain ⟨hlw, _, _, hgo⟩ := h3
    have hln := he1.ln 1001 _ rfl
    have hv0 : v0 = g1.go 1001 := hgo (by rw [hln])
    obtain ⟨vs, hown, hrl, hca, hbk⟩ := he1.owns 1001 _ rfl
    dsimp only at hown hrl hca hbk
    obtain ⟨hvl, ⟨_, h5⟩ | ⟨b, cap, cur, h4, hb0, ⟨fz, hcells, hfz⟩, hnc, hcm, hcs, htk⟩⟩ := hown
    · omega
    have hone : ∀ u ∈ cur.toList.take (rows.length * sz), u.oneCell' = true := by rw [htk]; exact hca.one
    rw [hv0, h4]
    refine (hd b cap rows.length i cur.toList fz w hcells (by simpa using hfz) hi hnc hcm (by simpa using hcs) hone).mono fun e' w' ⟨h6, hgr, cur', h7, h8, h9⟩ => ?_
    -- shorter, then written, then the rest of the world
    obtain ⟨he2, har2⟩ := he1.shrink (i := 1001) (k := rows.length - 1) (cap := cap) (cap' := cap) (b := b) (A0 := some ⟨b, 0, none⟩) rfl rfl rfl (by omega) (by omega) (Nat.le_refl _) (.inr ⟨h4, rfl⟩)
    have hg2 : (g1.setO 1001 (.slice (some ⟨b, 0, none⟩) (rows.length - 1) cap) (rows.length - 1)).go 1001 = .slice (some ⟨b, 0, none⟩) (rows.take (rows.length - 1)).length cap := by
      rw [List.length_take, Nat.min_eq_left (by omega)]; simp [Gh.setO]
    have hel : (rows.eraseIdx i).length = (rows.take (rows.length - 1)).length := by rw [List.length_eraseIdx_of_lt hi, List.length_take, Nat.min_eq_left (by omega)]
    have hlt : (rows.take (rows.length - 1)).length = rows.length - 1 := by rw [List.length_take, Nat.min_eq_left (by omega)]
    have hr' : ∀ r ∈ rows.eraseIdx i, r.length = sz := fun r h => hrl r (List.mem_of_mem_eraseIdx h)
    have hc' : CellsAre m1 (rows.eraseIdx i).flatten (dropE sz i vs) := by rw [← dropE_rows hrl]; exact hca.dropE sz i
    have he3 := he2.setE (i := 1001) (b := b) (cap := cap) (rows' := rows.eraseIdx i) (cur := cur) (cur' := cur'.toArray) (vs' := dropE sz i vs) (fz := fz) rfl rfl hel hg2 hcells hfz hr' hc' (by simpa using h8) (by rw [hlt]; simpa [htk] using h9)
    have hlo := setRow_then hcells hgr h7
    have he4 := he3.step (m' := m1) hlo (Ext.refl _ _) (fun b o v hv => lo_keep hlo (he3.sub b o v hv))
    refine ⟨_, m1, _, h6, he4.same (fun _ => rfl) (fun j => ?_), ?_⟩
    · rw [get_cons, get_cons]; split
      · rfl
      · rename_i hj; rw [get_cons, if_neg hj, get_cons, if_neg hj]
    · refine ⟨by simp [Gh.setO], by simp [Gh.setO], ⟨_, _, rfl⟩, fun _ => by simp [Gh.setO]⟩
theorem delQs (rows : List (List T)) (i n : Nat) (hn : n = rows.length) (hi : i < rows.length) : LCalls Try.prog 77 [.own 2001 n, .t (.v (.int .i64 (i : Int))), .t (.v (.int .i64 ((i : Int) + 1)))] [] [(2001, ⟨70, 9, rows⟩)] (.own 1001 (n - 1)) [] [(1001, ⟨70, 9, rows.eraseIdx i⟩)] :=
  del_lift Try.func77 rfl rfl delQ rows i n hn hi
theorem delTs (rows : List (List T)) (i n : Nat) (hn : n = rows.length) (hi : i < rows.length) : LCalls Try.prog 117 [.own 2001 n, .t (.v (.int .i64 (i : Int))), .t (.v (.int .i64 ((i : Int) + 1)))] [] [(2001, ⟨118, 14, rows⟩)] (.own 1001 (n - 1)) [] [(1001, ⟨118, 14, rows.eraseIdx i⟩)] :=
  del_lift Try.func117 rfl rfl delT rows i n hn hi
end Go.Proofs.Ytabejnjnkpdjbaa.Sim

/- A family less one; out. -/
namespace Go.Proofs.Ytabejnjnkpdjbaa.Sim
set_option linter.unusedVariables false
set_option linter.unusedSimpArgs false
open Go.RowKit Mem
section
variable {C : Ctx} {bx : List (Nat × List A)} {ow : List (Nat × Own)} {w : World} {m : Mm} {g : Gh} {N : Nat} {tm : List (Nat × A)}
theorem EnvG.turn (he : EnvG C bx ow w m g) {i : Nat} {R R' : Rsc} (hc : chB i = true) (hb : get bx i = some [.rs R]) (hR : ∀ w m S rp, R.R w m S rp → R'.R w m S rp) : EnvG C ((i, [.rs R']) :: bx) ow w m g := by
  obtain ⟨r1, r2, r3⟩ := he.rs
  have hbx : ∀ k cs, get ((i, [A.rs R']) :: bx) k = some cs → (k = i ∧ cs = [A.rs R']) ∨ (k ≠ i ∧ get bx k = some cs) := fun k cs hk => by
    rw [get_cons] at hk
    by_cases e : i = k
    · subst e; rw [if_pos rfl] at hk; injection hk with hk; exact .inl ⟨rfl, hk.symm⟩
    · rw [if_neg e] at hk; exact .inr ⟨fun e' => e e'.symm, hk⟩
  have hbc : ∀ k cs, get ((i, [A.rs R']) :: bx) k = some cs → chB k = false → get bx k = some cs := fun k cs hk hck => by
    rcases hbx k cs hk with ⟨rfl, _⟩ | ⟨_, h⟩
    · rw [hc] at hck; cases hck
    · exact h
  have hrs : ∀ k R1, get ((i, [A.rs R']) :: bx) k = some [.rs R1] → ∃ R0, get bx k = some [.rs R0] ∧ ∀ w m S rp, R0.R w m S rp → R1.R w m S rp := fun k R1 hk => by
    rcases hbx k _ hk with ⟨rfl, h2⟩ | ⟨_, h⟩
    · injection h2 with h2; injection h2 with h2; subst h2; exact ⟨R, hb, hR⟩
    · exact ⟨R1, h, fun _ _ _ _ h => h⟩
  exact {
    lo := he.lo, gm := he.gm, sub := he.sub, ext := he.ext, gt := he.gt
    lb := fun k => by
      rw [get_cons]
      by_cases e : i = k
      · subst e; rw [if_pos rfl, he.lb i, hb]; rfl
      · rw [if_neg e]; exact he.lb k
    lw := he.lw, ln := he.ln
    boxes := fun k cs hk hck => he.boxes k cs (hbc k cs hk hck) hck
    inj := fun p q cp cq h1 h2 h3 h4 => he.inj p q cp cq (hbc p cp h1 h3) (hbc q cq h2 h4) h3 h4
    owns := fun k ok hk => by
      obtain ⟨us, h1, h2, h3, h4⟩ := he.owns k ok hk
      exact ⟨us, h1, h2, h3, fun c hcu => ⟨(h4 c hcu).1, fun q cs hq hcq => (h4 c hcu).2.1 q cs (hbc q cs hq hcq) hcq, (h4 c hcu).2.2⟩⟩
    apart := he.apart
    pin := he.pin
    pinb := fun k cs hk hk2 => by
      rcases hbx k cs hk with ⟨rfl, _⟩ | ⟨_, h⟩
      · exact he.pinb k _ hb hk2
      · exact he.pinb k cs h hk2
    rs := by
      refine ⟨fun k R1 hck hk => ?_, fun p q R1 R2 hcp hcq h1 h2 hpq c hcc => ?_, fun k cs hck hk hk2 => ?_⟩
      · obtain ⟨R0, h0, h1⟩ := hrs k R1 hk
        obtain ⟨e1, e2⟩ := r1 k R0 hck h0
        refine ⟨h1 _ _ _ _ e1, fun c hcs => ?_⟩
        obtain ⟨e3, e4, e5, e6⟩ := e2 c hcs
        exact ⟨e3, e4, fun q cs hq hcq => e5 q cs (hbc q cs hq hcq) hcq, e6⟩
      · obtain ⟨R01, h01, _⟩ := hrs p R1 h1
        obtain ⟨R02, h02, _⟩ := hrs q R2 h2
        exact r2 p q R01 R02 hcp hcq h01 h02 hpq c hcc
      · rcases hbx k cs hk with ⟨rfl, _⟩ | ⟨_, h⟩
        · exact r3 k _ hck hb hk2
        · exact r3 k cs hck h hk2 }
theorem famAt_drop {a b : List (Value × Own)} {x : Value × Own} {S : Nat → Bool} (h : FamAt (a ++ x :: b) w m S) : FamAt (a ++ b) w m S := by
  obtain ⟨h1, h2, h3⟩ := h
  refine ⟨h1, fun j p hj => h2 _ p ((ins_get j).trans hj), fun p q y z hp hq hpq b0 hb0 => h3 _ _ y z ((ins_get p).trans hp) ((ins_get q).trans hq) (fun e => hpq ?_) b0 hb0⟩
  split at e <;> split at e <;> omega
theorem weak_dropF (i : Nat) (a b : List (Value × Own)) (x : Value × Own) (hb : get bx i = some [.rs (FamR (a ++ x :: b))]) (hc : chB i = true := by rfl) : Weak N ⟨tm, bx, ow⟩ ⟨tm, (i, [.rs (FamR (a ++ b))]) :: bx, ow⟩ := .mk fun C ac w ⟨m, g, hr⟩ =>
  ⟨m, g, hr.env.turn hc hb (fun _ _ _ _ h => famAt_drop h), hr.size, hr.defers, hr.tmps⟩
end
def outW (W : PWk) (A B : List ATun) (a : ATun) (why : Int) : PWk := { failW W a.t.asks why with tuns := A ++ B }
theorem tunO_at {A B : List ATun} {a : ATun} : ((A ++ a :: B).map tunR)[A.length]? = some (tunR a) := by
  rw [List.map_append, List.map_cons, List.getElem?_append_right (by rw [List.length_map]; exact Nat.le_refl _), List.length_map, Nat.sub_self]; rfl
theorem tunO_del {A B : List ATun} {a : ATun} : ((A ++ a :: B).map tunR).eraseIdx A.length = (A ++ B).map tunR := by
  rw [List.map_append, List.map_cons, List.eraseIdx_append_of_length_le (by rw [List.length_map]; exact Nat.le_refl _), List.length_map, Nat.sub_self, List.map_append]; rfl
def SOt1 (W : PWk) (A B : List ATun) (a : ATun) (why : Int) : St := ⟨[(0, .bp 2000 0), (1, .t (.v (.int .i64 (A.length : Int)))), (2, .t (i64T why))], wB 2000 3000 2001 2002 1003 (failW W a.t.asks why), wO 2001 2002 1003 (failW W a.t.asks why)⟩
set_option maxRecDepth 100000 in
set_option maxHeartbeats 2000000 in
theorem out_ (W : PWk) (A B : List ATun) (a : ATun) (why : Int) (hW : W.tuns = A ++ a :: B) (ha : a.t.asks.length ≤ 1000) (hf : W.fails.length ≤ 1000000) (hn : W.tuns.length ≤ 1000) : LCalls Try.prog 74 [.bp 2000 0, .t (.v (.int .i64 (A.length : Int))), .t (i64T why)] (wB 2000 3000 2001 2002 2003 W) (wO 2001 2002 2003 W) (resA []) (wB 2000 3000 1001 2002 1003 (outW W A B a why)) (wO 1001 2002 1003 (outW W A B a why)) := by
  have c1 := fail_ W A B a why hW ha hf
  obtain ⟨wn, wi, wx, now, tuns, dos, fails⟩ := W
  dsimp only at hW hf hn
  subst hW
  have hat : ((A ++ a :: B).map tunR)[A.length]? = some (tunR a) := tunO_at
  have hlt : A.length < (A ++ a :: B).length := by rw [List.length_append, List.length_cons]; omega
  have hml : ((A ++ a :: B).map tunR).length = (A ++ a :: B).length := List.length_map _
  refine lcalls_of Try.func74 rfl rfl Try.ntmps74 rfl ?_
  refine swp_up ?_
  unfold wB wO wC
  repeat' (first | (refine rg 0 ?_; refine oMv ?_; refine oMv ?_; refine sp (po_nilcheck rfl rfl) ?_; refine oFb ?_; refine oFb ?_; (first | refine sp (po_load_own_agg (ts := tunR a) rfl rfl rfl hml.symm (tyT rfl) hat rfl rfl) ?_ | refine oLb ?_); refine aq4 ?_; refine sp (po_load_own_agg (ts := tunR a) rfl rfl rfl hml.symm (tyT rfl) hat rfl rfl) ?_; refine oMv ?_; refine sops_lcall (c1) (fun i => i) (fun i => i) (fun _ => false) (.free rfl rfl) rfl rfl rfl (by ((repeat' (first | exact .nil | refine .cons rfl rfl rfl ?_)) <;> fail)) (.cons rfl rfl (.cons rfl rfl .nil)) (.cons rfl rfl (.cons rfl rfl (.cons rfl rfl .nil))) rfl rfl (fun _ h => Bool.noConfusion h) ?_; refine oN ?_) | refine gc ?_ | refine ct ?_ | refine cf ?_ | refine sc ?_ ?_ <;> intro hc | refine rq rfl .nil ?_)
  refine swp_weak (st' := SOt1 ⟨wn, wi, wx, now, A ++ a :: B, dos, fails⟩ A B a why) (weak_sub (.cons rfl rfl rfl (.cons rfl rfl rfl (.cons rfl rfl rfl .nil))) (.cons rfl rfl rfl (.cons rfl rfl rfl .nil)) (.cons rfl rfl (.cons rfl rfl (.cons rfl rfl .nil)))) ?_
  unfold SOt1 wB wO wC failW outW
  dsimp only
  have c2 := delTs ((A ++ a :: B).map tunR) A.length (A ++ a :: B).length hml.symm (by rw [hml]; exact hlt)
  rw [tunO_del, show (A ++ a :: B).length - 1 = (A ++ B).length by rw [List.length_append, List.length_append, List.length_cons]; omega] at c2
  rw [famT_open, famT_app]
  repeat' (first | refine gc ?_ | refine up_to (weak_dropF 3000 (famT A) (famT B) (a.u, askO a.t) rfl) ?_ | (refine rg 1 ?_; refine oMv ?_; refine oMv ?_; refine sp (po_nilcheck rfl rfl) ?_; refine oFb ?_; refine oFb ?_; refine oLb ?_; refine oMv ?_; refine oMv ?_; refine sp (xinc rfl) ?_; refine sops_lcall (c2) (fun i => i) (fun i => i) (fun _ => false) (.free rfl rfl) rfl rfl rfl (by ((repeat' (first | exact .nil | refine .cons rfl rfl rfl ?_)) <;> fail)) .nil (.cons rfl rfl .nil) rfl rfl (fun _ h => Bool.noConfusion h) ?_; refine sp (po_nilcheck rfl rfl) ?_; refine oFb ?_; refine oFb ?_; refine oS ?_; refine oN ?_) | refine ct ?_ | refine cf ?_ | refine sc ?_ ?_ <;> intro hc | refine retl (by first | exact .inr rfl | exact .inl rfl) rfl .nil ?_ rfl (.cons rfl (by rfl) rfl (.cons rfl (by rfl) rfl .nil)) (.cons rfl (by rfl) (.cons rfl (by rfl) (.cons rfl (by rfl) .nil))))
  rfl
end Go.Proofs.Ytabejnjnkpdjbaa.Sim

/- goes, open. -/
namespace Go.Proofs.Ytabejnjnkpdjbaa.Sim
set_option linter.unusedVariables false
set_option linter.unusedSimpArgs false
open Go.RowKit Mem
def clsD (t : PTun) : PDo := ⟨3, t.peer, t.node, t.inc, t.num, 0, 0, 0, 0, none⟩
def opnD (t : PTun) : PDo := ⟨1, t.peer, t.node, t.inc, t.num, t.src, t.duid, t.daddr, t.dport, none⟩
def addD (W : PWk) (d : PDo) : PWk := { W with dos := W.dos ++ [d] }
def goW (W : PWk) (A B : List ATun) (a : ATun) (why : Int) : PWk := outW (addD W (clsD a.t)) A B a why
theorem doO_app (l : List PDo) (d : PDo) : (⟨84, 18, l.map doR ++ [doR d]⟩ : Own) = doO (l ++ [d]) := by unfold doO; rw [List.map_append]; rfl
theorem doN_app (l : List PDo) (d : PDo) : (l.map doR ++ [doR d]).length = (l ++ [d]).length := by rw [List.length_append, List.length_append, List.length_map]; rfl
def SGo (W : PWk) (A : List ATun) (why : Int) : St := ⟨[(0, .bp 2000 0), (1, .t (.v (.int .i64 (A.length : Int)))), (2, .t (i64T why))], wB 2000 3000 2001 1002 2003 W, wO 2001 1002 2003 W⟩
set_option maxRecDepth 100000 in
set_option maxHeartbeats 2000000 in
theorem goes_ (W : PWk) (A B : List ATun) (a : ATun) (why : Int) (hW : W.tuns = A ++ a :: B) (ha : a.t.asks.length ≤ 1000) (hf : W.fails.length ≤ 1000000) (hn : W.tuns.length ≤ 1000) (hd : W.dos.length ≤ 1000000) : LCalls Try.prog 78 [.bp 2000 0, .t (.v (.int .i64 (A.length : Int))), .t (i64T why)] (wB 2000 3000 2001 2002 2003 W) (wO 2001 2002 2003 W) (resA []) (wB 2000 3000 1001 1002 1003 (goW W A B a why)) (wO 1001 1002 1003 (goW W A B a why)) := by
  have c1 := out_ (addD W (clsD a.t)) A B a why hW ha hf hn
  unfold goW
  obtain ⟨wn, wi, wx, now, tuns, dos, fails⟩ := W
  dsimp only at hW hf hn hd
  subst hW
  have hat : ((A ++ a :: B).map tunR)[A.length]? = some (tunR a) := tunO_at
  have hlt : A.length < (A ++ a :: B).length := by rw [List.length_append, List.length_cons]; omega
  have hml : ((A ++ a :: B).map tunR).length = (A ++ a :: B).length := List.length_map _
  refine lcalls_of Try.func78 rfl rfl Try.ntmps78 rfl ?_
  unfold wB wO wC
  refine swp_weak (weak_ren 2002 1002 rfl rfl rfl rfl rfl rfl rfl) ?_
  repeat' (first | (refine rg 0 ?_; refine oMv ?_; refine sp (po_nilcheck rfl rfl) ?_; refine oFb ?_; refine oFb ?_; (first | refine sp (po_load_own_agg (ts := tunR a) rfl rfl rfl hml.symm (tyT rfl) hat rfl rfl) ?_ | refine oLb ?_); refine aq4 ?_; refine sp (po_load_own_agg (ts := tunR a) rfl rfl rfl hml.symm (tyT rfl) hat rfl rfl) ?_; refine sal str118 ?_; refine aq12 ?_) | ((refine swp_any (id := 1) [[], [], [], [], [], [], [], [], [], [], [], [1002], [], [], [2000]] [[1002], [], [], [], [], [], [], [], [], [], [], [], [], [], []] mixed (by kernel_rfl) ?_) <;> (first | refine yp (fun _ _ => po_load_own_agg (ts := tunR a) rfl rfl rfl hml.symm (tyT rfl) hat rfl rfl) ?_ | refine yp (fun _ _ => po_move rfl rfl) ?_) <;> (first | refine yp (fun _ _ => po_load_own_agg (ts := tunR a) rfl rfl rfl hml.symm (tyT rfl) hat rfl rfl) ?_ | refine yp (fun _ _ => po_move rfl rfl) ?_) <;> (first | refine yp (fun _ _ => po_load_own_agg (ts := tunR a) rfl rfl rfl hml.symm (tyT rfl) hat rfl rfl) ?_ | refine yp (fun _ _ => po_nilcheck rfl rfl) ?_) <;> (first | refine yp (fun _ _ => po_load_own_agg (ts := tunR a) rfl rfl rfl hml.symm (tyT rfl) hat rfl rfl) ?_ | refine yp (fun _ _ => po_field_bx rfl rfl (tyF rfl)) ?_) <;> (first | refine yp (fun _ _ => po_load_own_agg (ts := tunR a) rfl rfl rfl hml.symm (tyT rfl) hat rfl rfl) ?_ | refine yp (fun _ _ => po_load_bx rfl rfl (tyT rfl) rfl rfl) ?_) <;> (first | refine yp (fun _ _ => po_load_own_agg (ts := tunR a) rfl rfl rfl hml.symm (tyT rfl) hat rfl rfl) ?_ | refine yp (fun _ _ => po_field_bx rfl rfl (tyF rfl)) ?_) <;> (first | refine yp (fun _ _ => po_load_own_agg (ts := tunR a) rfl rfl rfl hml.symm (tyT rfl) hat rfl rfl) ?_ | refine yp (fun _ _ => po_load_bx rfl rfl (tyT rfl) rfl rfl) ?_) <;> (first | refine yp (fun _ _ => po_load_own_agg (ts := tunR a) rfl rfl rfl hml.symm (tyT rfl) hat rfl rfl) ?_ | refine yp (fun _ _ => po_field_bx rfl rfl (tyF rfl)) ?_) <;> (first | refine yp (fun _ _ => po_load_own_agg (ts := tunR a) rfl rfl rfl hml.symm (tyT rfl) hat rfl rfl) ?_ | refine yp (fun _ _ => po_load_bx_agg rfl rfl (tyT rfl) rfl (vc (vc (vc .nil))) rfl) ?_) <;> (first | refine yp (fun _ _ => po_load_own_agg (ts := tunR a) rfl rfl rfl hml.symm (tyT rfl) hat rfl rfl) ?_ | refine yp (fun _ _ => po_buildS str84 rfl (pc (pc (pc .nil))) rfl) ?_) <;> (first | refine yp (fun _ _ => po_load_own_agg (ts := tunR a) rfl rfl rfl hml.symm (tyT rfl) hat rfl rfl) ?_ | refine yp (fun _ _ => po_buildSlice rfl (tyE rfl) (dc (.nil _)) rfl rfl rfl) ?_) <;> refine sany_eff [] [(1002, _)] (.free rfl rfl) rfl rfl (fun _ _ _ _ => e_append rfl rfl rfl (by first | rfl | simp) rfl (by exact .t _) (tyE rfl) (by first | assumption | (simp only [List.length_map, List.length_cons, List.length_nil]; omega)) (by first | assumption | (unfold maxLen; simp only [List.length_map, List.length_cons, List.length_nil]; omega))) ?_ <;> (first | refine yp (fun _ _ => po_load_own_agg (ts := tunR a) rfl rfl rfl hml.symm (tyT rfl) hat rfl rfl) ?_ | refine yp (fun _ _ => po_nilcheck rfl rfl) ?_) <;> (first | refine yp (fun _ _ => po_load_own_agg (ts := tunR a) rfl rfl rfl hml.symm (tyT rfl) hat rfl rfl) ?_ | refine yp (fun _ _ => po_field_bx rfl rfl (tyF rfl)) ?_) <;> refine sany_eff [(2000, _)] [] (.free rfl rfl) rfl rfl (fun _ _ _ _ => e_store rfl rfl rfl rfl rfl rfl (tyT rfl) rfl rfl) ?_ <;> refine sany_nil ?_) | refine gc ?_ | refine ct ?_ | refine cf ?_ | refine sc ?_ ?_ <;> intro hc | refine rq rfl .nil ?_)
  have e1 := doO_app dos (clsD a.t)
  have e2 := doN_app dos (clsD a.t)
  refine swp_weak (st' := SGo (addD ⟨wn, wi, wx, now, A ++ a :: B, dos, fails⟩ (clsD a.t)) A why) (weak_sub (.cons rfl (by first | rfl | (first | (exact e1) | (exact congrArg (fun n => [Sim.A.t (i64T wn), Sim.A.t (u64T wi), Sim.A.t (u64T wx), Sim.A.own 2001 (A ++ a :: B).length, Sim.A.t (u64T now), Sim.A.own 1002 n, Sim.A.own 2003 fails.length]) e2))) rfl (.cons rfl (by first | rfl | (first | (exact e1) | (exact congrArg (fun n => [Sim.A.t (i64T wn), Sim.A.t (u64T wi), Sim.A.t (u64T wx), Sim.A.own 2001 (A ++ a :: B).length, Sim.A.t (u64T now), Sim.A.own 1002 n, Sim.A.own 2003 fails.length]) e2))) rfl (.cons rfl (by first | rfl | (first | (exact e1) | (exact congrArg (fun n => [Sim.A.t (i64T wn), Sim.A.t (u64T wi), Sim.A.t (u64T wx), Sim.A.own 2001 (A ++ a :: B).length, Sim.A.t (u64T now), Sim.A.own 1002 n, Sim.A.own 2003 fails.length]) e2))) rfl .nil))) (.cons rfl (by first | rfl | (first | (exact e1) | (exact congrArg (fun n => [Sim.A.t (i64T wn), Sim.A.t (u64T wi), Sim.A.t (u64T wx), Sim.A.own 2001 (A ++ a :: B).length, Sim.A.t (u64T now), Sim.A.own 1002 n, Sim.A.own 2003 fails.length]) e2))) rfl (.cons rfl (by first | rfl | (first | (exact e1) | (exact congrArg (fun n => [Sim.A.t (i64T wn), Sim.A.t (u64T wi), Sim.A.t (u64T wx), Sim.A.own 2001 (A ++ a :: B).length, Sim.A.t (u64T now), Sim.A.own 1002 n, Sim.A.own 2003 fails.length]) e2))) rfl .nil)) (.cons rfl (by first | rfl | (first | (exact e1) | (exact congrArg (fun n => [Sim.A.t (i64T wn), Sim.A.t (u64T wi), Sim.A.t (u64T wx), Sim.A.own 2001 (A ++ a :: B).length, Sim.A.t (u64T now), Sim.A.own 1002 n, Sim.A.own 2003 fails.length]) e2))) (.cons rfl (by first | rfl | (first | (exact e1) | (exact congrArg (fun n => [Sim.A.t (i64T wn), Sim.A.t (u64T wi), Sim.A.t (u64T wx), Sim.A.own 2001 (A ++ a :: B).length, Sim.A.t (u64T now), Sim.A.own 1002 n, Sim.A.own 2003 fails.length]) e2))) (.cons rfl (by first | rfl | (first | (exact e1) | (exact congrArg (fun n => [Sim.A.t (i64T wn), Sim.A.t (u64T wi), Sim.A.t (u64T wx), Sim.A.own 2001 (A ++ a :: B).length, Sim.A.t (u64T now), Sim.A.own 1002 n, Sim.A.own 2003 fails.length]) e2))) .nil)))) ?_
  unfold SGo wB wO wC
  repeat' (first | (refine rg 2 (aq6 ?_); refine sops_lcall (c1) (fun i => i) (fun i => bif Nat.beq i 2002 then 1002 else i) (fun _ => false) (.free rfl rfl) rfl rfl rfl (by ((repeat' (first | exact .nil | refine .cons rfl rfl rfl ?_)) <;> fail)) (.cons rfl rfl (.cons rfl rfl .nil)) (.cons rfl rfl (.cons rfl rfl (.cons rfl rfl .nil))) rfl rfl (fun _ h => Bool.noConfusion h) ?_; refine oN ?_) | refine gc ?_ | refine ct ?_ | refine cf ?_ | refine sc ?_ ?_ <;> intro hc | refine retl (by first | exact .inr rfl | exact .inl rfl) rfl .nil ?_ rfl (.cons rfl (by rfl) rfl (.cons rfl (by rfl) rfl .nil)) (.cons rfl (by rfl) (.cons rfl (by rfl) (.cons rfl (by rfl) .nil))))
  rfl
def sinT (now : Int) (t : PTun) : PTun := { t with since := now }
def openW (W : PWk) (A B : List ATun) (a : ATun) : PWk := { addD W (opnD a.t) with tuns := A ++ ⟨sinT W.now a.t, a.u⟩ :: B }
theorem tunO_set {A B : List ATun} {a : ATun} (b : ATun) : ((A ++ a :: B).map tunR).set A.length (tunR b) = (A ++ b :: B).map tunR := by
  rw [List.map_append, List.map_cons, List.set_append_right _ _ (by rw [List.length_map]; exact Nat.le_refl _), List.length_map, Nat.sub_self, List.set_cons_zero, List.map_append]; rfl
theorem len_mid {α : Type} {A B : List α} {a b : α} : (A ++ a :: B).length = (A ++ b :: B).length := by rw [List.length_append, List.length_append]; rfl
def SOp (W : PWk) (A : List ATun) : St := ⟨[(0, .bp 2000 0), (1, .oe 2001 W.tuns.length 14 A.length 0)], wX 2000 2001 1002 2003 W, wO 2001 1002 2003 W⟩
set_option maxRecDepth 100000 in
set_option maxHeartbeats 2000000 in
theorem open_ (W : PWk) (A B : List ATun) (a : ATun) (hW : W.tuns = A ++ a :: B) (hd : W.dos.length ≤ 1000000) : LCalls Try.prog 72 [.bp 2000 0, .oe 2001 W.tuns.length 14 A.length 0] (wX 2000 2001 2002 2003 W) (wO 2001 2002 2003 W) (resA []) (wX 2000 2001 1002 2003 (openW W A B a)) (wO 2001 1002 2003 (openW W A B a)) := by
  unfold openW
  obtain ⟨wn, wi, wx, now, tuns, dos, fails⟩ := W
  dsimp only at hW hd
  subst hW
  have hat : ((A ++ a :: B).map tunR)[A.length]? = some (tunR a) := tunO_at
  have hlt : A.length < (A ++ a :: B).length := by rw [List.length_append, List.length_cons]; omega
  have hml : ((A ++ a :: B).map tunR).length = (A ++ a :: B).length := List.length_map _
  have hml' := hml.symm
  refine lcalls_of Try.func72 rfl rfl Try.ntmps72 rfl ?_
  unfold wX wO wC
  refine swp_weak (weak_ren 2002 1002 rfl rfl rfl rfl rfl rfl rfl) ?_
  repeat' (first | (refine rg 0 ?_; refine oMv ?_; refine oMv ?_; refine sp (po_nilcheck rfl rfl) ?_; refine oFb ?_; refine oLb ?_; (first | refine sp (po_nilcheck rfl rfl) ?_ | refine sp (po_nilcheck_oe rfl rfl rfl (by first | rfl | assumption)) ?_); refine aq13 ?_) | refine gc ?_ | refine ct ?_ | refine cf ?_ | refine sc ?_ ?_ <;> intro hc | refine rq rfl .nil ?_)
  have hset := tunO_set (A := A) (B := B) (a := a) ⟨sinT now a.t, a.u⟩
  have hset' := congrArg (fun r => (⟨118, 14, r⟩ : Own)) hset
  have hlm : (A ++ a :: B).length = (A ++ (⟨sinT now a.t, a.u⟩ : ATun) :: B).length := len_mid
  refine swp_weak (st' := SOp ⟨wn, wi, wx, now, A ++ ⟨sinT now a.t, a.u⟩ :: B, dos, fails⟩ A) (weak_sub (.cons rfl (by first | rfl | (first | (exact hset') | (rw [hlm]; rfl))) rfl (.cons rfl (by first | rfl | (first | (exact hset') | (rw [hlm]; rfl))) rfl .nil)) (.cons rfl (by first | rfl | (first | (exact hset') | (rw [hlm]; rfl))) rfl .nil) (.cons rfl (by first | rfl | (first | (exact hset') | (rw [hlm]; rfl))) (.cons rfl (by first | rfl | (first | (exact hset') | (rw [hlm]; rfl))) (.cons rfl (by first | rfl | (first | (exact hset') | (rw [hlm]; rfl))) .nil)))) ?_
  unfold SOp wX wO wC
  dsimp only
  rw [← hlm]
  have hat2 : ((A ++ (⟨sinT now a.t, a.u⟩ : ATun) :: B).map tunR)[A.length]? = some (tunR ⟨sinT now a.t, a.u⟩) := tunO_at
  have hml2 : (A ++ a :: B).length = ((A ++ (⟨sinT now a.t, a.u⟩ : ATun) :: B).map tunR).length := by rw [List.length_map]; exact hlm
  repeat' (first | ((refine swp_any (id := 1) [[], [], [], [], [], [], [], [], [], [], [], [], [], [], [], [], [], [], [], [], [], [], [], [1002], [], [], [2000]] [[1002], [], [], [], [], [], [], [], [], [], [], [], [], [], [], [], [], [], [], [], [], [], [], [], [], [], []] mixed (by kernel_rfl) ?_) <;> refine yp (fun _ _ => po_move rfl rfl) ?_ <;> refine yp (fun _ _ => po_move rfl rfl) ?_ <;> refine yp (fun _ _ => po_nilcheck rfl rfl) ?_ <;> refine yp (fun _ _ => po_field_bx rfl rfl (tyF rfl)) ?_ <;> refine yp (fun _ _ => po_load_bx rfl rfl (tyT rfl) rfl rfl) ?_ <;> refine yp (fun _ _ => po_move rfl rfl) ?_ <;> (first | refine yp (fun _ _ => po_nilcheck rfl rfl) ?_ | refine yp (fun _ _ => po_nilcheck_oe rfl rfl rfl (by first | rfl | assumption)) ?_) <;> (first | refine yp (fun _ _ => po_field_bx rfl rfl (tyF rfl)) ?_ | refine yp (fun _ _ => po_field rfl rfl (tyF rfl)) ?_ | refine yp (fun _ _ => po_field_own rfl rfl rfl (by first | rfl | assumption) (tyF rfl)) ?_) <;> (first | refine yp (fun _ _ => po_load_bx rfl rfl (tyT rfl) rfl rfl) ?_ | refine yp (fun _ _ => po_load rfl rfl (tyT rfl) rfl) ?_ | refine yp (fun _ _ => po_load_own rfl rfl rfl (by first | rfl | assumption) (tyT rfl) (by first | rfl | assumption) rfl) ?_) <;> refine yp (fun _ _ => po_move rfl rfl) ?_ <;> (first | refine yp (fun _ _ => po_nilcheck rfl rfl) ?_ | refine yp (fun _ _ => po_nilcheck_oe rfl rfl rfl (by first | rfl | assumption)) ?_) <;> (first | refine yp (fun _ _ => po_field_bx rfl rfl (tyF rfl)) ?_ | refine yp (fun _ _ => po_field rfl rfl (tyF rfl)) ?_ | refine yp (fun _ _ => po_field_own rfl rfl rfl (by first | rfl | assumption) (tyF rfl)) ?_) <;> (first | refine yp (fun _ _ => po_load_bx_agg rfl rfl (tyT rfl) rfl (vc (vc (vc .nil))) rfl) ?_ | refine yp (fun _ _ => po_load_agg rfl rfl (tyT rfl) rfl rfl) ?_ | refine yp (fun _ _ => po_load_own_agg rfl rfl rfl (by first | rfl | assumption) (tyT rfl) (by first | rfl | assumption) rfl rfl) ?_) <;> refine yp (fun _ _ => po_move rfl rfl) ?_ <;> (first | refine yp (fun _ _ => po_nilcheck rfl rfl) ?_ | refine yp (fun _ _ => po_nilcheck_oe rfl rfl rfl (by first | rfl | assumption)) ?_) <;> (first | refine yp (fun _ _ => po_field_bx rfl rfl (tyF rfl)) ?_ | refine yp (fun _ _ => po_field rfl rfl (tyF rfl)) ?_ | refine yp (fun _ _ => po_field_own rfl rfl rfl (by first | rfl | assumption) (tyF rfl)) ?_) <;> (first | refine yp (fun _ _ => po_load_bx rfl rfl (tyT rfl) rfl rfl) ?_ | refine yp (fun _ _ => po_load rfl rfl (tyT rfl) rfl) ?_ | refine yp (fun _ _ => po_load_own rfl rfl rfl (by first | rfl | assumption) (tyT rfl) (by first | rfl | assumption) rfl) ?_) <;> refine yp (fun _ _ => po_move rfl rfl) ?_ <;> (first | refine yp (fun _ _ => po_nilcheck rfl rfl) ?_ | refine yp (fun _ _ => po_nilcheck_oe rfl rfl rfl (by first | rfl | assumption)) ?_) <;> (first | refine yp (fun _ _ => po_field_bx rfl rfl (tyF rfl)) ?_ | refine yp (fun _ _ => po_field rfl rfl (tyF rfl)) ?_ | refine yp (fun _ _ => po_field_own rfl rfl rfl (by first | rfl | assumption) (tyF rfl)) ?_) <;> (first | refine yp (fun _ _ => po_load_bx_agg rfl rfl (tyT rfl) rfl (vc (vc (vc .nil))) rfl) ?_ | refine yp (fun _ _ => po_load_agg rfl rfl (tyT rfl) rfl rfl) ?_ | refine yp (fun _ _ => po_load_own_agg rfl rfl rfl (by first | rfl | assumption) (tyT rfl) (by first | rfl | assumption) rfl rfl) ?_) <;> (refine yp (fun _ _ => po_buildS str84 rfl (pc (pc (pc (pc (pc .nil))))) rfl) ?_) <;> refine yp (fun _ _ => po_buildSlice rfl (tyE rfl) (dc (.nil _)) rfl rfl rfl) ?_ <;> refine sany_eff [] [(1002, _)] (.free rfl rfl) rfl rfl (fun _ _ _ _ => e_append rfl rfl rfl (by first | rfl | simp) rfl (by exact .t _) (tyE rfl) (by first | assumption | (simp only [List.length_map, List.length_cons, List.length_nil]; omega)) (by first | assumption | (unfold maxLen; simp only [List.length_map, List.length_cons, List.length_nil]; omega))) ?_ <;> refine yp (fun _ _ => po_nilcheck rfl rfl) ?_ <;> refine yp (fun _ _ => po_field_bx rfl rfl (tyF rfl)) ?_ <;> refine sany_eff [(2000, _)] [] (.free rfl rfl) rfl rfl (fun _ _ _ _ => e_store rfl rfl rfl rfl rfl rfl (tyT rfl) rfl rfl) ?_ <;> refine sany_nil ?_) | refine gc ?_ | refine ct ?_ | refine cf ?_ | refine sc ?_ ?_ <;> intro hc | refine rq rfl .nil ?_)
  refine retl (.inl rfl) rfl .nil rfl rfl (.cons rfl ?_ rfl .nil) (.cons rfl rfl (.cons rfl ?_ (.cons rfl rfl .nil)))
  · exact congrArg (fun n => [Sim.A.t (i64T wn), Sim.A.t (u64T wi), Sim.A.t (u64T wx), Sim.A.own 2001 (A ++ a :: B).length, Sim.A.t (u64T now), Sim.A.own 1002 n, Sim.A.own 2003 fails.length]) (doN_app dos (opnD a.t))
  · exact doO_app dos (opnD a.t)
end Go.Proofs.Ytabejnjnkpdjbaa.Sim
