/- Merged by bundles.py: Rel09, SimHd1, SimHd4, SimStr. -/
import Derived.Test.YtloippgblkoemaaGreatDoorO12
import Derived.Test.YtloippgblkoemaaGreatDoorO6
import Derived.Test.YtloippgblkoemaaGreatDoorO11
/- Headers: in memory, opened, as trees of data. -/
namespace Go.Proofs.YtloippgblkoemaaGreatDoor.Pl
set_option linter.unusedVariables false
set_option linter.unusedSimpArgs false
structure Head where
  name : ByteArray
  value : ByteArray
deriving Inhabited
end Go.Proofs.YtloippgblkoemaaGreatDoor.Pl
namespace Go.Proofs.YtloippgblkoemaaGreatDoor.Hd
set_option linter.unusedVariables false
set_option linter.unusedSimpArgs false
open Go.RowKit Go.WideShapes Go.ChangeShapes Go.Joins Mem Sim Opn
def HeadR : Rel Pl.Head := fun _ _ h cs => cs = [.string h.name, .string h.value] ∧ h.name.size ≤ maxLen ∧ h.value.size ≤ maxLen
theorem HeadR.kept : Kept HeadR := fun _ _ _ _ _ _ h _ _ => h
theorem one_string : Tryz.prog.cellsOf 9 = 1 := by kernel_rfl
theorem cells_Head : Tryz.prog.cellsOf 65 = 2 := by kernel_rfl
set_option maxRecDepth 100000 in
theorem head_opens : Opens 65 HeadR := by
  intro H enc w base spare held fuel cs x h
  obtain ⟨xs, n, _, hx, hlen, hxl, hf⟩ := DataW.trod_struct Tryz.underlying65 h
  have hl := hlen.trans cells_Head
  obtain ⟨c0, c1, rfl⟩ : ∃ c0 c1, cs = [c0, c1] := by
    match cs, hl with
    | [c0, c1], _ => exact ⟨c0, c1, rfl⟩
  obtain ⟨y0, y1, rfl⟩ : ∃ y0 y1, xs = [y0, y1] := by
    match xs, hxl with
    | [y0, y1], _ => exact ⟨y0, y1, rfl⟩
  have f0 : DataW.trod enc Tryz.prog w base spare held n 9 [c0] = some y0 := by
    have := hf 0 _ rfl
    simpa [one_string] using this
  obtain ⟨v0, r0, z0⟩ := (opens_str Tryz.underlying9) H enc w base spare held n [c0] y0 f0
  have f1 : DataW.trod enc Tryz.prog w base spare held n 9 [c1] = some y1 := by
    have := hf 1 _ rfl
    simpa [one_string] using this
  obtain ⟨v1, r1, z1⟩ := (opens_str Tryz.underlying9) H enc w base spare held n [c1] y1 f1
  injection r0 with r0; injection r1 with r1; subst r0 r1
  exact ⟨⟨v0, v1⟩, rfl, z0, z1⟩
theorem heads_opens : Opens 22 (SliceC HeadR 2) := opens_slice (R := HeadR) Tryz.underlying22 cells_Head (by omega) head_opens
def headT (x : Pl.Head) : List T := [.v (.string x.name), .v (.string x.value)]
abbrev headsT (l : List Pl.Head) : T := .sl 2 (l.map headT)
def okHead (x : Pl.Head) : Prop := x.name.size ≤ maxLen ∧ x.value.size ≤ maxLen
theorem heads_ok {B : Nat} {w : World} {A : Option Addr} {l : List Pl.Head} (hA : SliceAt HeadR 2 B w A l) : ∀ h ∈ l, okHead h := fun h hh => by
  obtain ⟨k, hk⟩ := List.getElem?_of_mem hh
  obtain ⟨b, off, cs, _, _, _, _, hr⟩ := hA k h hk
  exact hr.2
end Go.Proofs.YtloippgblkoemaaGreatDoor.Hd

/- Headers: All, MayValue, Long: walks. -/
namespace Go.Proofs.YtloippgblkoemaaGreatDoor.Hd
set_option linter.unusedVariables false
set_option linter.unusedSimpArgs false
open Go.RowKit Mem Sim Opn
def strT (s : ByteArray) : List T := [.v (.string s)]
def valsOf (n : ByteArray) (l : List Pl.Head) : List ByteArray := (l.filter fun h => decide (h.name = n)).map (·.value)
theorem valsOf_yes {n : ByteArray} {l : List Pl.Head} {k : Nat} (hk : k < l.length) (h : decide (l[k].name = n) = true) : (valsOf n (l.take (k + 1))).map strT = (valsOf n (l.take k)).map strT ++ [[.v (.string l[k].value)]] := by
  unfold valsOf
  rw [List.take_succ_eq_append_getElem hk, List.filter_append, List.map_append, List.map_append]
  simp [List.filter_cons, h, strT]
theorem valsOf_no {n : ByteArray} {l : List Pl.Head} {k : Nat} (hk : k < l.length) (h : decide (l[k].name = n) = false) : valsOf n (l.take (k + 1)) = valsOf n (l.take k) := by
  unfold valsOf
  rw [List.take_succ_eq_append_getElem hk, List.filter_append, List.map_append]
  simp [List.filter_cons, h]
theorem valsOf_len (n : ByteArray) (l : List Pl.Head) : (valsOf n l).length ≤ l.length := by
  unfold valsOf; rw [List.length_map]; exact List.length_filter_le _ _
theorem few_vals (n : ByteArray) (l : List Pl.Head) (k : Nat) (h : l.length ≤ 1000) : (((valsOf n (l.take k)).map strT).length + 1) * 16 ≤ 140737488355328 := by
  have := valsOf_len n (l.take k)
  rw [List.length_take] at this
  rw [List.length_map]; omega
def L1 (n : ByteArray) (l : List Pl.Head) (k : Nat) : St := ⟨[(0, .t (.v (.string n))), (1, .t (headsT l)), (5, .own 150 ((valsOf n (l.take k)).map strT).length), (6, .t (.v (.int .i64 (k : Int))))], [], [(150, ⟨9, 1, (valsOf n (l.take k)).map strT⟩)]⟩
def L2 (n : ByteArray) (l : List Pl.Head) (k : Nat) : St := ⟨[(0, .t (.v (.string n))), (8, .t (headsT l)), (9, .t (.v (.int .i64 (l.length : Int)))), (5, .own 150 ((valsOf n (l.take k)).map strT).length), (10, .t (.v (.int .i64 (k : Int))))], [], [(150, ⟨9, 1, (valsOf n (l.take k)).map strT⟩)]⟩
set_option maxRecDepth 100000 in
theorem refAll_ (n : ByteArray) (l : List Pl.Head) (hn : l.length ≤ 1000) : PCalls Tryz.prog 76 [.v (.string n), headsT l] (.sl 1 ((valsOf n l).map strT)) := by
  have hml : (l.map headT).length = l.length := List.length_map _
  refine pcalls_of Tryz.func76 rfl rfl Tryz.ntmps76 rfl ?_
  repeat' (first | (refine rg 0 ?_; refine oAs ?_; refine oN ?_) | (refine rg 1 ?_; refine oAs ?_; refine oN ?_) | (refine rg 2 ?_; refine oAs ?_; refine oN ?_) | refine gc ?_ | refine ct ?_ | refine cf ?_ | refine swp_cond rfl (fun hc => ?_) (fun hc => ?_) | refine rq rfl (rt .nil) ?_)
  refine swp_for (L1 n l) (fun _ => True) l.length ?_ trivial ?_
  · refine Weak.trans (weak_own0 (i := 150) 9 1 (s := 5) rfl rfl) ?_
    exact (weak_sub (.cons rfl rfl rfl (.cons rfl rfl rfl (.cons rfl rfl rfl (.cons rfl rfl rfl .nil)))) .nil (.cons rfl rfl .nil))
  intro k hk _
  unfold L1
  by_cases hlt : k < l.length
  · have g1 := few_vals n l k hn
    cases hb : decide (l[k].name = n) with
    | true =>
      have hs := valsOf_yes hlt hb
      repeat' (first | refine for_next hlt (weak_sub (.cons rfl (by rfl) rfl (.cons rfl (by rfl) rfl (.cons rfl (by first | rfl | (rw [hs]; try rfl)) rfl (.cons rfl (by rfl) rfl .nil)))) .nil (.cons rfl (by first | rfl | (rw [hs]; try rfl)) .nil)) trivial | (refine rg 3 ?_; refine oMv ?_; refine oMv ?_; refine sp (pln rfl (tyS rfl)) ?_; refine oCm ?_; refine oN ?_) | (refine rg 5 ?_; refine oMv ?_; refine oMv ?_; refine sp (pix rfl (tyS rfl)) ?_; (first | refine oFb ?_ | refine oFd ?_); (first | refine oLb ?_ | refine oLd ?_); refine oMv ?_; refine sp (po_str rfl rfl rfl rfl) ?_; refine oN ?_) | (refine rg 6 ?_; refine oMv ?_; refine oMv ?_; refine oMv ?_; refine sp (pix rfl (tyS rfl)) ?_; (first | refine oFb ?_ | refine oFd ?_); (first | refine oLb ?_ | refine oLd ?_); refine sp (po_buildSlice rfl (tyE rfl) (dc (.nil _)) rfl rfl rfl) ?_; refine sap rfl (tyE rfl) ?_; refine oAs ?_; refine oN ?_) | (refine rg 4 ?_; refine oMv ?_; refine sp (xinc rfl) ?_; refine oAs ?_; refine oN ?_) | refine gc ?_ | refine ct ?_)
    | false =>
      have hs := valsOf_no hlt hb
      repeat' (first | refine for_next hlt (weak_sub (.cons rfl (by rfl) rfl (.cons rfl (by rfl) rfl (.cons rfl (by first | rfl | (rw [hs])) rfl (.cons rfl (by rfl) rfl .nil)))) .nil (.cons rfl (by first | rfl | (rw [hs])) .nil)) trivial | (refine rg 3 ?_; refine oMv ?_; refine oMv ?_; refine sp (pln rfl (tyS rfl)) ?_; refine oCm ?_; refine oN ?_) | (refine rg 5 ?_; refine oMv ?_; refine oMv ?_; refine sp (pix rfl (tyS rfl)) ?_; (first | refine oFb ?_ | refine oFd ?_); (first | refine oLb ?_ | refine oLd ?_); refine oMv ?_; refine sp (po_str rfl rfl rfl rfl) ?_; refine oN ?_) | (refine rg 4 ?_; refine oMv ?_; refine sp (xinc rfl) ?_; refine oAs ?_; refine oN ?_) | refine gc ?_ | refine ct ?_ | refine cf ?_)
  · obtain rfl : k = l.length := by omega
    rw [List.take_length]
    repeat' (first | (refine rg 3 ?_; refine oMv ?_; refine oMv ?_; refine sp (pln rfl (tyS rfl)) ?_; refine oCm ?_; refine oN ?_) | (refine rg 7 ?_; refine oMv ?_; refine oAs ?_; refine oN ?_) | refine gc ?_ | refine ct ?_ | refine cf ?_ | refine swp_cond rfl (fun hc => ?_) (fun hc => ?_) | refine rq rfl (rt .nil) ?_)
    rfl
set_option maxRecDepth 100000 in
theorem all_ (n : ByteArray) (l : List Pl.Head) (hn : l.length ≤ 1000) : PCalls Tryz.prog 60 [.v (.string n), headsT l] (.sl 1 ((valsOf n l).map strT)) := by
  have hml : (l.map headT).length = l.length := List.length_map _
  refine pcalls_of Tryz.func60 rfl rfl Tryz.ntmps60 rfl ?_
  repeat' (first | (refine rg 0 ?_; refine oAs ?_; refine oN ?_) | (refine rg 1 ?_; refine oAs ?_; refine oN ?_) | (refine rg 2 ?_; refine oMv ?_; refine sp (pln rfl (tyS rfl)) ?_; refine oMv ?_; refine oN ?_) | refine gc ?_ | refine ct ?_ | refine cf ?_ | refine swp_cond rfl (fun hc => ?_) (fun hc => ?_) | refine rq rfl (rt .nil) ?_)
  refine swp_for (L2 n l) (fun _ => True) l.length ?_ trivial ?_
  · refine Weak.trans (weak_own0 (i := 150) 9 1 (s := 5) rfl rfl) ?_
    exact (weak_sub (.cons rfl (by first | rfl | (rw [hml])) rfl (.cons rfl (by first | rfl | (rw [hml])) rfl (.cons rfl (by first | rfl | (rw [hml])) rfl (.cons rfl (by first | rfl | (rw [hml])) rfl (.cons rfl (by first | rfl | (rw [hml])) rfl .nil))))) .nil (.cons rfl (by first | rfl | (rw [hml])) .nil))
  intro k hk _
  unfold L2
  by_cases hlt : k < l.length
  · have g1 := few_vals n l k hn
    cases hb : decide (l[k].name = n) with
    | true =>
      have hs := valsOf_yes hlt hb
      repeat' (first | refine for_next hlt (weak_sub (.cons rfl (by rfl) rfl (.cons rfl (by rfl) rfl (.cons rfl (by rfl) rfl (.cons rfl (by first | rfl | (rw [hs]; try rfl)) rfl (.cons rfl (by rfl) rfl .nil))))) .nil (.cons rfl (by first | rfl | (rw [hs]; try rfl)) .nil)) trivial | (refine rg 3 ?_; refine oCm ?_; refine oN ?_) | (refine rg 4 ?_; refine sp (pix rfl (tyS rfl)) ?_; (first | refine sp (po_load_bx_agg rfl rfl (tyT rfl) rfl (vc (vc .nil)) rfl) ?_ | refine sp (po_load_agg rfl rfl (tyT rfl) rfl rfl) ?_); refine sal str65 ?_; refine oS ?_; refine oN ?_) | (refine rg 5 ?_; refine oFb ?_; refine oLb ?_; refine oMv ?_; refine sp (po_str rfl rfl rfl rfl) ?_; refine oN ?_) | (refine rg 6 ?_; refine oMv ?_; refine oFb ?_; refine oLb ?_; refine sp (po_buildSlice rfl (tyE rfl) (dc (.nil _)) rfl rfl rfl) ?_; refine sap rfl (tyE rfl) ?_; refine oAs ?_; refine oN ?_) | (refine rg 7 ?_; refine sp (xinc rfl) ?_; refine oMv ?_; refine oN ?_) | refine gc ?_ | refine ct ?_)
    | false =>
      have hs := valsOf_no hlt hb
      repeat' (first | refine for_next hlt (weak_sub (.cons rfl (by rfl) rfl (.cons rfl (by rfl) rfl (.cons rfl (by rfl) rfl (.cons rfl (by first | rfl | (rw [hs])) rfl (.cons rfl (by rfl) rfl .nil))))) .nil (.cons rfl (by first | rfl | (rw [hs])) .nil)) trivial | (refine rg 3 ?_; refine oCm ?_; refine oN ?_) | (refine rg 4 ?_; refine sp (pix rfl (tyS rfl)) ?_; (first | refine sp (po_load_bx_agg rfl rfl (tyT rfl) rfl (vc (vc .nil)) rfl) ?_ | refine sp (po_load_agg rfl rfl (tyT rfl) rfl rfl) ?_); refine sal str65 ?_; refine oS ?_; refine oN ?_) | (refine rg 5 ?_; refine oFb ?_; refine oLb ?_; refine oMv ?_; refine sp (po_str rfl rfl rfl rfl) ?_; refine oN ?_) | (refine rg 7 ?_; refine sp (xinc rfl) ?_; refine oMv ?_; refine oN ?_) | refine gc ?_ | refine ct ?_ | refine cf ?_)
  · obtain rfl : k = l.length := by omega
    rw [List.take_length]
    repeat' (first | (refine rg 3 ?_; refine oCm ?_; refine oN ?_) | (refine rg 8 ?_; refine oMv ?_; refine oAs ?_; refine oN ?_) | refine gc ?_ | refine ct ?_ | refine cf ?_ | refine swp_cond rfl (fun hc => ?_) (fun hc => ?_) | refine rq rfl (rt .nil) ?_)
    rfl
def longH (l : List Pl.Head) : Bool := decide (100 < l.length) || l.any fun h => decide (1000 < h.name.size) || decide (2000 < h.value.size)
theorem any_next {α : Type} {p : α → Bool} {l : List α} {k : Nat} (hk : k < l.length) (h : (l.take k).any p = false) (h2 : p l[k] = false) : (l.take (k + 1)).any p = false := by
  rw [List.take_succ_eq_append_getElem hk, List.any_append, h]; simp [h2]
theorem any_hit {α : Type} {p : α → Bool} {l : List α} {k : Nat} (hk : k < l.length) (h : p l[k] = true) : l.any p = true := List.any_eq_true.2 ⟨_, List.getElem_mem hk, h⟩
set_option maxRecDepth 100000 in
theorem long_ (l : List Pl.Head) : PCalls Tryz.prog 21 [headsT l] (.v (.bool (longH l))) := by
  have hml : (l.map headT).length = l.length := List.length_map _
  unfold longH
  refine pcalls_of Tryz.func21 rfl rfl Tryz.ntmps21 rfl ?_
  by_cases h100 : 100 < l.length
  · repeat' (first | (refine rg 0 ?_; refine oAs ?_; refine oN ?_) | (refine rg 1 ?_; refine oMv ?_; refine sp (pln rfl (tyS rfl)) ?_; refine oCm ?_; refine oN ?_) | (refine rg 2 ?_; refine oAs ?_; refine oN ?_) | refine gc ?_ | refine ct ?_ | refine cf ?_ | refine swp_cond rfl (fun hc => ?_) (fun hc => ?_) | refine rq rfl (rt .nil) ?_)
    refine eq_b ?_
    simp [h100]
  · repeat' (first | (refine rg 0 ?_; refine oAs ?_; refine oN ?_) | (refine rg 1 ?_; refine oMv ?_; refine sp (pln rfl (tyS rfl)) ?_; refine oCm ?_; refine oN ?_) | (refine rg 3 ?_; refine oAs ?_; refine oN ?_) | refine gc ?_ | refine ct ?_ | refine cf ?_ | refine swp_cond rfl (fun hc => ?_) (fun hc => ?_) | refine rq rfl (rt .nil) ?_)
    refine swp_for (fun k => ⟨[(0, .t (headsT l)), (3, .t (.v (.int .i64 (k : Int))))], [], []⟩) (fun k => (l.take k).any (fun h => decide (1000 < h.name.size) || decide (2000 < h.value.size)) = false) l.length (weak_sub (.cons rfl rfl rfl (.cons rfl rfl rfl .nil)) .nil .nil) rfl ?_
    intro k hk hI
    by_cases hlt : k < l.length
    · repeat' (first | refine for_next hlt (weak_sub (.cons rfl rfl rfl (.cons rfl rfl rfl .nil)) .nil .nil) ?_ | (refine rg 4 ?_; refine oMv ?_; refine oMv ?_; refine sp (pln rfl (tyS rfl)) ?_; refine oCm ?_; refine oN ?_) | (refine rg 6 ?_; refine oMv ?_; refine oMv ?_; refine sp (pix rfl (tyS rfl)) ?_; (first | refine oFb ?_ | refine oFd ?_); (first | refine oLb ?_ | refine oLd ?_); refine sp (po_len_str rfl rfl (tyR rfl)) ?_; refine oCm ?_; refine oMv ?_; (first | refine oMv ?_ | refine oK ?_ | ((refine ssp (fun hc => ?_) (fun hc => ?_)) <;> first | refine oMv ?_ | refine oK ?_)) <;> (first | refine oMv ?_ | refine oK ?_) <;> (first | refine sp (pix rfl (tyS rfl)) ?_ | refine oK ?_) <;> (first | refine oFb ?_ | refine oFd ?_ | refine oK ?_) <;> (first | refine oLb ?_ | refine oLd ?_ | refine oK ?_) <;> (first | refine sp (po_len_str rfl rfl (tyR rfl)) ?_ | refine oK ?_) <;> (first | refine oCm ?_ | refine oK ?_) <;> (first | refine oPt ?_ | refine oPf ?_) <;> refine oN ?_) | (refine rg 7 ?_; refine oAs ?_; refine oN ?_) | (refine rg 5 ?_; refine oMv ?_; refine sp (xinc rfl) ?_; refine oAs ?_; refine oN ?_) | refine gc ?_ | refine ct ?_ | refine cf ?_ | refine swp_cond rfl (fun hc => ?_) (fun hc => ?_) | refine rq rfl (rt .nil) ?_)
      all_goals first
        | (refine eq_b ?_
           rw [any_hit hlt (by simp at *; omega)]; simp)
        | exact any_next hlt hI (by simp at *; omega)
    · obtain rfl : k = l.length := by omega
      rw [List.take_length] at hI
      repeat' (first | (refine rg 4 ?_; refine oMv ?_; refine oMv ?_; refine sp (pln rfl (tyS rfl)) ?_; refine oCm ?_; refine oN ?_) | (refine rg 8 ?_; refine oAs ?_; refine oN ?_) | refine gc ?_ | refine ct ?_ | refine cf ?_ | refine swp_cond rfl (fun hc => ?_) (fun hc => ?_) | refine rq rfl (rt .nil) ?_)
      refine eq_b ?_
      rw [hI]; simp; omega
end Go.Proofs.YtloippgblkoemaaGreatDoor.Hd

/- Headers: letters made small: walks. -/
namespace Go.Proofs.YtloippgblkoemaaGreatDoor.Hd
set_option linter.unusedVariables false
set_option linter.unusedSimpArgs false
open Go.RowKit Mem Sim Opn
theorem byt23 : byE Tryz.prog 23 = some 5 := by kernel_rfl
def lowU (b : UInt8) : UInt8 := if 65 ≤ b.toNat ∧ b.toNat ≤ 90 then b + 32 else b
def small (s : ByteArray) : ByteArray := bs (s.toList.map lowU)
/-- the first k letters made small -/
def mix (l : List UInt8) (k : Nat) : List UInt8 := (l.take k).map lowU ++ l.drop k
theorem mix0 (l : List UInt8) : mix l 0 = l := by simp [mix]
theorem mix_len (l : List UInt8) (k : Nat) : (mix l k).length = l.length := by simp [mix]; omega
theorem mix_all (l : List UInt8) {k : Nat} (h : l.length ≤ k) : mix l k = l.map lowU := by
  unfold mix; rw [List.take_of_length_le h, List.drop_of_length_le h]; simp
theorem mix_at (l : List UInt8) {k : Nat} (h : k < l.length) : (mix l k)[k]? = some l[k] := by
  unfold mix
  rw [List.getElem?_append_right (by simp; omega)]
  simp [Nat.min_eq_left (Nat.le_of_lt h), h]
theorem mix_next (l : List UInt8) {k : Nat} (h : k < l.length) : mix l (k + 1) = (mix l k).set k (lowU l[k]) := by
  unfold mix
  rw [List.set_append_right _ _ (by simp; omega)]
  simp only [List.length_map, List.length_take, Nat.min_eq_left (Nat.le_of_lt h), Nat.sub_self]
  rw [List.drop_eq_getElem_cons h, List.set_cons_zero, List.take_succ_eq_append_getElem h, List.map_append, List.append_assoc]; rfl
theorem low_up {b : UInt8} (h : 65 ≤ b.toNat ∧ b.toNat ≤ 90) : ((lowU b).toNat : Int) = (b.toNat : Int) + 32 := by
  unfold lowU; rw [if_pos h, UInt8.toNat_add]
  have : (32 : UInt8).toNat = 32 := rfl
  omega
theorem low_no {b : UInt8} (h : ¬ (65 ≤ b.toNat ∧ b.toNat ≤ 90)) : lowU b = b := by unfold lowU; rw [if_neg h]
def mixR (l : List UInt8) (k : Nat) : List (List T) := (mix l k).map byteT
theorem mixR_at (l : List UInt8) {k : Nat} (h : k < l.length) : (mixR l k)[k]? = some (byteT l[k]) := by
  unfold mixR; rw [List.getElem?_map, mix_at l h]; rfl
theorem mixR_len (l : List UInt8) (k : Nat) : (mixR l k).length = l.length := by unfold mixR; rw [List.length_map, mix_len]
theorem mixR_up (l : List UInt8) {k : Nat} (h : k < l.length) (hb : 65 ≤ l[k].toNat ∧ l[k].toNat ≤ 90) : (mixR l k).set k [T.v (.int .u8 ((l[k].toNat : Int) + 32))] = mixR l (k + 1) := by
  unfold mixR; rw [mix_next l h, List.map_set]; unfold byteT; rw [low_up hb]
theorem mixR_no (l : List UInt8) {k : Nat} (h : k < l.length) (hb : ¬ (65 ≤ l[k].toNat ∧ l[k].toNat ≤ 90)) : mixR l k = mixR l (k + 1) := by
  unfold mixR; rw [mix_next l h, low_no hb]
  congr 1
  exact (set_self (mix_at l h)).symm
def Sm (l : List UInt8) (k : Nat) : St := ⟨[(3, .own 1000 l.length), (8, .own 1000 l.length), (9, .t (.v (.int .i64 (l.length : Int)))), (10, .t (.v (.int .i64 (k : Int))))], [], [(1000, ⟨5, 1, mixR l k⟩)]⟩
def SmR (l : List UInt8) (k : Nat) : St := ⟨[(3, .own 1000 l.length), (4, .t (.v (.int .i64 (k : Int))))], [], [(1000, ⟨5, 1, mixR l k⟩)]⟩
theorem up3 (n : Nat) : (65 ≤ n ∧ n ≤ 90) ∨ n < 65 ∨ 90 < n := by omega
theorem bytes0 (l : List UInt8) : (⟨5, 1, l.map byteT⟩ : Own) = ⟨5, 1, mixR l 0⟩ := by unfold mixR; rw [mix0]
set_option maxRecDepth 100000 in
theorem small_ (s : ByteArray) (hs : s.size ≤ maxLen) : PCalls Tryz.prog 83 [.v (.string s)] (.v (.string (small s))) := by
  have hl : s.toList.length = s.size := toList_len s
  have hb : (s.toList.map byteT).length = s.toList.length := List.length_map _
  have hml : s.toList.length ≤ 9223372036854775807 := by unfold maxLen at hs; omega
  refine pcalls_of Tryz.func83 rfl rfl Tryz.ntmps83 rfl ?_
  unfold small
  repeat' (first | (refine rg 0 ?_; refine oAs ?_; refine oN ?_) | (refine rg 1 ?_; refine oMv ?_; refine sops_str_bytes 1000 (.free rfl rfl) rfl rfl rfl rfl (tyR rfl) byt23 (by assumption) rfl ?_; refine oAs ?_; refine oN ?_) | (refine rg 2 ?_; refine oMv ?_; refine sp (po_len_own rfl rfl (tyS rfl)) ?_; refine oMv ?_; refine oN ?_) | refine gc ?_ | refine ct ?_ | refine cf ?_ | refine swp_cond rfl (fun hc => ?_) (fun hc => ?_) | refine rq rfl (rt .nil) ?_)
  refine swp_for (Sm s.toList) (fun _ => True) s.toList.length (weak_sub (.cons rfl (by first | rfl | (first | rw [hb] | exact bytes0 s.toList)) rfl (.cons rfl (by first | rfl | (first | rw [hb] | exact bytes0 s.toList)) rfl (.cons rfl (by first | rfl | (first | rw [hb] | exact bytes0 s.toList)) rfl (.cons rfl (by first | rfl | (first | rw [hb] | exact bytes0 s.toList)) rfl .nil)))) .nil (.cons rfl (by first | rfl | (first | rw [hb] | exact bytes0 s.toList)) .nil)) trivial ?_
  intro k hk _
  unfold Sm
  have hq := mixR_len s.toList k
  have hq' := hq.symm
  by_cases hlt : k < s.toList.length
  · have hrow := mixR_at s.toList hlt
    rcases up3 s.toList[k].toNat with h1 | h1 | h1
    · have hn := mixR_up s.toList hlt h1
      repeat' (first | refine for_next hlt (weak_sub (.cons rfl (by rfl) rfl (.cons rfl (by rfl) rfl (.cons rfl (by rfl) rfl (.cons rfl (by rfl) rfl .nil)))) .nil (.cons rfl (by first | rfl | (exact congrArg (Own.mk _ 1) hn)) .nil)) trivial | (refine rg 3 ?_; refine oCm ?_; refine oN ?_) | (refine rg 4 ?_; refine oMv ?_; refine sp (ixo rfl) ?_; (first | refine oLb ?_ | refine oLd ?_ | refine sp (ldo rfl) ?_); refine oAs ?_; refine oAs ?_; refine oN ?_) | (refine rg 5 ?_; refine oMv ?_; refine oCm ?_; refine oMv ?_; refine oMv ?_ <;> refine oCm ?_ <;> refine oPt ?_ <;> refine oN ?_) | (refine rg 6 ?_; refine oMv ?_; refine oMv ?_; refine oMv ?_; (first | refine sp (xinc rfl) ?_ | refine sp (po_arith rfl rfl rfl (ar_add (by first | rfl | (refine wrap_i64 ?_; omega) | (refine wrap_u8 ?_; omega)) rfl)) ?_); refine sp (ixo rfl) ?_; (first | refine oS ?_ | refine sso ?_); refine oN ?_) | (refine rg 7 ?_; refine sp (xinc rfl) ?_; refine oMv ?_; refine oN ?_) | refine gc ?_ | refine ct ?_)
    all_goals
      have hn := mixR_no s.toList hlt (fun h => by omega)
      repeat' (first | refine for_next hlt (weak_sub (.cons rfl (by rfl) rfl (.cons rfl (by rfl) rfl (.cons rfl (by rfl) rfl (.cons rfl (by rfl) rfl .nil)))) .nil (.cons rfl (by first | rfl | (exact congrArg (Own.mk _ 1) hn)) .nil)) trivial | (refine rg 3 ?_; refine oCm ?_; refine oN ?_) | (refine rg 4 ?_; refine oMv ?_; refine sp (ixo rfl) ?_; (first | refine oLb ?_ | refine oLd ?_ | refine sp (ldo rfl) ?_); refine oAs ?_; refine oAs ?_; refine oN ?_) | (refine rg 5 ?_; refine oMv ?_; refine oCm ?_; refine oMv ?_; (first | refine oMv ?_ | refine oK ?_) <;> (first | refine oCm ?_ | refine oK ?_) <;> (first | refine oPt ?_ | refine oPf ?_) <;> refine oN ?_) | (refine rg 7 ?_; refine sp (xinc rfl) ?_; refine oMv ?_; refine oN ?_) | refine gc ?_ | refine ct ?_ | refine cf ?_)
  · obtain rfl : k = s.toList.length := by omega
    have hr : mixR s.toList s.toList.length = (s.toList.map lowU).map byteT := by unfold mixR; rw [mix_all s.toList (Nat.le_refl _)]
    rw [hr]
    repeat' (first | (refine rg 3 ?_; refine oCm ?_; refine oN ?_) | (refine rg 8 ?_; refine oMv ?_; refine sp (po_bytes_str rfl rfl (by first | exact .t _ | exact .own rfl (by first | rfl | assumption | omega | (simp; done))) byt23 (tyR rfl)) ?_; refine oAs ?_; refine oN ?_) | refine gc ?_ | refine ct ?_ | refine cf ?_ | refine swp_cond rfl (fun hc => ?_) (fun hc => ?_) | refine rq rfl (rt .nil) ?_)
    rfl
set_option maxRecDepth 100000 in
theorem refSmall_ (s : ByteArray) (hs : s.size ≤ maxLen) : PCalls Tryz.prog 77 [.v (.string s)] (.v (.string (small s))) := by
  have hl : s.toList.length = s.size := toList_len s
  have hb : (s.toList.map byteT).length = s.toList.length := List.length_map _
  have hml : s.toList.length ≤ 9223372036854775807 := by unfold maxLen at hs; omega
  refine pcalls_of Tryz.func77 rfl rfl Tryz.ntmps77 rfl ?_
  unfold small
  repeat' (first | (refine rg 0 ?_; refine oAs ?_; refine oN ?_) | (refine rg 1 ?_; refine oMv ?_; refine sops_str_bytes 1000 (.free rfl rfl) rfl rfl rfl rfl (tyR rfl) byt23 (by assumption) rfl ?_; refine oAs ?_; refine oN ?_) | (refine rg 2 ?_; refine oAs ?_; refine oN ?_) | refine gc ?_ | refine ct ?_ | refine cf ?_ | refine swp_cond rfl (fun hc => ?_) (fun hc => ?_) | refine rq rfl (rt .nil) ?_)
  refine swp_for (SmR s.toList) (fun _ => True) s.toList.length (weak_sub (.cons rfl (by first | rfl | (first | rw [hb] | exact bytes0 s.toList)) rfl (.cons rfl (by first | rfl | (first | rw [hb] | exact bytes0 s.toList)) rfl .nil)) .nil (.cons rfl (by first | rfl | (first | rw [hb] | exact bytes0 s.toList)) .nil)) trivial ?_
  intro k hk _
  unfold SmR
  have hq := mixR_len s.toList k
  have hq' := hq.symm
  by_cases hlt : k < s.toList.length
  · have hrow := mixR_at s.toList hlt
    rcases up3 s.toList[k].toNat with h1 | h1 | h1
    · have hn := mixR_up s.toList hlt h1
      repeat' (first | refine for_next hlt (weak_sub (.cons rfl (by rfl) rfl (.cons rfl (by rfl) rfl .nil)) .nil (.cons rfl (by first | rfl | (exact congrArg (Own.mk _ 1) hn)) .nil)) trivial | (refine rg 3 ?_; refine oMv ?_; refine oMv ?_; refine sp (po_len_own rfl rfl (tyS rfl)) ?_; refine oCm ?_; refine oN ?_) | (refine rg 5 ?_; refine oMv ?_; refine oMv ?_; refine sp (ixo rfl) ?_; (first | refine oLb ?_ | refine oLd ?_ | refine sp (ldo rfl) ?_); refine oCm ?_; refine oMv ?_; refine oMv ?_ <;> refine oMv ?_ <;> refine sp (ixo rfl) ?_ <;> (first | refine oLb ?_ | refine oLd ?_ | refine sp (ldo rfl) ?_) <;> refine oCm ?_ <;> refine oPt ?_ <;> refine oN ?_) | (refine rg 6 ?_; refine oMv ?_; refine oMv ?_; refine oMv ?_; refine oMv ?_; refine sp (ixo rfl) ?_; (first | refine oLb ?_ | refine oLd ?_ | refine sp (ldo rfl) ?_); (first | refine sp (xinc rfl) ?_ | refine sp (po_arith rfl rfl rfl (ar_add (by first | rfl | (refine wrap_i64 ?_; omega) | (refine wrap_u8 ?_; omega)) rfl)) ?_); refine sp (ixo rfl) ?_; (first | refine oS ?_ | refine sso ?_); refine oN ?_) | (refine rg 4 ?_; refine oMv ?_; refine sp (xinc rfl) ?_; refine oAs ?_; refine oN ?_) | refine gc ?_ | refine ct ?_)
    all_goals
      have hn := mixR_no s.toList hlt (fun h => by omega)
      repeat' (first | refine for_next hlt (weak_sub (.cons rfl (by rfl) rfl (.cons rfl (by rfl) rfl .nil)) .nil (.cons rfl (by first | rfl | (exact congrArg (Own.mk _ 1) hn)) .nil)) trivial | (refine rg 3 ?_; refine oMv ?_; refine oMv ?_; refine sp (po_len_own rfl rfl (tyS rfl)) ?_; refine oCm ?_; refine oN ?_) | (refine rg 5 ?_; refine oMv ?_; refine oMv ?_; refine sp (ixo rfl) ?_; (first | refine oLb ?_ | refine oLd ?_ | refine sp (ldo rfl) ?_); refine oCm ?_; refine oMv ?_; (first | refine oMv ?_ | refine oK ?_) <;> (first | refine oMv ?_ | refine oK ?_) <;> (first | refine sp (ixo rfl) ?_ | refine sp (pix rfl (tyS rfl)) ?_ | refine oK ?_) <;> (first | refine oLb ?_ | refine oLd ?_ | refine sp (ldo rfl) ?_ | refine oK ?_) <;> (first | refine oCm ?_ | refine oK ?_) <;> (first | refine oPt ?_ | refine oPf ?_) <;> refine oN ?_) | (refine rg 4 ?_; refine oMv ?_; refine sp (xinc rfl) ?_; refine oAs ?_; refine oN ?_) | refine gc ?_ | refine ct ?_ | refine cf ?_)
  · obtain rfl : k = s.toList.length := by omega
    have hr : mixR s.toList s.toList.length = (s.toList.map lowU).map byteT := by unfold mixR; rw [mix_all s.toList (Nat.le_refl _)]
    rw [hr]
    repeat' (first | (refine rg 3 ?_; refine oMv ?_; refine oMv ?_; refine sp (po_len_own rfl rfl (tyS rfl)) ?_; refine oCm ?_; refine oN ?_) | (refine rg 7 ?_; refine oMv ?_; refine sp (po_bytes_str rfl rfl (by first | exact .t _ | exact .own rfl (by first | rfl | assumption | omega | (simp; done))) byt23 (tyR rfl)) ?_; refine oAs ?_; refine oN ?_) | refine gc ?_ | refine ct ?_ | refine cf ?_ | refine swp_cond rfl (fun hc => ?_) (fun hc => ?_) | refine rq rfl (rt .nil) ?_)
    rfl
end Go.Proofs.YtloippgblkoemaaGreatDoor.Hd

/- Functions of the library over texts: walks. -/
namespace Go.Proofs.YtloippgblkoemaaGreatDoor.Str
set_option linter.unusedVariables false
set_option linter.unusedSimpArgs false
open Go.RowKit Mem Sim
/-- where a byte stands first; else the length -/
def fidx (s : ByteArray) (c : UInt8) : Nat := s.toList.findIdx (· == c)
theorem idx_list (c : UInt8) : ∀ l : List UInt8, Lib.indexByte l c = if l.findIdx (· == c) < l.length then ((l.findIdx (· == c) : Nat) : Int) else -1
  | [] => by simp [Lib.indexByte]
  | b :: l => by
    have ih := idx_list c l
    unfold Lib.indexByte
    rw [List.findIdx_cons]
    cases hb : b == c with
    | true => simp
    | false =>
      simp only [Bool.false_eq_true, if_false, cond_false, List.length_cons]
      rw [ih]
      by_cases h : l.findIdx (· == c) < l.length
      · rw [if_pos h, if_neg (by simp), if_pos (by omega)]; omega
      · rw [if_neg h, if_pos (by rfl), if_neg (by omega)]
theorem idx_eq (s : ByteArray) (c : UInt8) : Lib.indexByte s.data.toList c = if fidx s c < s.size then ((fidx s c : Nat) : Int) else -1 := by
  rw [idx_list]; unfold fidx
  rw [ByteArray.toList_eq]; rfl
theorem u8_back (c : UInt8) : ((c.toNat : Int)).toNat.toUInt8 = c := by simp
theorem ext_idx (s : ByteArray) (c : UInt8) (w : World) : (callFunc 131 [Value.string s, .int .u8 (c.toNat : Int)].toArray).run Tryz.prog w = .ok (.value (.int .i64 (Lib.indexByte s.data.toList c))) w := by
  rw [run_callFunc_extern (e := Extern.BytealgIndexByte.indexByte) Tryz.func131 (by kernel_rfl) (by kernel_rfl) (by kernel_rfl) (by kernel_rfl)]
  have := Lib.run_indexByteString (P := Tryz.prog) s (c.toNat : Int) w
  rw [u8_back] at this
  rw [show [Value.string s, .int .u8 (c.toNat : Int)].toArray = #[Value.string s, .int .u8 (c.toNat : Int)] from rfl, this]; rfl
set_option maxRecDepth 100000 in
theorem idxb_ (s : ByteArray) (c : UInt8) : PCalls Tryz.prog 102 [.v (.string s), .v (.int .u8 (c.toNat : Int))] (.v (.int .i64 (Lib.indexByte s.data.toList c))) := by
  refine pcalls_of Tryz.func102 rfl rfl Tryz.ntmps102 rfl ?_
  repeat' (first | (refine rg 0 ?_; refine oAs ?_; refine oN ?_) | (refine rg 1 ?_; refine oMv ?_; refine oMv ?_; refine sp (po_ext (ext_idx s c) rfl (ac (ac .nil))) ?_; refine oAs ?_; refine oN ?_) | refine gc ?_ | refine ct ?_ | refine cf ?_ | refine swp_cond rfl (fun hc => ?_) (fun hc => ?_) | refine rq rfl (rt .nil) ?_)
  rfl
set_option maxRecDepth 100000 in
theorem indexByte_ (s : ByteArray) (c : UInt8) : PCalls Tryz.prog 121 [.v (.string s), .v (.int .u8 (c.toNat : Int))] (.v (.int .i64 (Lib.indexByte s.data.toList c))) := by
  refine pcalls_of Tryz.func121 rfl rfl Tryz.ntmps121 rfl ?_
  repeat' (first | (refine rg 0 ?_; refine oAs ?_; refine oN ?_) | (refine rg 1 ?_; refine oMv ?_; refine oMv ?_; refine oC (idxb_ s c) rfl (ac (ac .nil)) ?_; refine oAs ?_; refine oN ?_) | refine gc ?_ | refine ct ?_ | refine cf ?_ | refine swp_cond rfl (fun hc => ?_) (fun hc => ?_) | refine rq rfl (rt .nil) ?_)
  rfl
set_option maxRecDepth 100000 in
theorem index1_ (s : ByteArray) (c : UInt8) : PCalls Tryz.prog 73 [.v (.string s), .v (.string ⟨#[c]⟩)] (.v (.int .i64 (Lib.indexByte s.data.toList c))) := by
  have z0 : decide ((((⟨#[c]⟩ : ByteArray).size : Nat) : Int) = 0) = false := rfl
  have z1 : decide ((((⟨#[c]⟩ : ByteArray).size : Nat) : Int) = 1) = true := rfl
  have z2 : 0 < (⟨#[c]⟩ : ByteArray).size := Nat.one_pos
  refine pcalls_of Tryz.func73 rfl rfl Tryz.ntmps73 rfl ?_
  by_cases he : (⟨#[c]⟩ : ByteArray) = s
  · have he' : decide ((⟨#[c]⟩ : ByteArray) = s) = true := by simp [he]
    repeat' (first | (refine rg 0 ?_; refine oAs ?_; refine oN ?_) | (refine rg 1 ?_; refine oMv ?_; refine sp (po_len_str rfl rfl (tyR rfl)) ?_; refine oAs ?_; refine oN ?_) | (refine rg 2 ?_; refine oMv ?_; refine oCm ?_; refine oMv ?_; refine oMv ?_ <;> refine oMv ?_ <;> refine sp (po_str rfl rfl rfl rfl) ?_ <;> (first | refine oPt ?_ | refine oPf ?_) <;> refine oAs ?_ <;> refine oN ?_) | (refine rg 3 ?_; refine oAs ?_; refine oN ?_) | refine gc ?_ | refine ct ?_ | refine cf ?_ | refine swp_cond rfl (fun hc => ?_) (fun hc => ?_) | refine rq rfl (rt .nil) ?_)
    refine eq_i ?_
    subst he
    simp [Lib.indexByte]
  · have he' : decide ((⟨#[c]⟩ : ByteArray) = s) = false := by simp [he]
    repeat' (first | (refine rg 0 ?_; refine oAs ?_; refine oN ?_) | (refine rg 1 ?_; refine oMv ?_; refine sp (po_len_str rfl rfl (tyR rfl)) ?_; refine oAs ?_; refine oN ?_) | (refine rg 2 ?_; refine oMv ?_; refine oCm ?_; refine oMv ?_; refine oMv ?_ <;> refine oMv ?_ <;> refine sp (po_str rfl rfl rfl rfl) ?_ <;> (first | refine oPt ?_ | refine oPf ?_) <;> refine oAs ?_ <;> refine oN ?_) | (refine rg 4 ?_; refine oMv ?_; refine oCm ?_; refine oAs ?_; refine oN ?_) | (refine rg 5 ?_; refine oMv ?_; refine oMv ?_; refine sp (po_index_str (k := 0) rfl rfl rfl (tyR rfl) (by rfl) (by assumption)) ?_; refine oC (idxb_ s c) rfl (ac (ac .nil)) ?_; refine oAs ?_; refine oN ?_) | refine gc ?_ | refine ct ?_ | refine cf ?_ | refine swp_cond rfl (fun hc => ?_) (fun hc => ?_) | refine rq rfl (rt .nil) ?_)
    rfl
def cutT (s : ByteArray) (c : UInt8) : T := if fidx s c < s.size then .tup [.v (.string (s.extract 0 (fidx s c))), .v (.string (s.extract (fidx s c + 1) s.size)), .v (.bool true)] else .tup [.v (.string s), .v (.string ⟨#[]⟩), .v (.bool false)]
set_option maxRecDepth 100000 in
theorem cut1_ (s : ByteArray) (c : UInt8) (hs : s.size ≤ maxLen) : PCalls Tryz.prog 48 [.v (.string s), .v (.string ⟨#[c]⟩)] (cutT s c) := by
  unfold maxLen at hs
  have hI := index1_ s c
  rw [idx_eq] at hI
  unfold cutT
  refine pcalls_of Tryz.func48 rfl rfl Tryz.ntmps48 rfl ?_
  by_cases h : fidx s c < s.size
  · rw [if_pos h] at hI
    rw [if_pos h]
    generalize fidx s c = n at *
    repeat' (first | (refine rg 0 ?_; refine oAs ?_; refine oAs ?_; refine oAs ?_; refine oN ?_) | (refine rg 1 ?_; refine oMv ?_; refine oMv ?_; refine oC (hI) rfl (ac (ac .nil)) ?_; refine oAs ?_; refine oN ?_) | (refine rg 2 ?_; refine oMv ?_; refine oCm ?_; refine oN ?_) | (refine rd 3 ?_; refine dMv ?_; refine dMv ?_; refine dp (po_slice_str rfl rfl (tyR rfl) (by rfl) (by first | rfl | exact ⟨_, rfl⟩) (by omega) (by omega)) ?_; refine dMv ?_; refine dMv ?_; refine dMv ?_; refine dp (po_len_str rfl rfl (tyR rfl)) ?_; refine dp (xinc rfl) ?_; refine dp (po_slice_str rfl rfl (tyR rfl) (by first | rfl | exact ⟨_, rfl⟩) (by rfl) (by omega) (by omega)) ?_; refine dAs ?_; refine dAs ?_; refine dAs ?_; refine dN ?_; refine oN ?_) | refine gc ?_ | refine ct ?_ | refine cf ?_ | refine swp_cond rfl (fun hc => ?_) (fun hc => ?_) | refine rq rfl (rt (rt (rt .nil))) ?_)
    rfl
  · rw [if_neg h] at hI
    rw [if_neg h]
    repeat' (first | (refine rg 0 ?_; refine oAs ?_; refine oAs ?_; refine oAs ?_; refine oN ?_) | (refine rg 1 ?_; refine oMv ?_; refine oMv ?_; refine oC (hI) rfl (ac (ac .nil)) ?_; refine oAs ?_; refine oN ?_) | (refine rg 2 ?_; refine oMv ?_; refine oCm ?_; refine oN ?_) | (refine rg 4 ?_; refine oMv ?_; refine oAs ?_; refine oAs ?_; refine oAs ?_; refine oN ?_) | refine gc ?_ | refine ct ?_ | refine cf ?_ | refine swp_cond rfl (fun hc => ?_) (fun hc => ?_) | refine rq rfl (rt (rt (rt .nil))) ?_)
    rfl
set_option maxRecDepth 100000 in
theorem cut_ (s : ByteArray) (c : UInt8) (hs : s.size ≤ maxLen) : PCalls Tryz.prog 25 [.v (.string s), .v (.string ⟨#[c]⟩)] (cutT s c) := by
  have hI := cut1_ s c hs
  refine pcalls_of Tryz.func25 rfl rfl Tryz.ntmps25 rfl ?_
  unfold cutT at *
  by_cases h : fidx s c < s.size
  · rw [if_pos h] at hI
    rw [if_pos h]
    repeat' (first | (refine rg 0 ?_; refine oAs ?_; refine oAs ?_; refine oAs ?_; refine oN ?_) | (refine rg 1 ?_; refine oMv ?_; refine oMv ?_; refine oC (hI) rfl (ac (ac .nil)) ?_; refine oEx ?_; refine oEx ?_; refine oEx ?_; refine oAs ?_; refine oAs ?_; refine oAs ?_; refine oN ?_) | refine gc ?_ | refine ct ?_ | refine cf ?_ | refine swp_cond rfl (fun hc => ?_) (fun hc => ?_) | refine rq rfl (rt (rt (rt .nil))) ?_)
    rfl
  · rw [if_neg h] at hI
    rw [if_neg h]
    repeat' (first | (refine rg 0 ?_; refine oAs ?_; refine oAs ?_; refine oAs ?_; refine oN ?_) | (refine rg 1 ?_; refine oMv ?_; refine oMv ?_; refine oC (hI) rfl (ac (ac .nil)) ?_; refine oEx ?_; refine oEx ?_; refine oEx ?_; refine oAs ?_; refine oAs ?_; refine oAs ?_; refine oN ?_) | refine gc ?_ | refine ct ?_ | refine cf ?_ | refine swp_cond rfl (fun hc => ?_) (fun hc => ?_) | refine rq rfl (rt (rt (rt .nil))) ?_)
    rfl
end Go.Proofs.YtloippgblkoemaaGreatDoor.Str
