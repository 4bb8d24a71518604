/- Merged by bundles.py: SimHd9, SimHd10, SimHd11. -/
import Derived.Test.YtloippgblkoemaaGreatDoorO16
/- Headers: framing: walks. -/
namespace Go.Proofs.YtloippgblkoemaaGreatDoor.Hd
set_option linter.unusedVariables false
set_option linter.unusedSimpArgs false
open Go.RowKit Mem Sim Opn Str
structure BodyEnd where
  chunked : Int
  has : Int
  length : Int
def endT (b : BodyEnd) : List T := [.v (.int .i64 b.chunked), .v (.int .i64 b.has), .v (.int .i64 b.length)]
abbrev clS : ByteArray := ⟨#[99, 111, 110, 116, 101, 110, 116, 45, 108, 101, 110, 103, 116, 104]⟩
abbrev teS : ByteArray := ⟨#[116, 114, 97, 110, 115, 102, 101, 114, 45, 101, 110, 99, 111, 100, 105, 110, 103]⟩
abbrev chS : ByteArray := ⟨#[99, 104, 117, 110, 107, 101, 100]⟩
def framV : List ByteArray → List ByteArray → BodyEnd × Int
  | [], [] => (⟨0, 0, 0⟩, 0)
  | [], [w] => if small w = chS then (⟨1, 0, 0⟩, 0) else (⟨0, 0, 0⟩, 2)
  | [s], [] => if (lenP s).2 = 0 then (⟨0, 1, (lenP s).1⟩, 0) else (⟨0, 0, 0⟩, (lenP s).2)
  | _, _ => (⟨0, 0, 0⟩, 2)
theorem fv_w {w : ByteArray} (h : small w = chS) : framV [] [w] = (⟨1, 0, 0⟩, 0) := by simp only [framV]; rw [if_pos h]
theorem fv_w' {w : ByteArray} (h : ¬ small w = chS) : framV [] [w] = (⟨0, 0, 0⟩, 2) := by simp only [framV]; rw [if_neg h]
theorem fv_s {s : ByteArray} (h : (lenP s).2 = 0) : framV [s] [] = (⟨0, 1, (lenP s).1⟩, 0) := by simp only [framV]; rw [if_pos h]
theorem fv_s' {s : ByteArray} (h : ¬ (lenP s).2 = 0) : framV [s] [] = (⟨0, 0, 0⟩, (lenP s).2) := by simp only [framV]; rw [if_neg h]
theorem lenP_bad {s : ByteArray} (h : s.toList.all digB = false) : lenP s = (0, 2) := by unfold lenP; rw [h]; rfl
theorem lenP_lead {s : ByteArray} (h : lead0 s = true) : lenP s = (0, 2) := by unfold lenP; rw [h]; simp
theorem lenP_ok {s : ByteArray} (h : s.toList.all digB = true) (h0 : lead0 s = false) (hm : numL s.toList ≤ 1024) : lenP s = ((numL s.toList : Int), 0) := by unfold lenP; rw [h, h0]; simp [hm]
theorem lenP_long {s : ByteArray} (h : s.toList.all digB = true) (h0 : lead0 s = false) (hm : ¬ numL s.toList ≤ 1024) : lenP s = (0, 6) := by unfold lenP; rw [h, h0]; simp [hm]
def fram (l : List Pl.Head) : BodyEnd × Int := framV (valsOf clS l) (valsOf teS l)
def framT (r : BodyEnd × Int) : T := .tup [.agg (endT r.1), .v (.int .i64 r.2)]
theorem valsOf_ok (n : ByteArray) {l : List Pl.Head} (hh : ∀ h ∈ l, okHead h) : ∀ s ∈ valsOf n l, s.size ≤ maxLen := by
  intro s hs
  unfold valsOf at hs
  obtain ⟨h, h1, rfl⟩ := List.mem_map.1 hs
  exact (hh h (List.mem_filter.1 h1).1).2
set_option maxRecDepth 100000 in
set_option maxHeartbeats 4000000 in
theorem framing_ (l : List Pl.Head) (hn : l.length ≤ 1000) (hh : ∀ h ∈ l, okHead h) : PCalls Tryz.prog 57 [headsT l] (framT (fram l)) := by
  have c1 := all_ clS l hn
  have c2 := all_ teS l hn
  have o1 := valsOf_ok clS hh
  have o2 := valsOf_ok teS hh
  have n1 := valsOf_len clS l
  have n2 := valsOf_len teS l
  unfold fram
  generalize valsOf clS l = a at *
  generalize valsOf teS l = b at *
  have m1 : (a.map strT).length = a.length := List.length_map _
  have m2 : (b.map strT).length = b.length := List.length_map _
  refine pcalls_of Tryz.func57 rfl rfl Tryz.ntmps57 rfl ?_
  match a, b with
  | [], [] =>
    simp only [List.length_nil] at m1 m2
    repeat' (first | (refine rg 0 ?_; refine sal str89 ?_; refine oAs ?_; refine oN ?_) | (refine rg 1 ?_; refine oMv ?_; refine oC (c1) rfl (ac (ac .nil)) ?_; refine oMv ?_; (first | refine oC (c1) rfl (ac (ac .nil)) ?_ | refine oC (c2) rfl (ac (ac .nil)) ?_); refine oAs ?_; refine oAs ?_; refine oN ?_) | (refine rg 2 ?_; refine oMv ?_; refine sp (pln rfl (tyS rfl)) ?_; refine oMv ?_; refine sp (pln rfl (tyS rfl)) ?_; (first | refine sp (xinc rfl) ?_ | refine sp (xadd rfl) ?_); refine oCm ?_; refine oMv ?_; refine oMv ?_ <;> refine sp (pln rfl (tyS rfl)) ?_ <;> refine oCm ?_ <;> refine oMv ?_ <;> (first | refine oMv ?_ | refine oK ?_) <;> (first | refine sp (pix rfl (tyS rfl)) ?_ | refine oK ?_) <;> (first | refine oLb ?_ | refine oLd ?_ | refine oK ?_) <;> (first | refine oC (c1) rfl (ac .nil) ?_ | refine oC (c2) rfl (ac .nil) ?_ | refine oK ?_) <;> (first | refine sp (po_str rfl rfl rfl rfl) ?_ | refine oK ?_) <;> (first | refine oPt ?_ | refine oPf ?_) <;> (first | refine oPt ?_ | refine oPf ?_) <;> refine oAs ?_ <;> refine oN ?_) | (refine rg 4 ?_; refine oMv ?_; refine sp (pln rfl (tyS rfl)) ?_; refine oCm ?_; refine oAs ?_; refine oN ?_) | (refine rg 6 ?_; refine oMv ?_; refine sp (pln rfl (tyS rfl)) ?_; refine oCm ?_; refine oAs ?_; refine oN ?_) | (refine rg 7 ?_; refine sp (po_buildS str89 rfl .nil rfl) ?_; refine oS ?_; refine oAs ?_; refine oN ?_) | refine gc ?_ | refine ct ?_ | refine cf ?_ | refine swp_cond rfl (fun hc => ?_) (fun hc => ?_) | refine rq rfl (.cell rfl rfl (tyT rfl) (vc (vc (vc .nil))) rfl (rt .nil)) ?_)
    rfl
  | [], [w] =>
    simp only [List.length_cons, List.length_nil] at m1 m2
    have c3 := small_ w (o2 w (by simp))
    by_cases hw : small w = chS
    · have hw' : (!decide (small w = chS)) = false := by simp [hw]
      rw [fv_w hw]
      repeat' (first | (refine rg 0 ?_; refine sal str89 ?_; refine oAs ?_; refine oN ?_) | (refine rg 1 ?_; refine oMv ?_; refine oC (c1) rfl (ac (ac .nil)) ?_; refine oMv ?_; (first | refine oC (c1) rfl (ac (ac .nil)) ?_ | refine oC (c2) rfl (ac (ac .nil)) ?_); refine oAs ?_; refine oAs ?_; refine oN ?_) | (refine rg 2 ?_; refine oMv ?_; refine sp (pln rfl (tyS rfl)) ?_; refine oMv ?_; refine sp (pln rfl (tyS rfl)) ?_; refine sp (xinc rfl) ?_; refine oCm ?_; refine oMv ?_; refine oMv ?_ <;> refine sp (pln rfl (tyS rfl)) ?_ <;> refine oCm ?_ <;> refine oMv ?_ <;> refine oMv ?_ <;> refine sp (pix rfl (tyS rfl)) ?_ <;> (first | refine oLb ?_ | refine oLd ?_) <;> (first | refine oC (c1) rfl (ac .nil) ?_ | refine oC (c2) rfl (ac .nil) ?_ | refine oC (c3) rfl (ac .nil) ?_) <;> refine sp (po_str rfl rfl rfl rfl) ?_ <;> refine oPt ?_ <;> (first | refine oPt ?_ | refine oPf ?_) <;> refine oAs ?_ <;> refine oN ?_) | (refine rg 4 ?_; refine oMv ?_; refine sp (pln rfl (tyS rfl)) ?_; refine oCm ?_; refine oAs ?_; refine oN ?_) | (refine rg 5 ?_; refine sp (po_buildS str89 rfl (pc .nil) rfl) ?_; refine oS ?_; refine oAs ?_; refine oN ?_) | refine gc ?_ | refine ct ?_ | refine cf ?_ | refine swp_cond rfl (fun hc => ?_) (fun hc => ?_) | refine rq rfl (.cell rfl rfl (tyT rfl) (vc (vc (vc .nil))) rfl (rt .nil)) ?_)
      rfl
    · have hw' : (!decide (small w = chS)) = true := by simp [hw]
      rw [fv_w' hw]
      repeat' (first | (refine rg 0 ?_; refine sal str89 ?_; refine oAs ?_; refine oN ?_) | (refine rg 1 ?_; refine oMv ?_; refine oC (c1) rfl (ac (ac .nil)) ?_; refine oMv ?_; (first | refine oC (c1) rfl (ac (ac .nil)) ?_ | refine oC (c2) rfl (ac (ac .nil)) ?_); refine oAs ?_; refine oAs ?_; refine oN ?_) | (refine rg 2 ?_; refine oMv ?_; refine sp (pln rfl (tyS rfl)) ?_; refine oMv ?_; refine sp (pln rfl (tyS rfl)) ?_; refine sp (xinc rfl) ?_; refine oCm ?_; refine oMv ?_; refine oMv ?_ <;> refine sp (pln rfl (tyS rfl)) ?_ <;> refine oCm ?_ <;> refine oMv ?_ <;> refine oMv ?_ <;> refine sp (pix rfl (tyS rfl)) ?_ <;> (first | refine oLb ?_ | refine oLd ?_) <;> (first | refine oC (c1) rfl (ac .nil) ?_ | refine oC (c2) rfl (ac .nil) ?_ | refine oC (c3) rfl (ac .nil) ?_) <;> refine sp (po_str rfl rfl rfl rfl) ?_ <;> refine oPt ?_ <;> (first | refine oPt ?_ | refine oPf ?_) <;> refine oAs ?_ <;> refine oN ?_) | (refine rg 3 ?_; refine sp (po_buildS str89 rfl .nil rfl) ?_; refine oS ?_; refine oAs ?_; refine oN ?_) | refine gc ?_ | refine ct ?_ | refine cf ?_ | refine swp_cond rfl (fun hc => ?_) (fun hc => ?_) | refine rq rfl (.cell rfl rfl (tyT rfl) (vc (vc (vc .nil))) rfl (rt .nil)) ?_)
      rfl
  | [s], [] =>
    simp only [List.length_cons, List.length_nil] at m1 m2
    have c3 := length_ s (o1 s (by simp))
    by_cases hw : (lenP s).2 = 0
    · have hw' : (!decide ((lenP s).2 = 0)) = false := by simp [hw]
      rw [fv_s hw]
      repeat' (first | (refine rg 0 ?_; refine sal str89 ?_; refine oAs ?_; refine oN ?_) | (refine rg 1 ?_; refine oMv ?_; refine oC (c1) rfl (ac (ac .nil)) ?_; refine oMv ?_; (first | refine oC (c1) rfl (ac (ac .nil)) ?_ | refine oC (c2) rfl (ac (ac .nil)) ?_); refine oAs ?_; refine oAs ?_; refine oN ?_) | (refine rg 2 ?_; refine oMv ?_; refine sp (pln rfl (tyS rfl)) ?_; refine oMv ?_; refine sp (pln rfl (tyS rfl)) ?_; (first | refine sp (xinc rfl) ?_ | refine sp (xadd rfl) ?_); refine oCm ?_; refine oMv ?_; refine oMv ?_ <;> refine sp (pln rfl (tyS rfl)) ?_ <;> refine oCm ?_ <;> refine oMv ?_ <;> (first | refine oMv ?_ | refine oK ?_) <;> (first | refine sp (pix rfl (tyS rfl)) ?_ | refine oK ?_) <;> (first | refine oLb ?_ | refine oLd ?_ | refine oK ?_) <;> (first | refine oC (c1) rfl (ac .nil) ?_ | refine oC (c2) rfl (ac .nil) ?_ | refine oC (c3) rfl (ac .nil) ?_ | refine oK ?_) <;> (first | refine sp (po_str rfl rfl rfl rfl) ?_ | refine oK ?_) <;> (first | refine oPt ?_ | refine oPf ?_) <;> (first | refine oPt ?_ | refine oPf ?_) <;> refine oAs ?_ <;> refine oN ?_) | (refine rg 4 ?_; refine oMv ?_; refine sp (pln rfl (tyS rfl)) ?_; refine oCm ?_; refine oAs ?_; refine oN ?_) | (refine rg 6 ?_; refine oMv ?_; refine sp (pln rfl (tyS rfl)) ?_; refine oCm ?_; refine oAs ?_; refine oN ?_) | (refine rg 8 ?_; refine oMv ?_; refine sp (pix rfl (tyS rfl)) ?_; (first | refine oLb ?_ | refine oLd ?_); (first | refine oC (c1) rfl (ac .nil) ?_ | refine oC (c2) rfl (ac .nil) ?_ | refine oC (c3) rfl (ac .nil) ?_); refine oMv ?_; refine oEx ?_; refine oEx ?_; refine oAs ?_; refine oAs ?_; refine oN ?_) | (refine rg 9 ?_; refine oMv ?_; refine oCm ?_; refine oN ?_) | (refine rg 11 ?_; refine oMv ?_; refine sp (po_buildS str89 rfl (pc (pc .nil)) rfl) ?_; refine oS ?_; refine oAs ?_; refine oN ?_) | refine gc ?_ | refine ct ?_ | refine cf ?_ | refine swp_cond rfl (fun hc => ?_) (fun hc => ?_) | refine rq rfl (.cell rfl rfl (tyT rfl) (vc (vc (vc .nil))) rfl (rt .nil)) ?_)
      rfl
    · have hw' : (!decide ((lenP s).2 = 0)) = true := by simp [hw]
      rw [fv_s' hw]
      repeat' (first | (refine rg 0 ?_; refine sal str89 ?_; refine oAs ?_; refine oN ?_) | (refine rg 1 ?_; refine oMv ?_; refine oC (c1) rfl (ac (ac .nil)) ?_; refine oMv ?_; (first | refine oC (c1) rfl (ac (ac .nil)) ?_ | refine oC (c2) rfl (ac (ac .nil)) ?_); refine oAs ?_; refine oAs ?_; refine oN ?_) | (refine rg 2 ?_; refine oMv ?_; refine sp (pln rfl (tyS rfl)) ?_; refine oMv ?_; refine sp (pln rfl (tyS rfl)) ?_; (first | refine sp (xinc rfl) ?_ | refine sp (xadd rfl) ?_); refine oCm ?_; refine oMv ?_; refine oMv ?_ <;> refine sp (pln rfl (tyS rfl)) ?_ <;> refine oCm ?_ <;> refine oMv ?_ <;> (first | refine oMv ?_ | refine oK ?_) <;> (first | refine sp (pix rfl (tyS rfl)) ?_ | refine oK ?_) <;> (first | refine oLb ?_ | refine oLd ?_ | refine oK ?_) <;> (first | refine oC (c1) rfl (ac .nil) ?_ | refine oC (c2) rfl (ac .nil) ?_ | refine oC (c3) rfl (ac .nil) ?_ | refine oK ?_) <;> (first | refine sp (po_str rfl rfl rfl rfl) ?_ | refine oK ?_) <;> (first | refine oPt ?_ | refine oPf ?_) <;> (first | refine oPt ?_ | refine oPf ?_) <;> refine oAs ?_ <;> refine oN ?_) | (refine rg 4 ?_; refine oMv ?_; refine sp (pln rfl (tyS rfl)) ?_; refine oCm ?_; refine oAs ?_; refine oN ?_) | (refine rg 6 ?_; refine oMv ?_; refine sp (pln rfl (tyS rfl)) ?_; refine oCm ?_; refine oAs ?_; refine oN ?_) | (refine rg 8 ?_; refine oMv ?_; refine sp (pix rfl (tyS rfl)) ?_; (first | refine oLb ?_ | refine oLd ?_); (first | refine oC (c1) rfl (ac .nil) ?_ | refine oC (c2) rfl (ac .nil) ?_ | refine oC (c3) rfl (ac .nil) ?_); refine oMv ?_; refine oEx ?_; refine oEx ?_; refine oAs ?_; refine oAs ?_; refine oN ?_) | (refine rg 9 ?_; refine oMv ?_; refine oCm ?_; refine oN ?_) | (refine rg 10 ?_; refine sp (po_buildS str89 rfl .nil rfl) ?_; refine oMv ?_; refine oS ?_; refine oAs ?_; refine oN ?_) | refine gc ?_ | refine ct ?_ | refine cf ?_ | refine swp_cond rfl (fun hc => ?_) (fun hc => ?_) | refine rq rfl (.cell rfl rfl (tyT rfl) (vc (vc (vc .nil))) rfl (rt .nil)) ?_)
      rfl
  | x :: y :: r, [] =>
    simp only [List.length_cons, List.length_nil] at m1 m2 n1 n2
    repeat' (first | (refine rg 0 ?_; refine sal str89 ?_; refine oAs ?_; refine oN ?_) | (refine rg 1 ?_; refine oMv ?_; refine oC (c1) rfl (ac (ac .nil)) ?_; refine oMv ?_; (first | refine oC (c1) rfl (ac (ac .nil)) ?_ | refine oC (c2) rfl (ac (ac .nil)) ?_); refine oAs ?_; refine oAs ?_; refine oN ?_) | (refine rg 2 ?_; refine oMv ?_; refine sp (pln rfl (tyS rfl)) ?_; refine oMv ?_; refine sp (pln rfl (tyS rfl)) ?_; (first | refine sp (xinc rfl) ?_ | refine sp (xadd rfl) ?_); refine oCm ?_; refine oMv ?_; (first | refine oMv ?_ | refine oK ?_) <;> (first | refine sp (pln rfl (tyS rfl)) ?_ | refine oK ?_) <;> (first | refine oCm ?_ | refine oK ?_) <;> (first | refine oMv ?_ | refine oK ?_) <;> (first | refine oMv ?_ | refine oK ?_) <;> (first | refine sp (pix rfl (tyS rfl)) ?_ | refine oK ?_) <;> (first | refine oLb ?_ | refine oLd ?_ | refine oK ?_) <;> (first | refine oC (c1) rfl (ac .nil) ?_ | refine oC (c2) rfl (ac .nil) ?_ | refine oK ?_) <;> (first | refine sp (po_str rfl rfl rfl rfl) ?_ | refine oK ?_) <;> (first | refine oPt ?_ | refine oPf ?_ | refine oK ?_) <;> refine oPt ?_ <;> refine oAs ?_ <;> refine oN ?_) | (refine rg 3 ?_; refine sp (po_buildS str89 rfl .nil rfl) ?_; refine oS ?_; refine oAs ?_; refine oN ?_) | refine gc ?_ | refine ct ?_ | refine cf ?_ | refine swp_cond rfl (fun hc => ?_) (fun hc => ?_) | refine rq rfl (.cell rfl rfl (tyT rfl) (vc (vc (vc .nil))) rfl (rt .nil)) ?_)
    rfl
  | x :: r, y :: q =>
    simp only [List.length_cons, List.length_nil] at m1 m2 n1 n2
    repeat' (first | (refine rg 0 ?_; refine sal str89 ?_; refine oAs ?_; refine oN ?_) | (refine rg 1 ?_; refine oMv ?_; refine oC (c1) rfl (ac (ac .nil)) ?_; refine oMv ?_; (first | refine oC (c1) rfl (ac (ac .nil)) ?_ | refine oC (c2) rfl (ac (ac .nil)) ?_); refine oAs ?_; refine oAs ?_; refine oN ?_) | (refine rg 2 ?_; refine oMv ?_; refine sp (pln rfl (tyS rfl)) ?_; refine oMv ?_; refine sp (pln rfl (tyS rfl)) ?_; (first | refine sp (xinc rfl) ?_ | refine sp (xadd rfl) ?_); refine oCm ?_; refine oMv ?_; (first | refine oMv ?_ | refine oK ?_) <;> (first | refine sp (pln rfl (tyS rfl)) ?_ | refine oK ?_) <;> (first | refine oCm ?_ | refine oK ?_) <;> (first | refine oMv ?_ | refine oK ?_) <;> (first | refine oMv ?_ | refine oK ?_) <;> (first | refine sp (pix rfl (tyS rfl)) ?_ | refine oK ?_) <;> (first | refine oLb ?_ | refine oLd ?_ | refine oK ?_) <;> (first | refine oC (c1) rfl (ac .nil) ?_ | refine oC (c2) rfl (ac .nil) ?_ | refine oK ?_) <;> (first | refine sp (po_str rfl rfl rfl rfl) ?_ | refine oK ?_) <;> (first | refine oPt ?_ | refine oPf ?_ | refine oK ?_) <;> refine oPt ?_ <;> refine oAs ?_ <;> refine oN ?_) | (refine rg 3 ?_; refine sp (po_buildS str89 rfl .nil rfl) ?_; refine oS ?_; refine oAs ?_; refine oN ?_) | refine gc ?_ | refine ct ?_ | refine cf ?_ | refine swp_cond rfl (fun hc => ?_) (fun hc => ?_) | refine rq rfl (.cell rfl rfl (tyT rfl) (vc (vc (vc .nil))) rfl (rt .nil)) ?_)
    cases r <;> cases q <;> rfl
  | [], x :: y :: r =>
    simp only [List.length_cons, List.length_nil] at m1 m2 n1 n2
    repeat' (first | (refine rg 0 ?_; refine sal str89 ?_; refine oAs ?_; refine oN ?_) | (refine rg 1 ?_; refine oMv ?_; refine oC (c1) rfl (ac (ac .nil)) ?_; refine oMv ?_; (first | refine oC (c1) rfl (ac (ac .nil)) ?_ | refine oC (c2) rfl (ac (ac .nil)) ?_); refine oAs ?_; refine oAs ?_; refine oN ?_) | (refine rg 2 ?_; refine oMv ?_; refine sp (pln rfl (tyS rfl)) ?_; refine oMv ?_; refine sp (pln rfl (tyS rfl)) ?_; (first | refine sp (xinc rfl) ?_ | refine sp (xadd rfl) ?_); refine oCm ?_; refine oMv ?_; (first | refine oMv ?_ | refine oK ?_) <;> (first | refine sp (pln rfl (tyS rfl)) ?_ | refine oK ?_) <;> (first | refine oCm ?_ | refine oK ?_) <;> (first | refine oMv ?_ | refine oK ?_) <;> (first | refine oMv ?_ | refine oK ?_) <;> (first | refine sp (pix rfl (tyS rfl)) ?_ | refine oK ?_) <;> (first | refine oLb ?_ | refine oLd ?_ | refine oK ?_) <;> (first | refine oC (c1) rfl (ac .nil) ?_ | refine oC (c2) rfl (ac .nil) ?_ | refine oK ?_) <;> (first | refine sp (po_str rfl rfl rfl rfl) ?_ | refine oK ?_) <;> (first | refine oPt ?_ | refine oPf ?_ | refine oK ?_) <;> refine oPt ?_ <;> refine oAs ?_ <;> refine oN ?_) | (refine rg 3 ?_; refine sp (po_buildS str89 rfl .nil rfl) ?_; refine oS ?_; refine oAs ?_; refine oN ?_) | refine gc ?_ | refine ct ?_ | refine cf ?_ | refine swp_cond rfl (fun hc => ?_) (fun hc => ?_) | refine rq rfl (.cell rfl rfl (tyT rfl) (vc (vc (vc .nil))) rfl (rt .nil)) ?_)
    rfl
/-- the number so far, no further than it is looked at -/
def satL (l : List UInt8) : Nat := l.foldl (fun n b => if n ≤ 1024 then 10 * n + (b.toNat - 48) else n) 0
theorem satL_snoc (l : List UInt8) {k : Nat} (h : k < l.length) : satL (l.take (k + 1)) = if satL (l.take k) ≤ 1024 then 10 * satL (l.take k) + (l[k].toNat - 48) else satL (l.take k) := by
  unfold satL
  rw [List.take_succ_eq_append_getElem h, List.foldl_append]; rfl
theorem satL_eq (l : List UInt8) : ∀ k, k ≤ l.length → (satL (l.take k) ≤ 1024 ∧ satL (l.take k) = numL (l.take k)) ∨ (1024 < satL (l.take k) ∧ 1024 < numL (l.take k) ∧ satL (l.take k) ≤ 10 * 1024 + 255)
  | 0, _ => .inl ⟨by simp [satL], rfl⟩
  | k + 1, h => by
    have ih := satL_eq l k (by omega)
    have h1 := satL_snoc l (k := k) (by omega)
    have h2 := numL_snoc l (k := k) (by omega)
    have h3 := (l[k]).toNat_lt
    rcases ih with ⟨h4, h5⟩ | ⟨h4, h5, h6⟩
    · rw [if_pos h4] at h1
      rw [h1, h2, h5]
      rw [h5] at h4
      omega
    · rw [if_neg (by omega)] at h1
      rw [h1, h2]
      omega
set_option maxRecDepth 100000 in
set_option maxHeartbeats 4000000 in
theorem refFraming_ (l : List Pl.Head) (hn : l.length ≤ 1000) (hh : ∀ h ∈ l, okHead h) : PCalls Tryz.prog 52 [headsT l] (framT (fram l)) := by
  have c1 := refAll_ clS l hn
  have c2 := refAll_ teS l hn
  have o1 := valsOf_ok clS hh
  have o2 := valsOf_ok teS hh
  have n1 := valsOf_len clS l
  have n2 := valsOf_len teS l
  unfold fram
  generalize valsOf clS l = a at *
  generalize valsOf teS l = b at *
  have m1 : (a.map strT).length = a.length := List.length_map _
  have m2 : (b.map strT).length = b.length := List.length_map _
  refine pcalls_of Tryz.func52 rfl rfl Tryz.ntmps52 rfl ?_
  match a, b with
  | [], [] =>
    simp only [List.length_nil] at m1 m2
    repeat' (first | (refine rg 0 ?_; refine sal str89 ?_; refine oAs ?_; refine oN ?_) | (refine rg 1 ?_; refine oMv ?_; refine oC (c1) rfl (ac (ac .nil)) ?_; refine oMv ?_; (first | refine oC (c1) rfl (ac (ac .nil)) ?_ | refine oC (c2) rfl (ac (ac .nil)) ?_); refine oAs ?_; refine oAs ?_; refine oN ?_) | (refine rg 2 ?_; refine oMv ?_; refine sp (pln rfl (tyS rfl)) ?_; refine oMv ?_; refine sp (pln rfl (tyS rfl)) ?_; (first | refine sp (xinc rfl) ?_ | refine sp (xadd rfl) ?_); refine oCm ?_; refine oN ?_) | (refine rg 4 ?_; refine oMv ?_; refine sp (pln rfl (tyS rfl)) ?_; refine oCm ?_; refine oN ?_) | (refine rg 8 ?_; refine oMv ?_; refine sp (pln rfl (tyS rfl)) ?_; refine oCm ?_; refine oN ?_) | (refine rg 9 ?_; refine sp (po_buildS str89 rfl .nil rfl) ?_; refine oS ?_; refine oAs ?_; refine oN ?_) | refine gc ?_ | refine ct ?_ | refine cf ?_ | refine swp_cond rfl (fun hc => ?_) (fun hc => ?_) | refine rq rfl (.cell rfl rfl (tyT rfl) (vc (vc (vc .nil))) rfl (rt .nil)) ?_)
    rfl
  | [], [w] =>
    simp only [List.length_cons, List.length_nil] at m1 m2
    have c3 := refSmall_ w (o2 w (by simp))
    by_cases hw : small w = chS
    · have hw' : (!decide (small w = chS)) = false := by simp [hw]
      rw [fv_w hw]
      repeat' (first | (refine rg 0 ?_; refine sal str89 ?_; refine oAs ?_; refine oN ?_) | (refine rg 1 ?_; refine oMv ?_; refine oC (c1) rfl (ac (ac .nil)) ?_; refine oMv ?_; (first | refine oC (c1) rfl (ac (ac .nil)) ?_ | refine oC (c2) rfl (ac (ac .nil)) ?_); refine oAs ?_; refine oAs ?_; refine oN ?_) | (refine rg 2 ?_; refine oMv ?_; refine sp (pln rfl (tyS rfl)) ?_; refine oMv ?_; refine sp (pln rfl (tyS rfl)) ?_; refine sp (xinc rfl) ?_; refine oCm ?_; refine oN ?_) | (refine rg 4 ?_; refine oMv ?_; refine sp (pln rfl (tyS rfl)) ?_; refine oCm ?_; refine oN ?_) | (refine rg 5 ?_; refine oMv ?_; refine sp (pix rfl (tyS rfl)) ?_; (first | refine oLb ?_ | refine oLd ?_); (first | refine oC (c1) rfl (ac .nil) ?_ | refine oC (c2) rfl (ac .nil) ?_ | refine oC (c3) rfl (ac .nil) ?_); refine sp (po_str rfl rfl rfl rfl) ?_; refine oN ?_) | (refine rg 7 ?_; refine sp (po_buildS str89 rfl (pc .nil) rfl) ?_; refine oS ?_; refine oAs ?_; refine oN ?_) | refine gc ?_ | refine ct ?_ | refine cf ?_ | refine swp_cond rfl (fun hc => ?_) (fun hc => ?_) | refine rq rfl (.cell rfl rfl (tyT rfl) (vc (vc (vc .nil))) rfl (rt .nil)) ?_)
      rfl
    · have hw' : (!decide (small w = chS)) = true := by simp [hw]
      rw [fv_w' hw]
      repeat' (first | (refine rg 0 ?_; refine sal str89 ?_; refine oAs ?_; refine oN ?_) | (refine rg 1 ?_; refine oMv ?_; refine oC (c1) rfl (ac (ac .nil)) ?_; refine oMv ?_; (first | refine oC (c1) rfl (ac (ac .nil)) ?_ | refine oC (c2) rfl (ac (ac .nil)) ?_); refine oAs ?_; refine oAs ?_; refine oN ?_) | (refine rg 2 ?_; refine oMv ?_; refine sp (pln rfl (tyS rfl)) ?_; refine oMv ?_; refine sp (pln rfl (tyS rfl)) ?_; refine sp (xinc rfl) ?_; refine oCm ?_; refine oN ?_) | (refine rg 4 ?_; refine oMv ?_; refine sp (pln rfl (tyS rfl)) ?_; refine oCm ?_; refine oN ?_) | (refine rg 5 ?_; refine oMv ?_; refine sp (pix rfl (tyS rfl)) ?_; (first | refine oLb ?_ | refine oLd ?_); (first | refine oC (c1) rfl (ac .nil) ?_ | refine oC (c2) rfl (ac .nil) ?_ | refine oC (c3) rfl (ac .nil) ?_); refine sp (po_str rfl rfl rfl rfl) ?_; refine oN ?_) | (refine rg 6 ?_; refine sp (po_buildS str89 rfl .nil rfl) ?_; refine oS ?_; refine oAs ?_; refine oN ?_) | refine gc ?_ | refine ct ?_ | refine cf ?_ | refine swp_cond rfl (fun hc => ?_) (fun hc => ?_) | refine rq rfl (.cell rfl rfl (tyT rfl) (vc (vc (vc .nil))) rfl (rt .nil)) ?_)
      rfl
  | [s], [] =>
    simp only [List.length_cons, List.length_nil] at m1 m2
    have hs : s.size ≤ 9223372036854775807 := by have := o1 s (by simp); unfold maxLen at this; omega
    have hl := toList_len s
    cases h0 : lead0 s with
    | true =>
      rw [fv_s' (by rw [lenP_lead h0]; decide), lenP_lead h0]
      rcases lead0_yes h0 with h1 | ⟨h1, h2⟩
      · repeat' (first | (refine rg 0 ?_; refine sal str89 ?_; refine oAs ?_; refine oN ?_) | (refine rg 1 ?_; refine oMv ?_; refine oC (c1) rfl (ac (ac .nil)) ?_; refine oMv ?_; (first | refine oC (c1) rfl (ac (ac .nil)) ?_ | refine oC (c2) rfl (ac (ac .nil)) ?_); refine oAs ?_; refine oAs ?_; refine oN ?_) | (refine rg 2 ?_; refine oMv ?_; refine sp (pln rfl (tyS rfl)) ?_; refine oMv ?_; refine sp (pln rfl (tyS rfl)) ?_; (first | refine sp (xinc rfl) ?_ | refine sp (xadd rfl) ?_); refine oCm ?_; refine oN ?_) | (refine rg 4 ?_; refine oMv ?_; refine sp (pln rfl (tyS rfl)) ?_; refine oCm ?_; refine oN ?_) | (refine rg 8 ?_; refine oMv ?_; refine sp (pln rfl (tyS rfl)) ?_; refine oCm ?_; refine oN ?_) | (refine rg 10 ?_; refine oMv ?_; refine sp (pix rfl (tyS rfl)) ?_; (first | refine oLb ?_ | refine oLd ?_); refine oAs ?_; refine oN ?_) | (refine rg 11 ?_; refine oAs ?_; refine oN ?_) | (refine rg 12 ?_; refine oMv ?_; refine sp (po_len_str rfl rfl (tyR rfl)) ?_; refine oCm ?_; refine oMv ?_; (first | refine oMv ?_ | refine oK ?_) <;> (first | refine sp (po_len_str rfl rfl (tyR rfl)) ?_ | refine oK ?_) <;> (first | refine oCm ?_ | refine oK ?_) <;> (first | refine oMv ?_ | refine oK ?_) <;> (first | refine oMv ?_ | refine oK ?_) <;> (first | refine sp (po_index_str (k := 0) rfl rfl rfl (tyR rfl) (by rfl) (by first | assumption | omega)) ?_ | refine oK ?_) <;> (first | refine oCm ?_ | refine oK ?_) <;> (first | refine oPt ?_ | refine oPf ?_ | refine oK ?_) <;> refine oPt ?_ <;> refine oN ?_) | (refine rg 13 ?_; refine sp (po_buildS str89 rfl .nil rfl) ?_; refine oS ?_; refine oAs ?_; refine oN ?_) | refine gc ?_ | refine ct ?_ | refine cf ?_ | refine swp_cond rfl (fun hc => ?_) (fun hc => ?_) | refine rq rfl (.cell rfl rfl (tyT rfl) (vc (vc (vc .nil))) rfl (rt .nil)) ?_)
        rfl
      · have h3 := h2 (by omega)
        repeat' (first | (refine rg 0 ?_; refine sal str89 ?_; refine oAs ?_; refine oN ?_) | (refine rg 1 ?_; refine oMv ?_; refine oC (c1) rfl (ac (ac .nil)) ?_; refine oMv ?_; (first | refine oC (c1) rfl (ac (ac .nil)) ?_ | refine oC (c2) rfl (ac (ac .nil)) ?_); refine oAs ?_; refine oAs ?_; refine oN ?_) | (refine rg 2 ?_; refine oMv ?_; refine sp (pln rfl (tyS rfl)) ?_; refine oMv ?_; refine sp (pln rfl (tyS rfl)) ?_; (first | refine sp (xinc rfl) ?_ | refine sp (xadd rfl) ?_); refine oCm ?_; refine oN ?_) | (refine rg 4 ?_; refine oMv ?_; refine sp (pln rfl (tyS rfl)) ?_; refine oCm ?_; refine oN ?_) | (refine rg 8 ?_; refine oMv ?_; refine sp (pln rfl (tyS rfl)) ?_; refine oCm ?_; refine oN ?_) | (refine rg 10 ?_; refine oMv ?_; refine sp (pix rfl (tyS rfl)) ?_; (first | refine oLb ?_ | refine oLd ?_); refine oAs ?_; refine oN ?_) | (refine rg 11 ?_; refine oAs ?_; refine oN ?_) | (refine rg 12 ?_; refine oMv ?_; refine sp (po_len_str rfl rfl (tyR rfl)) ?_; refine oCm ?_; refine oMv ?_; refine oMv ?_ <;> refine sp (po_len_str rfl rfl (tyR rfl)) ?_ <;> refine oCm ?_ <;> refine oMv ?_ <;> refine oMv ?_ <;> refine sp (po_index_str (k := 0) rfl rfl rfl (tyR rfl) (by rfl) (by first | assumption | omega)) ?_ <;> refine oCm ?_ <;> refine oPt ?_ <;> (first | refine oPt ?_ | refine oPf ?_) <;> refine oN ?_) | (refine rg 13 ?_; refine sp (po_buildS str89 rfl .nil rfl) ?_; refine oS ?_; refine oAs ?_; refine oN ?_) | refine gc ?_ | refine ct ?_ | refine cf ?_ | refine swp_cond rfl (fun hc => ?_) (fun hc => ?_) | refine rq rfl (.cell rfl rfl (tyT rfl) (vc (vc (vc .nil))) rfl (rt .nil)) ?_)
        rfl
    | false =>
      obtain ⟨h1, h2⟩ := lead0_no h0
      have h3 := h2 h1
      have hcs : s.size = 1 ∨ (1 < s.size ∧ s[0].toNat ≠ 48) := by omega
      rcases hcs with h4 | ⟨h4, h5⟩
      all_goals
        repeat' (first | (refine rg 0 ?_; refine sal str89 ?_; refine oAs ?_; refine oN ?_) | (refine rg 1 ?_; refine oMv ?_; refine oC (c1) rfl (ac (ac .nil)) ?_; refine oMv ?_; (first | refine oC (c1) rfl (ac (ac .nil)) ?_ | refine oC (c2) rfl (ac (ac .nil)) ?_); refine oAs ?_; refine oAs ?_; refine oN ?_) | (refine rg 2 ?_; refine oMv ?_; refine sp (pln rfl (tyS rfl)) ?_; refine oMv ?_; refine sp (pln rfl (tyS rfl)) ?_; (first | refine sp (xinc rfl) ?_ | refine sp (xadd rfl) ?_); refine oCm ?_; refine oN ?_) | (refine rg 4 ?_; refine oMv ?_; refine sp (pln rfl (tyS rfl)) ?_; refine oCm ?_; refine oN ?_) | (refine rg 8 ?_; refine oMv ?_; refine sp (pln rfl (tyS rfl)) ?_; refine oCm ?_; refine oN ?_) | (refine rg 10 ?_; refine oMv ?_; refine sp (pix rfl (tyS rfl)) ?_; (first | refine oLb ?_ | refine oLd ?_); refine oAs ?_; refine oN ?_) | (refine rg 11 ?_; refine oAs ?_; refine oN ?_) | (refine rg 12 ?_; refine oMv ?_; refine sp (po_len_str rfl rfl (tyR rfl)) ?_; refine oCm ?_; refine oMv ?_; refine oMv ?_ <;> refine sp (po_len_str rfl rfl (tyR rfl)) ?_ <;> refine oCm ?_ <;> refine oMv ?_ <;> (first | refine oMv ?_ | refine oK ?_) <;> (first | refine sp (po_index_str (k := 0) rfl rfl rfl (tyR rfl) (by rfl) (by assumption)) ?_ | refine oK ?_) <;> (first | refine oCm ?_ | refine oK ?_) <;> (first | refine oPt ?_ | refine oPf ?_) <;> (first | refine oPt ?_ | refine oPf ?_) <;> refine oN ?_) | (refine rg 14 ?_; refine oAs ?_; refine oN ?_) | refine gc ?_ | refine ct ?_ | refine cf ?_ | refine swp_cond rfl (fun hc => ?_) (fun hc => ?_) | refine rq rfl (.cell rfl rfl (tyT rfl) (vc (vc (vc .nil))) rfl (rt .nil)) ?_)
        refine swp_for (fun k => ⟨[(2, .bp 2 0), (6, .t (.v (.string s))), (7, .t (.v (.int .i64 ((satL (s.toList.take k) : Nat) : Int)))), (8, .t (.v (.int .i64 (k : Int))))], [(2, (endT ⟨0, 0, 0⟩).map A.t)], []⟩) (fun k => (s.toList.take k).all digB = true) s.size (weak_sub (.cons rfl rfl rfl (.cons rfl rfl rfl (.cons rfl rfl rfl (.cons rfl rfl rfl .nil)))) (.cons rfl rfl rfl .nil) .nil) rfl ?_
        intro k hk hI
        by_cases hlt : k < s.size
        · cases hd : digB s[k] with
          | true =>
            have hd2 : 48 ≤ s[k].toNat ∧ s[k].toNat ≤ 57 := by unfold digB at hd; simpa using hd
            have hn := satL_snoc s.toList (k := k) (by omega)
            rw [toList_at s hlt] at hn
            have hb := satL_eq s.toList k (by omega)
            by_cases hm : satL (s.toList.take k) ≤ 1024
            · rw [if_pos hm] at hn
              repeat' (first | refine for_next hlt (weak_sub (.cons rfl (by rfl) rfl (.cons rfl (by rfl) rfl (.cons rfl (by first | rfl | (exact congrArg (fun n => A.t (T.v (Value.int .i64 n))) (by rw [hn]; omega))) rfl (.cons rfl (by rfl) rfl .nil)))) (.cons rfl (by rfl) rfl .nil) .nil) (all_snoc hI hlt hd) | (refine rg 15 ?_; refine oMv ?_; refine oMv ?_; refine sp (po_len_str rfl rfl (tyR rfl)) ?_; refine oCm ?_; refine oN ?_) | (refine rg 17 ?_; refine oMv ?_; refine oMv ?_; refine sp (xist rfl) ?_; refine oCm ?_; refine oMv ?_; refine oMv ?_ <;> refine oMv ?_ <;> refine sp (xist rfl) ?_ <;> refine oCm ?_ <;> (first | refine oPt ?_ | refine oPf ?_) <;> refine oN ?_) | (refine rg 19 ?_; refine oMv ?_; refine oCm ?_; refine oN ?_) | (refine rg 20 ?_; refine oMv ?_; refine sp (po_arith rfl rfl rfl (ar_mul (by first | rfl | (refine wrap_i64 ?_; omega)) rfl)) ?_; refine oMv ?_; refine oMv ?_; refine sp (xist rfl) ?_; refine sp (po_conv_int rfl rfl (tyK rfl) (tyK rfl) (by (refine wrap_i64 ?_; omega))) ?_; (first | refine sp (xinc rfl) ?_ | refine sp (xadd rfl) ?_); (first | refine sp (po_dec rfl rfl rfl (by omega)) ?_ | refine sp (po_arith rfl rfl rfl (ar_sub (by first | rfl | (refine wrap_i64 ?_; omega)) rfl)) ?_); refine oAs ?_; refine oN ?_) | (refine rg 16 ?_; refine oMv ?_; refine sp (xinc rfl) ?_; refine oAs ?_; refine oN ?_) | refine gc ?_ | refine ct ?_ | refine cf ?_)
            · rw [if_neg hm] at hn
              repeat' (first | refine for_next hlt (weak_sub (.cons rfl (by rfl) rfl (.cons rfl (by rfl) rfl (.cons rfl (by first | rfl | (rw [hn])) rfl (.cons rfl (by rfl) rfl .nil)))) (.cons rfl (by rfl) rfl .nil) .nil) (all_snoc hI hlt hd) | (refine rg 15 ?_; refine oMv ?_; refine oMv ?_; refine sp (po_len_str rfl rfl (tyR rfl)) ?_; refine oCm ?_; refine oN ?_) | (refine rg 17 ?_; refine oMv ?_; refine oMv ?_; refine sp (xist rfl) ?_; refine oCm ?_; refine oMv ?_; refine oMv ?_ <;> refine oMv ?_ <;> refine sp (xist rfl) ?_ <;> refine oCm ?_ <;> (first | refine oPt ?_ | refine oPf ?_) <;> refine oN ?_) | (refine rg 19 ?_; refine oMv ?_; refine oCm ?_; refine oN ?_) | (refine rg 16 ?_; refine oMv ?_; refine sp (xinc rfl) ?_; refine oAs ?_; refine oN ?_) | refine gc ?_ | refine ct ?_ | refine cf ?_)
          | false =>
            have hlb := lenP_bad (all_bad hlt hd)
            rw [fv_s' (by rw [hlb]; decide), hlb]
            have hd2 : s[k].toNat < 48 ∨ 57 < s[k].toNat := by unfold digB at hd; simp at hd; omega
            rcases hd2 with hd2 | hd2
            all_goals
              repeat' (first | (refine rg 15 ?_; refine oMv ?_; refine oMv ?_; refine sp (po_len_str rfl rfl (tyR rfl)) ?_; refine oCm ?_; refine oN ?_) | (refine rg 17 ?_; refine oMv ?_; refine oMv ?_; refine sp (xist rfl) ?_; refine oCm ?_; refine oMv ?_; (first | refine oMv ?_ | refine oK ?_) <;> (first | refine oMv ?_ | refine oK ?_) <;> (first | refine sp (xist rfl) ?_ | refine oK ?_) <;> (first | refine oCm ?_ | refine oK ?_) <;> (first | refine oPt ?_ | refine oPf ?_) <;> refine oN ?_) | (refine rg 18 ?_; refine sp (po_buildS str89 rfl .nil rfl) ?_; refine oS ?_; refine oAs ?_; refine oN ?_) | refine gc ?_ | refine ct ?_ | refine cf ?_ | refine swp_cond rfl (fun hc => ?_) (fun hc => ?_) | refine rq rfl (.cell rfl rfl (tyT rfl) (vc (vc (vc .nil))) rfl (rt .nil)) ?_)
              rfl
        · obtain rfl : k = s.size := by omega
          have hb := satL_eq s.toList s.size (by omega)
          rw [take_full s (Nat.lt_irrefl _)] at hI hb ⊢
          by_cases hm : numL s.toList ≤ 1024
          · have hlb := lenP_ok hI h0 hm
            rw [fv_s (by rw [hlb]), hlb]
            have hm2 : satL s.toList ≤ 1024 := by omega
            have hm3 : satL s.toList = numL s.toList := by omega
            repeat' (first | (refine rg 15 ?_; refine oMv ?_; refine oMv ?_; refine sp (po_len_str rfl rfl (tyR rfl)) ?_; refine oCm ?_; refine oN ?_) | (refine rg 21 ?_; refine oMv ?_; refine oCm ?_; refine oN ?_) | (refine rg 23 ?_; refine oMv ?_; refine sp (po_buildS str89 rfl (pc (pc .nil)) rfl) ?_; refine oS ?_; refine oAs ?_; refine oN ?_) | refine gc ?_ | refine ct ?_ | refine cf ?_ | refine swp_cond rfl (fun hc => ?_) (fun hc => ?_) | refine rq rfl (.cell rfl rfl (tyT rfl) (vc (vc (vc .nil))) rfl (rt .nil)) ?_)
            rw [hm3]; rfl
          · have hlb := lenP_long hI h0 hm
            rw [fv_s' (by rw [hlb]; decide), hlb]
            have hm2 : ¬ satL s.toList ≤ 1024 := by omega
            repeat' (first | (refine rg 15 ?_; refine oMv ?_; refine oMv ?_; refine sp (po_len_str rfl rfl (tyR rfl)) ?_; refine oCm ?_; refine oN ?_) | (refine rg 21 ?_; refine oMv ?_; refine oCm ?_; refine oN ?_) | (refine rg 22 ?_; refine sp (po_buildS str89 rfl .nil rfl) ?_; refine oS ?_; refine oAs ?_; refine oN ?_) | refine gc ?_ | refine ct ?_ | refine cf ?_ | refine swp_cond rfl (fun hc => ?_) (fun hc => ?_) | refine rq rfl (.cell rfl rfl (tyT rfl) (vc (vc (vc .nil))) rfl (rt .nil)) ?_)
            rfl
  | x :: y :: r, [] =>
    simp only [List.length_cons, List.length_nil] at m1 m2 n1 n2
    repeat' (first | (refine rg 0 ?_; refine sal str89 ?_; refine oAs ?_; refine oN ?_) | (refine rg 1 ?_; refine oMv ?_; refine oC (c1) rfl (ac (ac .nil)) ?_; refine oMv ?_; (first | refine oC (c1) rfl (ac (ac .nil)) ?_ | refine oC (c2) rfl (ac (ac .nil)) ?_); refine oAs ?_; refine oAs ?_; refine oN ?_) | (refine rg 2 ?_; refine oMv ?_; refine sp (pln rfl (tyS rfl)) ?_; refine oMv ?_; refine sp (pln rfl (tyS rfl)) ?_; (first | refine sp (xinc rfl) ?_ | refine sp (xadd rfl) ?_); refine oCm ?_; refine oN ?_) | (refine rg 3 ?_; refine sp (po_buildS str89 rfl .nil rfl) ?_; refine oS ?_; refine oAs ?_; refine oN ?_) | refine gc ?_ | refine ct ?_ | refine cf ?_ | refine swp_cond rfl (fun hc => ?_) (fun hc => ?_) | refine rq rfl (.cell rfl rfl (tyT rfl) (vc (vc (vc .nil))) rfl (rt .nil)) ?_)
    rfl
  | x :: r, y :: q =>
    simp only [List.length_cons, List.length_nil] at m1 m2 n1 n2
    repeat' (first | (refine rg 0 ?_; refine sal str89 ?_; refine oAs ?_; refine oN ?_) | (refine rg 1 ?_; refine oMv ?_; refine oC (c1) rfl (ac (ac .nil)) ?_; refine oMv ?_; (first | refine oC (c1) rfl (ac (ac .nil)) ?_ | refine oC (c2) rfl (ac (ac .nil)) ?_); refine oAs ?_; refine oAs ?_; refine oN ?_) | (refine rg 2 ?_; refine oMv ?_; refine sp (pln rfl (tyS rfl)) ?_; refine oMv ?_; refine sp (pln rfl (tyS rfl)) ?_; (first | refine sp (xinc rfl) ?_ | refine sp (xadd rfl) ?_); refine oCm ?_; refine oN ?_) | (refine rg 3 ?_; refine sp (po_buildS str89 rfl .nil rfl) ?_; refine oS ?_; refine oAs ?_; refine oN ?_) | refine gc ?_ | refine ct ?_ | refine cf ?_ | refine swp_cond rfl (fun hc => ?_) (fun hc => ?_) | refine rq rfl (.cell rfl rfl (tyT rfl) (vc (vc (vc .nil))) rfl (rt .nil)) ?_)
    cases r <;> cases q <;> rfl
  | [], x :: y :: r =>
    simp only [List.length_cons, List.length_nil] at m1 m2 n1 n2
    repeat' (first | (refine rg 0 ?_; refine sal str89 ?_; refine oAs ?_; refine oN ?_) | (refine rg 1 ?_; refine oMv ?_; refine oC (c1) rfl (ac (ac .nil)) ?_; refine oMv ?_; (first | refine oC (c1) rfl (ac (ac .nil)) ?_ | refine oC (c2) rfl (ac (ac .nil)) ?_); refine oAs ?_; refine oAs ?_; refine oN ?_) | (refine rg 2 ?_; refine oMv ?_; refine sp (pln rfl (tyS rfl)) ?_; refine oMv ?_; refine sp (pln rfl (tyS rfl)) ?_; (first | refine sp (xinc rfl) ?_ | refine sp (xadd rfl) ?_); refine oCm ?_; refine oN ?_) | (refine rg 3 ?_; refine sp (po_buildS str89 rfl .nil rfl) ?_; refine oS ?_; refine oAs ?_; refine oN ?_) | refine gc ?_ | refine ct ?_ | refine cf ?_ | refine swp_cond rfl (fun hc => ?_) (fun hc => ?_) | refine rq rfl (.cell rfl rfl (tyT rfl) (vc (vc (vc .nil))) rfl (rt .nil)) ?_)
    rfl
end Go.Proofs.YtloippgblkoemaaGreatDoor.Hd

/- Headers: the chapter's examples: a walk. -/
namespace Go.Proofs.YtloippgblkoemaaGreatDoor.Hd
set_option linter.unusedVariables false
set_option linter.unusedSimpArgs false
open Go.RowKit Mem Sim Opn Str
def heqB (a b : Pl.Head) : Bool := decide (a.name = b.name) && decide (a.value = b.value)
theorem heqB_iff (a b : Pl.Head) : heqB a b = true ↔ a = b := by
  cases a; cases b; simp [heqB]
theorem head_Ex (h : Pl.Head) : Ex (.agg (headT h)) (.agg [Value.string h.name, .string h.value].toArray) := Ex.agg rfl (fun j t v h1 h2 => by
  match j, h1, h2 with
  | 0, h1, h2 => simp [headT] at h1 h2; subst h1 h2; rfl
  | 1, h1, h2 => simp [headT] at h1 h2; subst h1 h2; rfl)
theorem hne_run (c : Bool) (a b : Pl.Head) (hc : (!heqB a b) = c) (w : World) (x y : Operand) : ((do eqGuard .neq 65 x y (.agg [Value.string a.name, .string a.value].toArray) (.agg [Value.string b.name, .string b.value].toArray); binOp .neq 65 (.agg [Value.string a.name, .string a.value].toArray) (.agg [Value.string b.name, .string b.value].toArray)) : Sem Value).run Tryz.prog w = .ok (.bool c) w := by
  have hm : Tryz.prog.eqGuardType Tryz.prog.depth 65 = false := by kernel_rfl
  rw [Sem.run_bind, run_eqGuard_agg _ _ _ _ _ _ _ hm]
  simp only [Result.andThen_ok]
  rw [run_neq_struct]
  subst hc
  simp [go_sem]
  have t1 : (a.name.toList = b.name.toList) ↔ a.name = b.name := ⟨bs_inj, congrArg _⟩
  have t2 : (a.value.toList = b.value.toList) ↔ a.value = b.value := ⟨bs_inj, congrArg _⟩
  by_cases h1 : a.name = b.name <;> by_cases h2 : a.value = b.value <;> simp [h1, h2, heqB, ba_eq, t1, t2]
/- on lists of bytes, to be computed -/
end Go.Proofs.YtloippgblkoemaaGreatDoor.Hd

/- Headers: a name's first value, headers alike: walks. -/
namespace Go.Proofs.YtloippgblkoemaaGreatDoor.Hd
set_option linter.unusedVariables false
set_option linter.unusedSimpArgs false
open Go.RowKit Mem Sim Opn Str
theorem cellsAre_nil (m : Mm) : CellsAre m [] [] := ⟨rfl, fun j t v h => by simp at h⟩
theorem cellsAre_cons {m : Mm} {t : T} {v : Value} {ts : List T} {vs : List Value} (h : TR m t v) (h1 : v.oneCell' = true) (hs : CellsAre m ts vs) : CellsAre m (t :: ts) (v :: vs) := by
  refine ⟨by simp [hs.1], fun j t' v' h2 h3 => ?_⟩
  cases j with
  | zero => simp at h2 h3; subst h2 h3; exact ⟨h, h1⟩
  | succ j => exact hs.2 j t' v' (by simpa using h2) (by simpa using h3)
theorem agg_bwd {m : Mm} {cs : List T} {vs : List Value} (h : CellsAre m cs vs) : TR m (.agg cs) (.agg vs.toArray) :=
  .agg cs vs.toArray (by simpa using h.1) (fun v hv => by
    obtain ⟨j, hj⟩ := List.getElem?_of_mem hv
    obtain ⟨t, ht⟩ : ∃ t, cs[j]? = some t := by
      have : j < cs.length := by rw [← h.1]; exact (List.getElem?_eq_some_iff.1 hj).1
      exact ⟨_, List.getElem?_eq_getElem this⟩
    exact (h.2 j t v ht hj).2) (fun j t v h1 h2 => (h.2 j t v h1 (by simpa using h2)).1)
theorem po_remc {P : Program} {bx : List (Nat × List A)} {ow : List (Nat × Own)} {o : Oper} {ρ : Operand → Option A} {t t2 : TypeId} {x y : Operand} {k : IntKind} {i j c : Int} (hc : i.tmod j = c) (ho : o.op = .binOp .rem t x y t2) (hx : ρ x = some (.t (.v (.int k i)))) (hy : ρ y = some (.t (.v (.int k j)))) (hj : j ≠ 0) : PureOp P bx ow o ρ (.t (.v (.int k c))) := by
  subst hc; exact po_rem ho hx hy hj
theorem take_eq_allH {a b : List Pl.Head} {k : Nat} (h1 : k < a.length) (h2 : k < b.length) (h : a.take k = b.take k) (he : a[k] = b[k]) : a.take (k + 1) = b.take (k + 1) := by
  rw [List.take_succ_eq_append_getElem h1, List.take_succ_eq_append_getElem h2, h, he]
set_option maxRecDepth 100000 in
/-- headers that are alike -/
theorem same_ (a : List Pl.Head) (ha : a.length ≤ 1000) : PCalls Tryz.prog 33 [headsT a, headsT a] (.v (.bool true)) := by
  have hma : (a.map headT).length = a.length := List.length_map _
  refine pcalls_of Tryz.func33 rfl rfl Tryz.ntmps33 rfl ?_
  have h0 : (!decide (((a.map headT).length : Int) = ((a.map headT).length : Int))) = false := by simp
  repeat' (first | (refine rg 0 ?_; refine oAs ?_; refine oN ?_) | (refine rg 1 ?_; refine oMv ?_; refine sp (pln rfl (tyS rfl)) ?_; refine oMv ?_; refine sp (pln rfl (tyS rfl)) ?_; refine oCm ?_; refine oN ?_) | (refine rg 3 ?_; refine oAs ?_; refine oN ?_) | refine gc ?_ | refine ct ?_ | refine cf ?_ | refine swp_cond rfl (fun hc => ?_) (fun hc => ?_) | refine rq rfl (rt .nil) ?_)
  refine swp_for (fun k => ⟨[(0, .t (headsT a)), (1, .t (headsT a)), (5, .t (.v (.int .i64 (k : Int))))], [], []⟩) (fun _ => True) a.length (weak_sub (.cons rfl rfl rfl (.cons rfl rfl rfl (.cons rfl rfl rfl .nil))) .nil .nil) trivial ?_
  intro k hk _
  by_cases hlt : k < a.length
  · have hq : (!heqB a[k] a[k]) = false := by rw [(heqB_iff _ _).2 rfl]; rfl
    repeat' (first | refine for_next hlt (weak_sub (.cons rfl rfl rfl (.cons rfl rfl rfl (.cons rfl rfl rfl .nil))) .nil .nil) trivial | (refine rg 4 ?_; refine oMv ?_; refine oMv ?_; refine sp (pln rfl (tyS rfl)) ?_; (first | refine sp (po_ex2 rfl rfl rfl (head_Ex a[k]) (head_Ex a[k]) (hne_run false _ _ hq)) ?_ | refine oCm ?_); refine oN ?_) | (refine rd 6 ?_; refine dMv ?_; refine dMv ?_; refine dp (pix rfl (tyS rfl)) ?_; (first | refine dp (po_load_bx_agg rfl rfl (tyT rfl) rfl (vc (vc .nil)) rfl) ?_ | refine dp (po_load_agg rfl rfl (tyT rfl) rfl rfl) ?_); refine dMv ?_; refine dMv ?_; refine dp (pix rfl (tyS rfl)) ?_; (first | refine dp (po_load_bx_agg rfl rfl (tyT rfl) rfl (vc (vc .nil)) rfl) ?_ | refine dp (po_load_agg rfl rfl (tyT rfl) rfl rfl) ?_); refine dp (po_ex2 rfl rfl rfl (head_Ex a[k]) (head_Ex a[k]) (hne_run false _ _ hq)) ?_; refine dN ?_; refine oN ?_) | (refine rg 5 ?_; refine oMv ?_; refine sp (xinc rfl) ?_; refine oAs ?_; refine oN ?_) | refine gc ?_ | refine ct ?_ | refine cf ?_)
  · obtain rfl : k = a.length := by omega
    repeat' (first | (refine rg 4 ?_; refine oMv ?_; refine oMv ?_; refine sp (pln rfl (tyS rfl)) ?_; refine oCm ?_; refine oN ?_) | (refine rg 8 ?_; refine oAs ?_; refine oN ?_) | refine gc ?_ | refine ct ?_ | refine cf ?_ | refine swp_cond rfl (fun hc => ?_) (fun hc => ?_) | refine rq rfl (rt .nil) ?_)
    rfl
end Go.Proofs.YtloippgblkoemaaGreatDoor.Hd
