/- Merged by bundles.py: SimHd9, SimHd10, SimHd11, SimHd12, PlReq. -/
import Derived.Test.YtloippgblkoemaaGreatDoorB15
import Derived.Test.YtloippgblkoemaaGreatDoorB13
import Derived.Test.YtloippgblkoemaaGreatDoorB0
/- Headers: framing: walks. -/
namespace Go.Proofs.YtloippgblkoemaaGreatDoor.Hd
set_option linter.unusedVariables false
set_option linter.unusedSimpArgs false
open Go.RowKit Mem Sim Opn Str
structure BodyEnd where
  chunked : Int
  has : Int
  length : Int
def endT (b : BodyEnd) : List T := [.v (.int .i64 b.chunked), .v (.int .i64 b.has), .v (.int .i64 b.length)]
abbrev clS : ByteArray := ⟨#[99, 111, 110, 116, 101, 110, 116, 45, 108, 101, 110, 103, 116, 104]⟩
abbrev teS : ByteArray := ⟨#[116, 114, 97, 110, 115, 102, 101, 114, 45, 101, 110, 99, 111, 100, 105, 110, 103]⟩
abbrev chS : ByteArray := ⟨#[99, 104, 117, 110, 107, 101, 100]⟩
def framV : List ByteArray → List ByteArray → BodyEnd × Int
  | [], [] => (⟨0, 0, 0⟩, 0)
  | [], [w] => if small w = chS then (⟨1, 0, 0⟩, 0) else (⟨0, 0, 0⟩, 2)
  | [s], [] => if (lenP s).2 = 0 then (⟨0, 1, (lenP s).1⟩, 0) else (⟨0, 0, 0⟩, (lenP s).2)
  | _, _ => (⟨0, 0, 0⟩, 2)
theorem fv_w {w : ByteArray} (h : small w = chS) : framV [] [w] = (⟨1, 0, 0⟩, 0) := by simp only [framV]; rw [if_pos h]
theorem fv_w' {w : ByteArray} (h : ¬ small w = chS) : framV [] [w] = (⟨0, 0, 0⟩, 2) := by simp only [framV]; rw [if_neg h]
theorem fv_s {s : ByteArray} (h : (lenP s).2 = 0) : framV [s] [] = (⟨0, 1, (lenP s).1⟩, 0) := by simp only [framV]; rw [if_pos h]
theorem fv_s' {s : ByteArray} (h : ¬ (lenP s).2 = 0) : framV [s] [] = (⟨0, 0, 0⟩, (lenP s).2) := by simp only [framV]; rw [if_neg h]
def fram (l : List Pl.Head) : BodyEnd × Int := framV (valsOf clS l) (valsOf teS l)
def framT (r : BodyEnd × Int) : T := .tup [.agg (endT r.1), .v (.int .i64 r.2)]
theorem valsOf_ok (n : ByteArray) {l : List Pl.Head} (hh : ∀ h ∈ l, okHead h) : ∀ s ∈ valsOf n l, s.size ≤ maxLen := by
  intro s hs
  unfold valsOf at hs
  obtain ⟨h, h1, rfl⟩ := List.mem_map.1 hs
  exact (hh h (List.mem_filter.1 h1).1).2
set_option maxRecDepth 100000 in
set_option maxHeartbeats 4000000 in
theorem framing_ (l : List Pl.Head) (hn : l.length ≤ 1000) (hh : ∀ h ∈ l, okHead h) : PCalls Tryz.prog 57 [headsT l] (framT (fram l)) := by
  have c1 := all_ clS l hn
  have c2 := all_ teS l hn
  have o1 := valsOf_ok clS hh
  have o2 := valsOf_ok teS hh
  have n1 := valsOf_len clS l
  have n2 := valsOf_len teS l
  unfold fram
  generalize valsOf clS l = a at *
  generalize valsOf teS l = b at *
  have m1 : (a.map strT).length = a.length := List.length_map _
  have m2 : (b.map strT).length = b.length := List.length_map _
  refine pcalls_of Tryz.func57 rfl rfl Tryz.ntmps57 rfl ?_
  match a, b with
  | [], [] =>
    simp only [List.length_nil] at m1 m2
    repeat' (first | (refine rg 0 ?_; refine sal str89 ?_; refine oAs ?_; refine oN ?_) | (refine rg 1 ?_; refine oMv ?_; refine oC (c1) rfl (ac (ac .nil)) ?_; refine oMv ?_; (first | refine oC (c1) rfl (ac (ac .nil)) ?_ | refine oC (c2) rfl (ac (ac .nil)) ?_); refine oAs ?_; refine oAs ?_; refine oN ?_) | (refine rg 2 ?_; refine oMv ?_; refine sp (pln rfl (tyS rfl)) ?_; refine oMv ?_; refine sp (pln rfl (tyS rfl)) ?_; (first | refine sp (xinc rfl) ?_ | refine sp (xadd rfl) ?_); refine oCm ?_; refine oMv ?_; refine oMv ?_ <;> refine sp (pln rfl (tyS rfl)) ?_ <;> refine oCm ?_ <;> refine oMv ?_ <;> (first | refine oMv ?_ | refine oK ?_) <;> (first | refine sp (pix rfl (tyS rfl)) ?_ | refine oK ?_) <;> (first | refine oLb ?_ | refine oLd ?_ | refine oK ?_) <;> (first | refine oC (c1) rfl (ac .nil) ?_ | refine oC (c2) rfl (ac .nil) ?_ | refine oK ?_) <;> (first | refine sp (po_str rfl rfl rfl rfl) ?_ | refine oK ?_) <;> (first | refine oPt ?_ | refine oPf ?_) <;> (first | refine oPt ?_ | refine oPf ?_) <;> refine oAs ?_ <;> refine oN ?_) | (refine rg 4 ?_; refine oMv ?_; refine sp (pln rfl (tyS rfl)) ?_; refine oCm ?_; refine oAs ?_; refine oN ?_) | (refine rg 6 ?_; refine oMv ?_; refine sp (pln rfl (tyS rfl)) ?_; refine oCm ?_; refine oAs ?_; refine oN ?_) | (refine rg 7 ?_; refine sp (po_buildS str89 rfl .nil rfl) ?_; refine oS ?_; refine oAs ?_; refine oN ?_) | refine gc ?_ | refine ct ?_ | refine cf ?_ | refine swp_cond rfl (fun hc => ?_) (fun hc => ?_) | refine rq rfl (.cell rfl rfl (tyT rfl) (vc (vc (vc .nil))) rfl (rt .nil)) ?_)
    rfl
  | [], [w] =>
    simp only [List.length_cons, List.length_nil] at m1 m2
    have c3 := small_ w (o2 w (by simp))
    by_cases hw : small w = chS
    · have hw' : (!decide (small w = chS)) = false := by simp [hw]
      rw [fv_w hw]
      repeat' (first | (refine rg 0 ?_; refine sal str89 ?_; refine oAs ?_; refine oN ?_) | (refine rg 1 ?_; refine oMv ?_; refine oC (c1) rfl (ac (ac .nil)) ?_; refine oMv ?_; (first | refine oC (c1) rfl (ac (ac .nil)) ?_ | refine oC (c2) rfl (ac (ac .nil)) ?_); refine oAs ?_; refine oAs ?_; refine oN ?_) | (refine rg 2 ?_; refine oMv ?_; refine sp (pln rfl (tyS rfl)) ?_; refine oMv ?_; refine sp (pln rfl (tyS rfl)) ?_; refine sp (xinc rfl) ?_; refine oCm ?_; refine oMv ?_; refine oMv ?_ <;> refine sp (pln rfl (tyS rfl)) ?_ <;> refine oCm ?_ <;> refine oMv ?_ <;> refine oMv ?_ <;> refine sp (pix rfl (tyS rfl)) ?_ <;> (first | refine oLb ?_ | refine oLd ?_) <;> (first | refine oC (c1) rfl (ac .nil) ?_ | refine oC (c2) rfl (ac .nil) ?_ | refine oC (c3) rfl (ac .nil) ?_) <;> refine sp (po_str rfl rfl rfl rfl) ?_ <;> refine oPt ?_ <;> (first | refine oPt ?_ | refine oPf ?_) <;> refine oAs ?_ <;> refine oN ?_) | (refine rg 4 ?_; refine oMv ?_; refine sp (pln rfl (tyS rfl)) ?_; refine oCm ?_; refine oAs ?_; refine oN ?_) | (refine rg 5 ?_; refine sp (po_buildS str89 rfl (pc .nil) rfl) ?_; refine oS ?_; refine oAs ?_; refine oN ?_) | refine gc ?_ | refine ct ?_ | refine cf ?_ | refine swp_cond rfl (fun hc => ?_) (fun hc => ?_) | refine rq rfl (.cell rfl rfl (tyT rfl) (vc (vc (vc .nil))) rfl (rt .nil)) ?_)
      rfl
    · have hw' : (!decide (small w = chS)) = true := by simp [hw]
      rw [fv_w' hw]
      repeat' (first | (refine rg 0 ?_; refine sal str89 ?_; refine oAs ?_; refine oN ?_) | (refine rg 1 ?_; refine oMv ?_; refine oC (c1) rfl (ac (ac .nil)) ?_; refine oMv ?_; (first | refine oC (c1) rfl (ac (ac .nil)) ?_ | refine oC (c2) rfl (ac (ac .nil)) ?_); refine oAs ?_; refine oAs ?_; refine oN ?_) | (refine rg 2 ?_; refine oMv ?_; refine sp (pln rfl (tyS rfl)) ?_; refine oMv ?_; refine sp (pln rfl (tyS rfl)) ?_; refine sp (xinc rfl) ?_; refine oCm ?_; refine oMv ?_; refine oMv ?_ <;> refine sp (pln rfl (tyS rfl)) ?_ <;> refine oCm ?_ <;> refine oMv ?_ <;> refine oMv ?_ <;> refine sp (pix rfl (tyS rfl)) ?_ <;> (first | refine oLb ?_ | refine oLd ?_) <;> (first | refine oC (c1) rfl (ac .nil) ?_ | refine oC (c2) rfl (ac .nil) ?_ | refine oC (c3) rfl (ac .nil) ?_) <;> refine sp (po_str rfl rfl rfl rfl) ?_ <;> refine oPt ?_ <;> (first | refine oPt ?_ | refine oPf ?_) <;> refine oAs ?_ <;> refine oN ?_) | (refine rg 3 ?_; refine sp (po_buildS str89 rfl .nil rfl) ?_; refine oS ?_; refine oAs ?_; refine oN ?_) | refine gc ?_ | refine ct ?_ | refine cf ?_ | refine swp_cond rfl (fun hc => ?_) (fun hc => ?_) | refine rq rfl (.cell rfl rfl (tyT rfl) (vc (vc (vc .nil))) rfl (rt .nil)) ?_)
      rfl
  | [s], [] =>
    simp only [List.length_cons, List.length_nil] at m1 m2
    have c3 := length_ s (o1 s (by simp))
    by_cases hw : (lenP s).2 = 0
    · have hw' : (!decide ((lenP s).2 = 0)) = false := by simp [hw]
      rw [fv_s hw]
      repeat' (first | (refine rg 0 ?_; refine sal str89 ?_; refine oAs ?_; refine oN ?_) | (refine rg 1 ?_; refine oMv ?_; refine oC (c1) rfl (ac (ac .nil)) ?_; refine oMv ?_; (first | refine oC (c1) rfl (ac (ac .nil)) ?_ | refine oC (c2) rfl (ac (ac .nil)) ?_); refine oAs ?_; refine oAs ?_; refine oN ?_) | (refine rg 2 ?_; refine oMv ?_; refine sp (pln rfl (tyS rfl)) ?_; refine oMv ?_; refine sp (pln rfl (tyS rfl)) ?_; (first | refine sp (xinc rfl) ?_ | refine sp (xadd rfl) ?_); refine oCm ?_; refine oMv ?_; refine oMv ?_ <;> refine sp (pln rfl (tyS rfl)) ?_ <;> refine oCm ?_ <;> refine oMv ?_ <;> (first | refine oMv ?_ | refine oK ?_) <;> (first | refine sp (pix rfl (tyS rfl)) ?_ | refine oK ?_) <;> (first | refine oLb ?_ | refine oLd ?_ | refine oK ?_) <;> (first | refine oC (c1) rfl (ac .nil) ?_ | refine oC (c2) rfl (ac .nil) ?_ | refine oC (c3) rfl (ac .nil) ?_ | refine oK ?_) <;> (first | refine sp (po_str rfl rfl rfl rfl) ?_ | refine oK ?_) <;> (first | refine oPt ?_ | refine oPf ?_) <;> (first | refine oPt ?_ | refine oPf ?_) <;> refine oAs ?_ <;> refine oN ?_) | (refine rg 4 ?_; refine oMv ?_; refine sp (pln rfl (tyS rfl)) ?_; refine oCm ?_; refine oAs ?_; refine oN ?_) | (refine rg 6 ?_; refine oMv ?_; refine sp (pln rfl (tyS rfl)) ?_; refine oCm ?_; refine oAs ?_; refine oN ?_) | (refine rg 8 ?_; refine oMv ?_; refine sp (pix rfl (tyS rfl)) ?_; (first | refine oLb ?_ | refine oLd ?_); (first | refine oC (c1) rfl (ac .nil) ?_ | refine oC (c2) rfl (ac .nil) ?_ | refine oC (c3) rfl (ac .nil) ?_); refine oMv ?_; refine oEx ?_; refine oEx ?_; refine oAs ?_; refine oAs ?_; refine oN ?_) | (refine rg 9 ?_; refine oMv ?_; refine oCm ?_; refine oN ?_) | (refine rg 11 ?_; refine oMv ?_; refine sp (po_buildS str89 rfl (pc (pc .nil)) rfl) ?_; refine oS ?_; refine oAs ?_; refine oN ?_) | refine gc ?_ | refine ct ?_ | refine cf ?_ | refine swp_cond rfl (fun hc => ?_) (fun hc => ?_) | refine rq rfl (.cell rfl rfl (tyT rfl) (vc (vc (vc .nil))) rfl (rt .nil)) ?_)
      rfl
    · have hw' : (!decide ((lenP s).2 = 0)) = true := by simp [hw]
      rw [fv_s' hw]
      repeat' (first | (refine rg 0 ?_; refine sal str89 ?_; refine oAs ?_; refine oN ?_) | (refine rg 1 ?_; refine oMv ?_; refine oC (c1) rfl (ac (ac .nil)) ?_; refine oMv ?_; (first | refine oC (c1) rfl (ac (ac .nil)) ?_ | refine oC (c2) rfl (ac (ac .nil)) ?_); refine oAs ?_; refine oAs ?_; refine oN ?_) | (refine rg 2 ?_; refine oMv ?_; refine sp (pln rfl (tyS rfl)) ?_; refine oMv ?_; refine sp (pln rfl (tyS rfl)) ?_; (first | refine sp (xinc rfl) ?_ | refine sp (xadd rfl) ?_); refine oCm ?_; refine oMv ?_; refine oMv ?_ <;> refine sp (pln rfl (tyS rfl)) ?_ <;> refine oCm ?_ <;> refine oMv ?_ <;> (first | refine oMv ?_ | refine oK ?_) <;> (first | refine sp (pix rfl (tyS rfl)) ?_ | refine oK ?_) <;> (first | refine oLb ?_ | refine oLd ?_ | refine oK ?_) <;> (first | refine oC (c1) rfl (ac .nil) ?_ | refine oC (c2) rfl (ac .nil) ?_ | refine oC (c3) rfl (ac .nil) ?_ | refine oK ?_) <;> (first | refine sp (po_str rfl rfl rfl rfl) ?_ | refine oK ?_) <;> (first | refine oPt ?_ | refine oPf ?_) <;> (first | refine oPt ?_ | refine oPf ?_) <;> refine oAs ?_ <;> refine oN ?_) | (refine rg 4 ?_; refine oMv ?_; refine sp (pln rfl (tyS rfl)) ?_; refine oCm ?_; refine oAs ?_; refine oN ?_) | (refine rg 6 ?_; refine oMv ?_; refine sp (pln rfl (tyS rfl)) ?_; refine oCm ?_; refine oAs ?_; refine oN ?_) | (refine rg 8 ?_; refine oMv ?_; refine sp (pix rfl (tyS rfl)) ?_; (first | refine oLb ?_ | refine oLd ?_); (first | refine oC (c1) rfl (ac .nil) ?_ | refine oC (c2) rfl (ac .nil) ?_ | refine oC (c3) rfl (ac .nil) ?_); refine oMv ?_; refine oEx ?_; refine oEx ?_; refine oAs ?_; refine oAs ?_; refine oN ?_) | (refine rg 9 ?_; refine oMv ?_; refine oCm ?_; refine oN ?_) | (refine rg 10 ?_; refine sp (po_buildS str89 rfl .nil rfl) ?_; refine oMv ?_; refine oS ?_; refine oAs ?_; refine oN ?_) | refine gc ?_ | refine ct ?_ | refine cf ?_ | refine swp_cond rfl (fun hc => ?_) (fun hc => ?_) | refine rq rfl (.cell rfl rfl (tyT rfl) (vc (vc (vc .nil))) rfl (rt .nil)) ?_)
      rfl
  | x :: y :: r, [] =>
    simp only [List.length_cons, List.length_nil] at m1 m2 n1 n2
    repeat' (first | (refine rg 0 ?_; refine sal str89 ?_; refine oAs ?_; refine oN ?_) | (refine rg 1 ?_; refine oMv ?_; refine oC (c1) rfl (ac (ac .nil)) ?_; refine oMv ?_; (first | refine oC (c1) rfl (ac (ac .nil)) ?_ | refine oC (c2) rfl (ac (ac .nil)) ?_); refine oAs ?_; refine oAs ?_; refine oN ?_) | (refine rg 2 ?_; refine oMv ?_; refine sp (pln rfl (tyS rfl)) ?_; refine oMv ?_; refine sp (pln rfl (tyS rfl)) ?_; (first | refine sp (xinc rfl) ?_ | refine sp (xadd rfl) ?_); refine oCm ?_; refine oMv ?_; (first | refine oMv ?_ | refine oK ?_) <;> (first | refine sp (pln rfl (tyS rfl)) ?_ | refine oK ?_) <;> (first | refine oCm ?_ | refine oK ?_) <;> (first | refine oMv ?_ | refine oK ?_) <;> (first | refine oMv ?_ | refine oK ?_) <;> (first | refine sp (pix rfl (tyS rfl)) ?_ | refine oK ?_) <;> (first | refine oLb ?_ | refine oLd ?_ | refine oK ?_) <;> (first | refine oC (c1) rfl (ac .nil) ?_ | refine oC (c2) rfl (ac .nil) ?_ | refine oK ?_) <;> (first | refine sp (po_str rfl rfl rfl rfl) ?_ | refine oK ?_) <;> (first | refine oPt ?_ | refine oPf ?_ | refine oK ?_) <;> refine oPt ?_ <;> refine oAs ?_ <;> refine oN ?_) | (refine rg 3 ?_; refine sp (po_buildS str89 rfl .nil rfl) ?_; refine oS ?_; refine oAs ?_; refine oN ?_) | refine gc ?_ | refine ct ?_ | refine cf ?_ | refine swp_cond rfl (fun hc => ?_) (fun hc => ?_) | refine rq rfl (.cell rfl rfl (tyT rfl) (vc (vc (vc .nil))) rfl (rt .nil)) ?_)
    rfl
  | x :: r, y :: q =>
    simp only [List.length_cons, List.length_nil] at m1 m2 n1 n2
    repeat' (first | (refine rg 0 ?_; refine sal str89 ?_; refine oAs ?_; refine oN ?_) | (refine rg 1 ?_; refine oMv ?_; refine oC (c1) rfl (ac (ac .nil)) ?_; refine oMv ?_; (first | refine oC (c1) rfl (ac (ac .nil)) ?_ | refine oC (c2) rfl (ac (ac .nil)) ?_); refine oAs ?_; refine oAs ?_; refine oN ?_) | (refine rg 2 ?_; refine oMv ?_; refine sp (pln rfl (tyS rfl)) ?_; refine oMv ?_; refine sp (pln rfl (tyS rfl)) ?_; (first | refine sp (xinc rfl) ?_ | refine sp (xadd rfl) ?_); refine oCm ?_; refine oMv ?_; (first | refine oMv ?_ | refine oK ?_) <;> (first | refine sp (pln rfl (tyS rfl)) ?_ | refine oK ?_) <;> (first | refine oCm ?_ | refine oK ?_) <;> (first | refine oMv ?_ | refine oK ?_) <;> (first | refine oMv ?_ | refine oK ?_) <;> (first | refine sp (pix rfl (tyS rfl)) ?_ | refine oK ?_) <;> (first | refine oLb ?_ | refine oLd ?_ | refine oK ?_) <;> (first | refine oC (c1) rfl (ac .nil) ?_ | refine oC (c2) rfl (ac .nil) ?_ | refine oK ?_) <;> (first | refine sp (po_str rfl rfl rfl rfl) ?_ | refine oK ?_) <;> (first | refine oPt ?_ | refine oPf ?_ | refine oK ?_) <;> refine oPt ?_ <;> refine oAs ?_ <;> refine oN ?_) | (refine rg 3 ?_; refine sp (po_buildS str89 rfl .nil rfl) ?_; refine oS ?_; refine oAs ?_; refine oN ?_) | refine gc ?_ | refine ct ?_ | refine cf ?_ | refine swp_cond rfl (fun hc => ?_) (fun hc => ?_) | refine rq rfl (.cell rfl rfl (tyT rfl) (vc (vc (vc .nil))) rfl (rt .nil)) ?_)
    cases r <;> cases q <;> rfl
  | [], x :: y :: r =>
    simp only [List.length_cons, List.length_nil] at m1 m2 n1 n2
    repeat' (first | (refine rg 0 ?_; refine sal str89 ?_; refine oAs ?_; refine oN ?_) | (refine rg 1 ?_; refine oMv ?_; refine oC (c1) rfl (ac (ac .nil)) ?_; refine oMv ?_; (first | refine oC (c1) rfl (ac (ac .nil)) ?_ | refine oC (c2) rfl (ac (ac .nil)) ?_); refine oAs ?_; refine oAs ?_; refine oN ?_) | (refine rg 2 ?_; refine oMv ?_; refine sp (pln rfl (tyS rfl)) ?_; refine oMv ?_; refine sp (pln rfl (tyS rfl)) ?_; (first | refine sp (xinc rfl) ?_ | refine sp (xadd rfl) ?_); refine oCm ?_; refine oMv ?_; (first | refine oMv ?_ | refine oK ?_) <;> (first | refine sp (pln rfl (tyS rfl)) ?_ | refine oK ?_) <;> (first | refine oCm ?_ | refine oK ?_) <;> (first | refine oMv ?_ | refine oK ?_) <;> (first | refine oMv ?_ | refine oK ?_) <;> (first | refine sp (pix rfl (tyS rfl)) ?_ | refine oK ?_) <;> (first | refine oLb ?_ | refine oLd ?_ | refine oK ?_) <;> (first | refine oC (c1) rfl (ac .nil) ?_ | refine oC (c2) rfl (ac .nil) ?_ | refine oK ?_) <;> (first | refine sp (po_str rfl rfl rfl rfl) ?_ | refine oK ?_) <;> (first | refine oPt ?_ | refine oPf ?_ | refine oK ?_) <;> refine oPt ?_ <;> refine oAs ?_ <;> refine oN ?_) | (refine rg 3 ?_; refine sp (po_buildS str89 rfl .nil rfl) ?_; refine oS ?_; refine oAs ?_; refine oN ?_) | refine gc ?_ | refine ct ?_ | refine cf ?_ | refine swp_cond rfl (fun hc => ?_) (fun hc => ?_) | refine rq rfl (.cell rfl rfl (tyT rfl) (vc (vc (vc .nil))) rfl (rt .nil)) ?_)
    rfl
end Go.Proofs.YtloippgblkoemaaGreatDoor.Hd

/- Headers: the chapter's examples: a walk. -/
namespace Go.Proofs.YtloippgblkoemaaGreatDoor.Hd
set_option linter.unusedVariables false
set_option linter.unusedSimpArgs false
open Go.RowKit Mem Sim Opn Str
def heqB (a b : Pl.Head) : Bool := decide (a.name = b.name) && decide (a.value = b.value)
theorem heqB_iff (a b : Pl.Head) : heqB a b = true ↔ a = b := by
  cases a; cases b; simp [heqB]
theorem head_Ex (h : Pl.Head) : Ex (.agg (headT h)) (.agg [Value.string h.name, .string h.value].toArray) := Ex.agg rfl (fun j t v h1 h2 => by
  match j, h1, h2 with
  | 0, h1, h2 => simp [headT] at h1 h2; subst h1 h2; rfl
  | 1, h1, h2 => simp [headT] at h1 h2; subst h1 h2; rfl)
theorem hne_run (c : Bool) (a b : Pl.Head) (hc : (!heqB a b) = c) (w : World) (x y : Operand) : ((do eqGuard .neq 65 x y (.agg [Value.string a.name, .string a.value].toArray) (.agg [Value.string b.name, .string b.value].toArray); binOp .neq 65 (.agg [Value.string a.name, .string a.value].toArray) (.agg [Value.string b.name, .string b.value].toArray)) : Sem Value).run Tryz.prog w = .ok (.bool c) w := by
  have hm : Tryz.prog.eqGuardType Tryz.prog.depth 65 = false := by kernel_rfl
  rw [Sem.run_bind, run_eqGuard_agg _ _ _ _ _ _ _ hm]
  simp only [Result.andThen_ok]
  rw [run_neq_struct]
  subst hc
  simp [go_sem]
  have t1 : (a.name.toList = b.name.toList) ↔ a.name = b.name := ⟨bs_inj, congrArg _⟩
  have t2 : (a.value.toList = b.value.toList) ↔ a.value = b.value := ⟨bs_inj, congrArg _⟩
  by_cases h1 : a.name = b.name <;> by_cases h2 : a.value = b.value <;> simp [h1, h2, heqB, ba_eq, t1, t2]
/- on lists of bytes, to be computed -/
def mayNameL (l : List UInt8) : Bool := l.all (inB tokL) && decide (1 ≤ l.length) && decide (l.length ≤ 64)
def mayValueL (l : List UInt8) : Bool := (List.range l.length).all (fun i => vcN l.length i (l.getD i 0).toNat) && decide (l.length ≤ 512)
theorem mayName_bs (l : List UInt8) : mayName (bs l) = mayNameL l := by
  unfold mayName mayNameL; rw [bs_toList, bs_size]
theorem mayValue_bs (l : List UInt8) : mayValue (bs l) = mayValueL l := by
  unfold mayValue mayValueL; rw [bs_size]
  congr 1
  rw [Bool.eq_iff_iff, List.all_eq_true, List.all_eq_true]
  refine forall_congr' fun i => forall_congr' fun hi => ?_
  have hi' : i < l.length := by simpa using hi
  have hb : i < (bs l).size := by rw [bs_size]; exact hi'
  have e : vcs (bs l) i = vcN l.length i (l.getD i 0).toNat := by
    rw [vcs_at hb, List.getD_eq_getElem?_getD, List.getElem?_eq_getElem hi']
    congr 1
  rw [e]
def readL (l : List UInt8) : (List UInt8 × List UInt8) × Int :=
  let f := l.findIdx (· == 58)
  let n := (l.take f).map lowU
  let v := trimB ws (l.drop (f + 1))
  if l.length ≤ 578 then (if f < l.length then (if mayNameL n && mayValueL v then ((n, v), 0) else (([], []), 2)) else (([], []), 2)) else (([], []), 6)
theorem readH_bs (l : List UInt8) : readH (bs l) = (⟨bs (readL l).1.1, bs (readL l).1.2⟩, (readL l).2) := by
  have hf : fidx (bs l) 58 = l.findIdx (· == 58) := by unfold fidx; rw [bs_toList]
  have hr : readC (bs l) = ⟨bs ((l.take (l.findIdx (· == 58))).map lowU), bs (trimB ws (l.drop (l.findIdx (· == 58) + 1)))⟩ := by
    unfold readC small
    rw [hf, bs_toList, bs_extract, List.drop_zero, bs_toList]
  unfold readH readL
  rw [hr, hf, bs_size]
  unfold good
  rw [mayName_bs, mayValue_bs]
  simp only []
  split
  · split
    · split <;> rfl
    · rfl
  · rfl
end Go.Proofs.YtloippgblkoemaaGreatDoor.Hd

/- Headers: a name's first value, headers alike: walks. -/
namespace Go.Proofs.YtloippgblkoemaaGreatDoor.Hd
set_option linter.unusedVariables false
set_option linter.unusedSimpArgs false
open Go.RowKit Mem Sim Opn Str
theorem cellsAre_nil (m : Mm) : CellsAre m [] [] := ⟨rfl, fun j t v h => by simp at h⟩
theorem cellsAre_cons {m : Mm} {t : T} {v : Value} {ts : List T} {vs : List Value} (h : TR m t v) (h1 : v.oneCell' = true) (hs : CellsAre m ts vs) : CellsAre m (t :: ts) (v :: vs) := by
  refine ⟨by simp [hs.1], fun j t' v' h2 h3 => ?_⟩
  cases j with
  | zero => simp at h2 h3; subst h2 h3; exact ⟨h, h1⟩
  | succ j => exact hs.2 j t' v' (by simpa using h2) (by simpa using h3)
theorem agg_bwd {m : Mm} {cs : List T} {vs : List Value} (h : CellsAre m cs vs) : TR m (.agg cs) (.agg vs.toArray) :=
  .agg cs vs.toArray (by simpa using h.1) (fun v hv => by
    obtain ⟨j, hj⟩ := List.getElem?_of_mem hv
    obtain ⟨t, ht⟩ : ∃ t, cs[j]? = some t := by
      have : j < cs.length := by rw [← h.1]; exact (List.getElem?_eq_some_iff.1 hj).1
      exact ⟨_, List.getElem?_eq_getElem this⟩
    exact (h.2 j t v ht hj).2) (fun j t v h1 h2 => (h.2 j t v h1 (by simpa using h2)).1)
theorem po_remc {P : Program} {bx : List (Nat × List A)} {ow : List (Nat × Own)} {o : Oper} {ρ : Operand → Option A} {t t2 : TypeId} {x y : Operand} {k : IntKind} {i j c : Int} (hc : i.tmod j = c) (ho : o.op = .binOp .rem t x y t2) (hx : ρ x = some (.t (.v (.int k i)))) (hy : ρ y = some (.t (.v (.int k j)))) (hj : j ≠ 0) : PureOp P bx ow o ρ (.t (.v (.int k c))) := by
  subst hc; exact po_rem ho hx hy hj
theorem take_eq_allH {a b : List Pl.Head} {k : Nat} (h1 : k < a.length) (h2 : k < b.length) (h : a.take k = b.take k) (he : a[k] = b[k]) : a.take (k + 1) = b.take (k + 1) := by
  rw [List.take_succ_eq_append_getElem h1, List.take_succ_eq_append_getElem h2, h, he]
end Go.Proofs.YtloippgblkoemaaGreatDoor.Hd

/- Headers: one more; those but a name's: walks. -/
namespace Go.Proofs.YtloippgblkoemaaGreatDoor.Hd
set_option linter.unusedVariables false
set_option linter.unusedSimpArgs false
open Go.RowKit Mem Sim Opn Str
set_option maxRecDepth 100000 in
set_option maxHeartbeats 1000000 in
theorem cloneHeads (i : Nat) (hi : i = 100 ∨ i = 1000) (rows : List (List T)) (hbd : rows.length * 32 ≤ 140737488355328) (hmx : rows.length ≤ maxLen) : LCalls Tryz.prog 27 [.t (.sl 2 rows)] [] [] (.own i rows.length) [] [(i, ⟨65, 2, rows⟩)] := by
  have hbd' : 0 + rows.length * 32 ≤ 140737488355328 := by omega
  rcases hi with rfl | rfl
  · refine lcalls_of Tryz.func27 rfl rfl Tryz.ntmps27 rfl ?_
    repeat' (first | refine rg 0 (aq0 ?_) | (refine rg 1 ?_; refine oMv ?_; refine sops_isnil (.free rfl rfl) rfl rfl rfl rfl (.t _) (tyS rfl) (fun b hnil => ?_); refine oN ?_) | refine gc ?_ | refine ct ?_ | refine cf ?_ | refine sc ?_ ?_ <;> intro hc | refine rq rfl (rt .nil) ?_)
    · obtain rfl := hnil hc
      repeat' (first | refine then_go ?_ | refine swp_seq ?_ | refine swp_ret_weak (weak_own0 (i := 100) 65 2 (s := 2) rfl rfl) ?_ | refine rg 2 (aq0 ?_) | refine swp_ret ?_ | refine swp_skip ?_ | refine swp_block ?_ | refine swp_exit ?_ | refine block_go ?_ | refine block_exit ?_ | refine block_far rfl ?_ | refine block_ret ?_ | refine then_ret ?_ | refine then_exit ?_ | refine for_ret ?_ | refine for_exit ?_ | refine ct ?_ | refine cf ?_ | refine sc ?_ ?_ <;> intro hc | exact retl1 (by exact .inr rfl) rfl (.tmp rfl rfl .nil) rfl .nil (.cons rfl (by rfl) .nil))
    · repeat' (first | (refine rg 3 ?_; refine sops_build0i 100 (.free rfl rfl) rfl rfl rfl (tyE rfl) rfl ?_; refine oMv ?_; refine sap rfl (tyE rfl) ?_; refine oAs ?_; refine oN ?_) | refine gc ?_ | refine ct ?_ | refine cf ?_ | refine sc ?_ ?_ <;> intro hc | refine retl (by exact .inr rfl) rfl (.tmp rfl rfl .nil) ?_ rfl .nil (.cons rfl (by rfl) .nil))
      rfl
  · refine lcalls_of Tryz.func27 rfl rfl Tryz.ntmps27 rfl ?_
    repeat' (first | refine rg 0 (aq0 ?_) | (refine rg 1 ?_; refine oMv ?_; refine sops_isnil (.free rfl rfl) rfl rfl rfl rfl (.t _) (tyS rfl) (fun b hnil => ?_); refine oN ?_) | refine gc ?_ | refine ct ?_ | refine cf ?_ | refine sc ?_ ?_ <;> intro hc | refine rq rfl (rt .nil) ?_)
    · obtain rfl := hnil hc
      repeat' (first | refine then_go ?_ | refine swp_seq ?_ | refine swp_ret_weak (weak_own0 (i := 1000) 65 2 (s := 2) rfl rfl) ?_ | refine rg 2 (aq0 ?_) | refine swp_ret ?_ | refine swp_skip ?_ | refine swp_block ?_ | refine swp_exit ?_ | refine block_go ?_ | refine block_exit ?_ | refine block_far rfl ?_ | refine block_ret ?_ | refine then_ret ?_ | refine then_exit ?_ | refine for_ret ?_ | refine for_exit ?_ | refine ct ?_ | refine cf ?_ | refine sc ?_ ?_ <;> intro hc | exact retl1 (by exact .inr rfl) rfl (.tmp rfl rfl .nil) rfl .nil (.cons rfl (by rfl) .nil))
    · repeat' (first | (refine rg 3 ?_; refine sops_build0i 1000 (.free rfl rfl) rfl rfl rfl (tyE rfl) rfl ?_; refine oMv ?_; refine sap rfl (tyE rfl) ?_; refine oAs ?_; refine oN ?_) | refine gc ?_ | refine ct ?_ | refine cf ?_ | refine sc ?_ ?_ <;> intro hc | refine retl (by exact .inr rfl) rfl (.tmp rfl rfl .nil) ?_ rfl .nil (.cons rfl (by rfl) .nil))
      rfl
def addT (l : List Pl.Head) (h : Pl.Head) : T := if good h then (if l.length < 24 then .tup [headsT (l ++ [h]), .v (.int .i64 0)] else .tup [.v (.slice none 0 0), .v (.int .i64 3)]) else .tup [.v (.slice none 0 0), .v (.int .i64 1)]
set_option maxRecDepth 100000 in
set_option maxHeartbeats 1000000 in
theorem add_ (l : List Pl.Head) (hn : l.length ≤ 1000) (h : Pl.Head) (hh : okHead h) : PCalls Tryz.prog 129 [headsT l, .agg (headT h)] (addT l h) := by
  have c1 := may_ h hh
  have hma : (l.map headT).length = l.length := List.length_map _
  have c2 := cloneHeads 100 (.inl rfl) (l.map headT) (by rw [hma]; omega) (by rw [hma]; unfold maxLen; omega)
  have hb : ((l.map headT).length + 1) * 32 ≤ 140737488355328 := by omega
  have hm : (l.map headT).length + 1 ≤ maxLen := by unfold maxLen; omega
  unfold addT
  refine pcalls_of Tryz.func129 rfl rfl Tryz.ntmps129 rfl ?_
  cases hg : good h with
  | false =>
    rw [hg] at c1
    rw [if_neg (by simp)]
    repeat' (first | refine rg 0 (aq46 ?_) | (refine rg 1 (aq41 ?_); refine oC (c1) rfl (ac .nil) ?_; refine aq42 ?_) | refine rg 2 (aq47 ?_) | refine gc ?_ | refine ct ?_ | refine cf ?_ | refine sc ?_ ?_ <;> intro hc | refine rq rfl (rt (rt .nil)) ?_)
    rfl
  | true =>
    rw [hg] at c1
    rw [if_pos rfl]
    by_cases h24 : l.length < 24
    · rw [if_pos h24]
      repeat' (first | refine rg 0 (aq46 ?_) | (refine rg 1 (aq41 ?_); (first | refine sops_lcall (c2) (fun i => i) (fun i => i) (fun _ => false) (.free rfl rfl) rfl rfl rfl (by first | ((repeat' (first | exact .nil | refine .cons rfl rfl rfl ?_ | refine .vw rfl (by exact .t _) ?_)) <;> fail) | fail) .nil .nil rfl rfl (fun _ h => Bool.noConfusion h) ?_ | refine oC (c1) rfl (ac .nil) ?_); refine aq42 ?_) | refine rg 3 (aq45 ?_) | ((refine swp_any (id := 5) [[], [100], [], [], [100], [], []] [[], [], [100], [100], [], [], []] mixed (by kernel_rfl) ?_) <;> refine yp (fun _ _ => po_move rfl rfl) ?_ <;> (refine sany_eff [] [(100, _)] (.free rfl rfl) rfl rfl (fun _ _ hb ho => e_lcall (c2) (fun i => i) (fun i => i) rfl (by ((repeat' (first | exact .nil | refine .cons rfl rfl rfl ?_)) <;> fail)) .nil .nil rfl rfl (by ((repeat' (exact .nil)) <;> fail)) (by ((repeat' (first | exact .nil | refine .old rfl ?_ | refine .new (ho _ rfl rfl) ?_)) <;> fail)) .nil) ?_) <;> refine yp (fun _ _ => po_load_bx_agg rfl rfl (tyT rfl) rfl (vc (vc .nil)) rfl) ?_ <;> refine yp (fun _ _ => po_buildSlice rfl (tyE rfl) (dc (.nil _)) rfl rfl rfl) ?_ <;> refine sany_eff [] [(100, _)] (.free rfl rfl) rfl rfl (fun _ _ _ _ => e_append rfl rfl rfl (by rfl) rfl (by exact .t _) (tyE rfl) (by assumption) (by assumption)) ?_ <;> refine yp (fun _ _ => po_assign rfl rfl) ?_ <;> refine yp (fun _ _ => po_assign rfl rfl) ?_ <;> refine sany_nil ?_) | refine gc ?_ | refine ct ?_ | refine cf ?_ | refine sc ?_ ?_ <;> intro hc | refine rq rfl (rt (rt .nil)) ?_)
      unfold headsT; rw [List.map_append]; rfl
    · rw [if_neg h24]
      repeat' (first | refine rg 0 (aq46 ?_) | (refine rg 1 (aq41 ?_); refine oC (c1) rfl (ac .nil) ?_; refine aq42 ?_) | refine rg 3 (aq45 ?_) | refine rg 4 (aq47 ?_) | refine gc ?_ | refine ct ?_ | refine cf ?_ | refine sc ?_ ?_ <;> intro hc | refine rq rfl (rt (rt .nil)) ?_)
      rfl
end Go.Proofs.YtloippgblkoemaaGreatDoor.Hd

/- What the reader of messages does, byte by byte, in plain Lean. -/
namespace Go.Proofs.YtloippgblkoemaaGreatDoor.Rq
set_option linter.unusedVariables false
set_option linter.unusedSimpArgs false
open Go.RowKit Mem Sim Opn Hd
structure PRaw where
  start : ByteArray
  heads : List Pl.Head
  body : List UInt8
deriving Inhabited
def raw0 : PRaw := ⟨⟨#[]⟩, [], []⟩
structure PRd where
  phase : Int
  line : List UInt8
  raw : PRaw
  left : Int
  err : Int
  out : List PRaw
deriving Inhabited
def faultP (r : PRd) (e : Int) : PRd := { r with err := e }
def wholeP (r : PRd) : PRd := ⟨0, [], raw0, 0, 0, r.out ++ [r.raw]⟩
def startP (r : PRd) (s : ByteArray) : PRd := { r with raw := { r.raw with start := s }, phase := 1 }
def bodyP (r : PRd) : PRd :=
  if (fram r.raw.heads).2 ≠ 0 then faultP r (fram r.raw.heads).2
  else if (fram r.raw.heads).1.chunked = 1 then { r with phase := 3 }
  else if (fram r.raw.heads).1.length = 0 then wholeP r
  else { r with phase := 2, left := (fram r.raw.heads).1.length }
def headerP (r : PRd) (s : ByteArray) : PRd :=
  if s = ⟨#[]⟩ then bodyP r
  else if (readH s).2 ≠ 0 then faultP r (readH s).2
  else if good (readH s).1 then (if r.raw.heads.length < 24 then { r with raw := { r.raw with heads := r.raw.heads ++ [(readH s).1] } } else faultP r 3) else faultP r 1
def digL : List UInt8 := [48, 49, 50, 51, 52, 53, 54, 55, 56, 57, 97, 98, 99, 100, 101, 102, 65, 66, 67, 68, 69, 70]
def hexI (c : UInt8) : Int := Lib.indexByte digL c
def digP (c : UInt8) : Int := if 15 < hexI c then hexI c - 6 else hexI c
def hexB (c : UInt8) : Bool := decide (0 ≤ hexI c)
def sizeN (l : List UInt8) : Int := l.foldl (fun n c => 16 * n + digP c) 0
def sizeP (s : ByteArray) : Int := if !lead0 s && decide (s.size ≤ 4) && s.toList.all hexB then sizeN s.toList else -1
theorem hexI_rng (c : UInt8) : -1 ≤ hexI c ∧ hexI c ≤ 21 := by
  have h := Str.idx_list c digL
  unfold hexI
  rw [h]
  split
  · rename_i h1
    have h2 : digL.length = 22 := rfl
    rw [h2] at h1; omega
  · omega
theorem digP_rng (c : UInt8) (h : hexB c = true) : 0 ≤ digP c ∧ digP c ≤ 15 := by
  have h1 := hexI_rng c
  unfold hexB at h
  have h2 := of_decide_eq_true h
  unfold digP
  split <;> omega
theorem sizeN_snoc (l : List UInt8) {k : Nat} (h : k < l.length) : sizeN (l.take (k + 1)) = 16 * sizeN (l.take k) + digP l[k] := by
  unfold sizeN
  rw [List.take_succ_eq_append_getElem h, List.foldl_append]; rfl
theorem sizeN_rng (l : List UInt8) (hd : l.all hexB = true) : ∀ k, k ≤ l.length → 0 ≤ sizeN (l.take k) ∧ sizeN (l.take k) < 16 ^ k
  | 0, _ => by simp [sizeN]
  | k + 1, h => by
    have ih := sizeN_rng l hd k (by omega)
    have hb := digP_rng _ ((List.all_eq_true.1 hd) l[k] (List.getElem_mem (by omega)))
    have : (16 : Int) ^ (k + 1) = 16 ^ k * 16 := Int.pow_succ 16 k
    rw [sizeN_snoc l (by omega), this]; omega
theorem sizeN_4 (l : List UInt8) (hd : l.all hexB = true) {k : Nat} (h : k ≤ l.length) (h4 : k ≤ 4) : 0 ≤ sizeN (l.take k) ∧ sizeN (l.take k) ≤ 65535 := by
  have h1 := sizeN_rng l hd k h
  have h2 : (16 : Int) ^ k ≤ 16 ^ 4 := by
    have : (16 : Nat) ^ k ≤ 16 ^ 4 := Nat.pow_le_pow_right (by omega) h4
    exact_mod_cast this
  have h3 : (16 : Int) ^ 4 = 65536 := by decide
  omega
theorem sizeP_rng (s : ByteArray) : -1 ≤ sizeP s ∧ sizeP s ≤ 65535 := by
  unfold sizeP
  split
  · rename_i h
    simp only [Bool.and_eq_true, decide_eq_true_eq] at h
    have hl := toList_len s
    have h1 := sizeN_4 s.toList h.2 (k := s.toList.length) (Nat.le_refl _) (by omega)
    rw [List.take_length] at h1
    omega
  · omega
def chunkP (r : PRd) (s : ByteArray) : PRd :=
  if sizeP s < 0 then faultP r 2
  else if sizeP s = 0 then { r with phase := 6 }
  else if 1024 < (r.raw.body.length : Int) + sizeP s then faultP r 6
  else { r with phase := 4, left := sizeP s }
def endedP (r : PRd) (s : ByteArray) : PRd :=
  if s ≠ ⟨#[]⟩ then faultP r 2 else if r.phase = 6 then wholeP r else { r with phase := 3 }
def lineP (r : PRd) (s : ByteArray) : PRd :=
  if r.phase = 0 then startP r s else if r.phase = 1 then headerP r s else if r.phase = 3 then chunkP r s else endedP r s
def crP (l : List UInt8) : Bool := match l.getLast? with
  | some b => decide (b.toNat = 13)
  | none => false
def takeP (r : PRd) (c : UInt8) : PRd :=
  if c.toNat = 10 ∧ crP r.line = true then lineP { r with line := [] } (bs r.line.dropLast)
  else if c.toNat = 10 ∨ crP r.line = true then faultP r 2
  else if c.toNat ≠ 13 ∧ 578 ≤ r.line.length then faultP r 6
  else { r with line := r.line ++ [c] }
def bodyByte (r : PRd) (c : UInt8) : PRd :=
  let r1 : PRd := { r with raw := { r.raw with body := r.raw.body ++ [c] }, left := r.left - 1 }
  if 0 < r1.left then r1 else if r1.phase = 2 then wholeP r1 else { r1 with phase := 5, left := 0 }
def byteP (r : PRd) (c : UInt8) : PRd :=
  if r.err ≠ 0 then r else if r.phase ≠ 2 ∧ r.phase ≠ 4 then takeP r c else bodyByte r c
def feedP (r : PRd) (l : List UInt8) : PRd := l.foldl byteP r
def rd0 : PRd := ⟨0, [], raw0, 0, 0, []⟩
def idleP (r : PRd) : Bool := decide (r.err = 0) && decide (r.phase = 0) && decide (r.line.length = 0)
end Go.Proofs.YtloippgblkoemaaGreatDoor.Rq
