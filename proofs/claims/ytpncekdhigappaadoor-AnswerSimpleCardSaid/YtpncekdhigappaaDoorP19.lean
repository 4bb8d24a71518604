/- Merged by bundles.py: SimHd6, SimHd7. -/
import Derived.Test.YtpncekdhigappaaDoorP18
/- Headers: may they be; a header's line: walks. -/
namespace Go.Proofs.YtpncekdhigappaaDoor.Hd
set_option linter.unusedVariables false
set_option linter.unusedSimpArgs false
open Go.RowKit Mem Sim Opn Str
def good (h : Pl.Head) : Bool := mayName h.name && mayValue h.value
def mayL (l : List Pl.Head) : Bool := decide (l.length ≤ 24) && l.all good
set_option maxRecDepth 100000 in
theorem may_ (h : Pl.Head) (hh : okHead h) : PCalls Tryd.prog 53 [.agg (headT h)] (.v (.bool (good h))) := by
  have c1 := mayName_ h.name hh.1
  have c2 := mayValue_ h.value hh.2
  unfold good
  refine pcalls_of Tryd.func53 rfl rfl Tryd.ntmps53 rfl ?_
  cases h1 : mayName h.name
  all_goals
    rw [h1] at c1
    repeat' (first | (refine rg 0 ?_; refine sbx ?_; refine oAs ?_; refine oN ?_) | (refine rg 1 ?_; (first | refine oFb ?_ | refine oFd ?_); (first | refine oLb ?_ | refine oLd ?_); (first | refine oC (c1) rfl (ac .nil) ?_ | refine oC (c2) rfl (ac .nil) ?_); refine oMv ?_; (first | refine oFb ?_ | refine oFd ?_ | refine oK ?_ | ((refine ssp (fun hc => ?_) (fun hc => ?_)) <;> first | refine oFb ?_ | refine oFd ?_ | refine oK ?_)) <;> (first | refine oLb ?_ | refine oLd ?_ | refine oK ?_) <;> (first | refine oC (c1) rfl (ac .nil) ?_ | refine oC (c2) rfl (ac .nil) ?_ | refine oK ?_) <;> (first | refine oPt ?_ | refine oPf ?_) <;> (refine oAs ?_) <;> (refine oN ?_)) | refine gc ?_ | refine ct ?_ | refine cf ?_ | refine swp_cond rfl (fun hc => ?_) (fun hc => ?_) | refine rq rfl (rt .nil) ?_)
    rfl
set_option maxRecDepth 100000 in
theorem refGood_ (h : Pl.Head) (hh : okHead h) : PCalls Tryd.prog 34 [.agg (headT h)] (.v (.bool (good h))) := by
  have c1 := refMayName_ h.name hh.1
  have c2 := refMayValue_ h.value hh.2
  unfold good
  refine pcalls_of Tryd.func34 rfl rfl Tryd.ntmps34 rfl ?_
  cases h1 : mayName h.name
  all_goals
    rw [h1] at c1
    repeat' (first | (refine rg 0 ?_; refine sbx ?_; refine oAs ?_; refine oN ?_) | (refine rg 1 ?_; (first | refine oFb ?_ | refine oFd ?_); (first | refine oLb ?_ | refine oLd ?_); (first | refine oC (c1) rfl (ac .nil) ?_ | refine oC (c2) rfl (ac .nil) ?_); refine oMv ?_; (first | refine oFb ?_ | refine oFd ?_ | refine oK ?_ | ((refine ssp (fun hc => ?_) (fun hc => ?_)) <;> first | refine oFb ?_ | refine oFd ?_ | refine oK ?_)) <;> (first | refine oLb ?_ | refine oLd ?_ | refine oK ?_) <;> (first | refine oC (c1) rfl (ac .nil) ?_ | refine oC (c2) rfl (ac .nil) ?_ | refine oK ?_) <;> (first | refine oPt ?_ | refine oPf ?_) <;> (refine oAs ?_) <;> (refine oN ?_)) | refine gc ?_ | refine ct ?_ | refine cf ?_ | refine swp_cond rfl (fun hc => ?_) (fun hc => ?_) | refine rq rfl (rt .nil) ?_)
    rfl
set_option maxRecDepth 100000 in
theorem may1_ (h : Pl.Head) (hh : okHead h) : PCalls Tryd.prog 63 [.agg (headT h)] (.v (.bool (!good h))) := by
  have c1 := may_ h hh
  refine pcalls_of Tryd.func63 rfl rfl Tryd.ntmps63 rfl ?_
  repeat' (first | (refine rg 0 ?_; refine sbx ?_; refine oAs ?_; refine oN ?_) | (refine rg 1 ?_; (first | refine sp (po_load_bx_agg rfl rfl (tyT rfl) rfl (vc (vc .nil)) rfl) ?_ | refine sp (po_load_agg rfl rfl (tyT rfl) rfl rfl) ?_); refine oC (c1) rfl (ac .nil) ?_; refine sp (po_not rfl rfl) ?_; refine oAs ?_; refine oN ?_) | refine gc ?_ | refine ct ?_ | refine cf ?_ | refine swp_cond rfl (fun hc => ?_) (fun hc => ?_) | refine rq rfl (rt .nil) ?_)
  rfl
def idxP {α : Type} (p : α → Bool) (l : List α) : Int := if l.any p then ((l.findIdx p : Nat) : Int) else -1
theorem idxP_hit {α : Type} (p : α → Bool) (l : List α) (k : Nat) (h : k < l.length) (h1 : ∀ j, j < k → ∀ x, l[j]? = some x → p x = false) (h2 : p l[k] = true) : idxP p l = (k : Int) := by
  unfold idxP
  rw [if_pos (List.any_eq_true.2 ⟨_, List.getElem_mem h, h2⟩)]
  congr 1
  refine (List.findIdx_eq h).2 ⟨h2, fun j hj => ?_⟩
  exact h1 j hj _ (List.getElem?_eq_getElem (by omega))
theorem idxP_miss {α : Type} (p : α → Bool) (l : List α) (h : ∀ x ∈ l, p x = false) : idxP p l = -1 := by
  unfold idxP; rw [if_neg]; simp; exact h
def IHead (xs : List Pl.Head) (f : FuncId) (caps : List T) (k : Nat) : St := ⟨[(0, .t (headsT xs)), (1, .t (.clo f caps)), (7, .t (.v (.int .i64 (xs.length : Int)))), (8, .t (.v (.int .i64 (k : Int))))], [], []⟩
set_option maxRecDepth 100000 in
set_option maxHeartbeats 1000000 in
theorem idxHead (p : Pl.Head → Bool) (f : FuncId) (caps : List T) (xs : List Pl.Head) (r : Int) (hK : ∀ x ∈ xs, PCalls Tryd.prog f ([.agg (headT x)] ++ caps) (.v (.bool (p x)))) (hn : xs.length ≤ 1000)
    (h1 : ∀ k, (h : k < xs.length) → (∀ j, j < k → ∀ x, xs[j]? = some x → p x = false) → p xs[k] = true → r = (k : Int)) (h2 : (∀ x ∈ xs, p x = false) → r = -1) : PCalls Tryd.prog 74 [headsT xs, .clo f caps] (.v (.int .i64 r)) := by
  have hm1 : (xs.map headT).length = xs.length := List.length_map _
  refine pcalls_of Tryd.func74 rfl rfl Tryd.ntmps74 rfl ?_
  repeat' (first | (refine rg 0 ?_; refine oAs ?_; refine oN ?_) | (refine rg 1 ?_; refine oMv ?_; refine sp (pln rfl (tyS rfl)) ?_; refine oMv ?_; refine oN ?_) | refine gc ?_ | refine ct ?_ | refine cf ?_ | refine swp_cond rfl (fun hc => ?_) (fun hc => ?_) | refine rq rfl (rt .nil) ?_)
  refine swp_for (IHead xs f caps) (fun k => ∀ j, j < k → ∀ x, xs[j]? = some x → p x = false) xs.length ?_ (fun j hj => by omega) ?_
  · exact (weak_sub (.cons rfl (by first | rfl | (exact congrArg (fun n : Nat => A.t (.v (.int .i64 (n : Int)))) hm1)) rfl (.cons rfl (by first | rfl | (exact congrArg (fun n : Nat => A.t (.v (.int .i64 (n : Int)))) hm1)) rfl (.cons rfl (by first | rfl | (exact congrArg (fun n : Nat => A.t (.v (.int .i64 (n : Int)))) hm1)) rfl (.cons rfl (by first | rfl | (exact congrArg (fun n : Nat => A.t (.v (.int .i64 (n : Int)))) hm1)) rfl .nil)))) .nil .nil)
  intro k hk hI
  unfold IHead
  by_cases hlt : k < xs.length
  · have c1 := hK _ (List.getElem_mem hlt)
    have hstep : p xs[k] = false → ∀ j, j < k + 1 → ∀ x, xs[j]? = some x → p x = false := fun hp j hj x hx => by
      by_cases h : j = k
      · subst h; rw [List.getElem?_eq_getElem hlt] at hx; injection hx with hx; subst hx; exact hp
      · exact hI j (by omega) x hx
    repeat' (first | refine for_next hlt (weak_sub (.cons rfl rfl rfl (.cons rfl rfl rfl (.cons rfl rfl rfl (.cons rfl rfl rfl .nil)))) .nil .nil) (hstep (by first | assumption | simp_all)) | (refine rg 2 ?_; refine oCm ?_; refine oN ?_) | (refine rg 3 ?_; refine oMv ?_; refine oAs ?_; refine oN ?_) | (refine rg 4 ?_; refine oMv ?_; refine oMv ?_; refine oMv ?_; refine sp (pix rfl (tyS rfl)) ?_; (first | refine sp (po_load_bx_agg rfl rfl (tyT rfl) rfl (vc (vc .nil)) rfl) ?_ | refine sp (po_load_agg rfl rfl (tyT rfl) rfl rfl) ?_); refine sp (po_call_clo rfl rfl (ac .nil) (c1)) ?_; refine oN ?_) | (refine rg 5 ?_; refine oMv ?_; refine oAs ?_; refine oN ?_) | (refine rg 6 ?_; (first | refine sp (xinc rfl) ?_ | refine sp (xadd rfl) ?_); refine oMv ?_; refine oN ?_) | refine gc ?_ | refine ct ?_ | refine cf ?_ | refine swp_cond rfl (fun hc => ?_) (fun hc => ?_) | refine rq rfl (rt .nil) ?_)
    rw [h1 k hlt hI (by first | assumption | simp_all)]; rfl
  · obtain rfl : k = xs.length := by omega
    repeat' (first | (refine rg 2 ?_; refine oCm ?_; refine oN ?_) | (refine rg 7 ?_; refine oAs ?_; refine oN ?_) | refine gc ?_ | refine ct ?_ | refine cf ?_ | refine swp_cond rfl (fun hc => ?_) (fun hc => ?_) | refine rq rfl (rt .nil) ?_)
    rw [h2 fun x hx => by obtain ⟨j, hj⟩ := List.getElem?_of_mem hx; exact hI j (List.getElem?_eq_some_iff.1 hj).1 x hj]; rfl
theorem idxP_ge {α : Type} (p : α → Bool) (l : List α) : decide (0 ≤ idxP p l) = l.any p := by
  unfold idxP
  cases h : l.any p <;> simp
set_option maxRecDepth 100000 in
theorem containsHead (p : Pl.Head → Bool) (f : FuncId) (caps : List T) (xs : List Pl.Head) (hK : ∀ x ∈ xs, PCalls Tryd.prog f ([.agg (headT x)] ++ caps) (.v (.bool (p x)))) (hn : xs.length ≤ 1000) : PCalls Tryd.prog 62 [headsT xs, .clo f caps] (.v (.bool (xs.any p))) := by
  have c1 := idxHead p f caps xs (idxP p xs) hK hn (idxP_hit p xs) (idxP_miss p xs)
  refine pcalls_of Tryd.func62 rfl rfl Tryd.ntmps62 rfl ?_
  repeat' (first | (refine rg 0 ?_; refine oAs ?_; refine oN ?_) | (refine rg 1 ?_; refine oMv ?_; refine oMv ?_; refine oC (c1) rfl (ac (ac .nil)) ?_; refine oCm ?_; refine oAs ?_; refine oN ?_) | refine gc ?_ | refine ct ?_ | refine cf ?_ | refine swp_cond rfl (fun hc => ?_) (fun hc => ?_) | refine rq rfl (rt .nil) ?_)
  exact eq_b (idxP_ge p xs).symm
theorem not_any_not {α : Type} (p : α → Bool) (l : List α) : (!(l.any fun x => !p x)) = l.all p := by
  rw [List.all_eq_not_any_not]
set_option maxRecDepth 100000 in
theorem mayL_ (l : List Pl.Head) (hn : l.length ≤ 1000) (hh : ∀ h ∈ l, okHead h) : PCalls Tryd.prog 50 [headsT l] (.v (.bool (mayL l))) := by
  have hm1 : (l.map headT).length = l.length := List.length_map _
  have c1 := containsHead (fun x => !good x) 63 [] l (fun x hx => may1_ x (hh x hx)) hn
  unfold mayL
  refine pcalls_of Tryd.func50 rfl rfl Tryd.ntmps50 rfl ?_
  by_cases h : l.length ≤ 24
  · repeat' (first | (refine rg 0 ?_; refine oAs ?_; refine oN ?_) | (refine rg 1 ?_; refine oMv ?_; refine sp (pln rfl (tyS rfl)) ?_; refine oCm ?_; refine oMv ?_; (first | refine oMv ?_ | refine oK ?_ | ((refine ssp (fun hc => ?_) (fun hc => ?_)) <;> first | refine oMv ?_ | refine oK ?_)) <;> (first | refine oC (c1) rfl (ac (ac .nil)) ?_ | refine oK ?_) <;> (first | refine sp (po_not rfl rfl) ?_ | refine oK ?_) <;> (first | refine oPt ?_ | refine oPf ?_) <;> (refine oAs ?_) <;> (refine oN ?_)) | refine gc ?_ | refine ct ?_ | refine cf ?_ | refine swp_cond rfl (fun hc => ?_) (fun hc => ?_) | refine rq rfl (rt .nil) ?_)
    refine eq_b ?_
    rw [not_any_not]; simp [h]
  · repeat' (first | (refine rg 0 ?_; refine oAs ?_; refine oN ?_) | (refine rg 1 ?_; refine oMv ?_; refine sp (pln rfl (tyS rfl)) ?_; refine oCm ?_; refine oMv ?_; (first | refine oMv ?_ | refine oK ?_ | ((refine ssp (fun hc => ?_) (fun hc => ?_)) <;> first | refine oMv ?_ | refine oK ?_)) <;> (first | refine oC (c1) rfl (ac (ac .nil)) ?_ | refine oK ?_) <;> (first | refine sp (po_not rfl rfl) ?_ | refine oK ?_) <;> (first | refine oPt ?_ | refine oPf ?_) <;> (refine oAs ?_) <;> (refine oN ?_)) | refine gc ?_ | refine ct ?_ | refine cf ?_ | refine swp_cond rfl (fun hc => ?_) (fun hc => ?_) | refine rq rfl (rt .nil) ?_)
    refine eq_b ?_
    simp [h]
set_option maxRecDepth 100000 in
theorem refMay_ (l : List Pl.Head) (hn : l.length ≤ 1000) (hh : ∀ h ∈ l, okHead h) : PCalls Tryd.prog 17 [headsT l] (.v (.bool (mayL l))) := by
  have hm1 : (l.map headT).length = l.length := List.length_map _
  unfold mayL
  refine pcalls_of Tryd.func17 rfl rfl Tryd.ntmps17 rfl ?_
  repeat' (first | (refine rg 0 ?_; refine oAs ?_; refine oN ?_) | (refine rg 1 ?_; refine oAs ?_; refine oN ?_) | refine gc ?_ | refine ct ?_ | refine cf ?_ | refine swp_cond rfl (fun hc => ?_) (fun hc => ?_) | refine rq rfl (rt .nil) ?_)
  refine swp_for (fun k => ⟨[(0, .t (headsT l)), (3, .t (.v (.int .i64 (k : Int))))], [], []⟩) (fun k => (l.take k).any (fun x => !good x) = false) l.length (weak_sub (.cons rfl rfl rfl (.cons rfl rfl rfl .nil)) .nil .nil) rfl ?_
  intro k hk hI
  by_cases hlt : k < l.length
  · have c1 := refGood_ l[k] (hh _ (List.getElem_mem hlt))
    cases hg : good l[k] with
    | true =>
      rw [hg] at c1
      repeat' (first | refine for_next hlt (weak_sub (.cons rfl rfl rfl (.cons rfl rfl rfl .nil)) .nil .nil) (any_next hlt hI (by simp [hg])) | (refine rg 2 ?_; refine oMv ?_; refine oMv ?_; refine sp (pln rfl (tyS rfl)) ?_; refine oCm ?_; refine oN ?_) | (refine rg 4 ?_; refine oMv ?_; refine oMv ?_; refine sp (pix rfl (tyS rfl)) ?_; (first | refine sp (po_load_bx_agg rfl rfl (tyT rfl) rfl (vc (vc .nil)) rfl) ?_ | refine sp (po_load_agg rfl rfl (tyT rfl) rfl rfl) ?_); refine oC (c1) rfl (ac .nil) ?_; refine sp (po_not rfl rfl) ?_; refine oN ?_) | (refine rg 3 ?_; refine oMv ?_; (first | refine sp (xinc rfl) ?_ | refine sp (xadd rfl) ?_); refine oAs ?_; refine oN ?_) | refine gc ?_ | refine ct ?_ | refine cf ?_ | refine swp_cond rfl (fun hc => ?_) (fun hc => ?_) | refine rq rfl (rt .nil) ?_)
    | false =>
      rw [hg] at c1
      repeat' (first | (refine rg 2 ?_; refine oMv ?_; refine oMv ?_; refine sp (pln rfl (tyS rfl)) ?_; refine oCm ?_; refine oN ?_) | (refine rg 4 ?_; refine oMv ?_; refine oMv ?_; refine sp (pix rfl (tyS rfl)) ?_; (first | refine sp (po_load_bx_agg rfl rfl (tyT rfl) rfl (vc (vc .nil)) rfl) ?_ | refine sp (po_load_agg rfl rfl (tyT rfl) rfl rfl) ?_); refine oC (c1) rfl (ac .nil) ?_; refine sp (po_not rfl rfl) ?_; refine oN ?_) | (refine rg 5 ?_; refine oAs ?_; refine oN ?_) | refine gc ?_ | refine ct ?_ | refine cf ?_ | refine swp_cond rfl (fun hc => ?_) (fun hc => ?_) | refine rq rfl (rt .nil) ?_)
      refine eq_b ?_
      rw [← not_any_not, any_hit hlt (by simp [hg])]; simp
  · obtain rfl : k = l.length := by omega
    rw [List.take_length] at hI
    repeat' (first | (refine rg 2 ?_; refine oMv ?_; refine oMv ?_; refine sp (pln rfl (tyS rfl)) ?_; refine oCm ?_; refine oN ?_) | (refine rg 6 ?_; refine oMv ?_; refine sp (pln rfl (tyS rfl)) ?_; refine oCm ?_; refine oAs ?_; refine oN ?_) | refine gc ?_ | refine ct ?_ | refine cf ?_ | refine swp_cond rfl (fun hc => ?_) (fun hc => ?_) | refine rq rfl (rt .nil) ?_)
    refine eq_b ?_
    rw [← not_any_not, hI]; simp; omega
def lineS (h : Pl.Head) : ByteArray := h.name ++ ⟨#[58, 32]⟩ ++ h.value
theorem mayName_size {s : ByteArray} (h : mayName s = true) : 1 ≤ s.size ∧ s.size ≤ 64 := by
  unfold mayName at h; simp at h; omega
theorem mayValue_size {s : ByteArray} (h : mayValue s = true) : s.size ≤ 512 := by
  unfold mayValue at h; simp at h; omega
theorem good_size {h : Pl.Head} (hg : good h = true) : 1 ≤ h.name.size ∧ h.name.size ≤ 64 ∧ h.value.size ≤ 512 := by
  unfold good at hg; rw [Bool.and_eq_true] at hg
  exact ⟨(mayName_size hg.1).1, (mayName_size hg.1).2, mayValue_size hg.2⟩
theorem sz2 : (⟨#[58, 32]⟩ : ByteArray).size = 2 := rfl
set_option maxRecDepth 100000 in
theorem line_ (h : Pl.Head) (hh : okHead h) : PCalls Tryd.prog 39 [.agg (headT h)] (if good h then .tup [.v (.string (lineS h)), .v (.int .i64 0)] else .tup [.v (.string ⟨#[]⟩), .v (.int .i64 1)]) := by
  have c1 := may_ h hh
  refine pcalls_of Tryd.func39 rfl rfl Tryd.ntmps39 rfl ?_
  cases hg : good h with
  | true =>
    rw [hg] at c1
    have hs := good_size hg
    have hz := sz2
    have hs2 : (h.name ++ ⟨#[58, 32]⟩).size = h.name.size + 2 := by rw [ByteArray.size_append]; rfl
    rw [if_pos rfl]
    repeat' (first | (refine rg 0 ?_; refine sbx ?_; refine oAs ?_; refine oAs ?_; refine oN ?_) | (refine rg 1 ?_; (first | refine sp (po_load_bx_agg rfl rfl (tyT rfl) rfl (vc (vc .nil)) rfl) ?_ | refine sp (po_load_agg rfl rfl (tyT rfl) rfl rfl) ?_); refine oC (c1) rfl (ac .nil) ?_; refine sp (po_not rfl rfl) ?_; refine oN ?_) | (refine rg 3 ?_; (first | refine oFb ?_ | refine oFd ?_); (first | refine oLb ?_ | refine oLd ?_); refine sp (po_cat rfl rfl rfl (by omega)) ?_; (first | refine oFb ?_ | refine oFd ?_); (first | refine oLb ?_ | refine oLd ?_); refine sp (po_cat rfl rfl rfl (by omega)) ?_; refine oAs ?_; refine oAs ?_; refine oN ?_) | refine gc ?_ | refine ct ?_ | refine cf ?_ | refine swp_cond rfl (fun hc => ?_) (fun hc => ?_) | refine rq rfl (rt (rt .nil)) ?_)
    rfl
  | false =>
    rw [hg] at c1
    rw [if_neg (by simp)]
    repeat' (first | (refine rg 0 ?_; refine sbx ?_; refine oAs ?_; refine oAs ?_; refine oN ?_) | (refine rg 1 ?_; (first | refine sp (po_load_bx_agg rfl rfl (tyT rfl) rfl (vc (vc .nil)) rfl) ?_ | refine sp (po_load_agg rfl rfl (tyT rfl) rfl rfl) ?_); refine oC (c1) rfl (ac .nil) ?_; refine sp (po_not rfl rfl) ?_; refine oN ?_) | (refine rg 2 ?_; refine oAs ?_; refine oAs ?_; refine oN ?_) | refine gc ?_ | refine ct ?_ | refine cf ?_ | refine swp_cond rfl (fun hc => ?_) (fun hc => ?_) | refine rq rfl (rt (rt .nil)) ?_)
    rfl
end Go.Proofs.YtpncekdhigappaaDoor.Hd

/- Headers: a line read: walks. -/
namespace Go.Proofs.YtpncekdhigappaaDoor.Hd
set_option linter.unusedVariables false
set_option linter.unusedSimpArgs false
open Go.RowKit Mem Sim Opn Str
def head0 : Pl.Head := ⟨bs [], bs []⟩
def readC (s : ByteArray) : Pl.Head := ⟨small (s.extract 0 (fidx s 58)), bs (trimB ws (s.toList.drop (fidx s 58 + 1)))⟩
/-- what a line is read as -/
def readH (s : ByteArray) : Pl.Head × Int := if s.size ≤ 578 then (if fidx s 58 < s.size then (if good (readC s) then (readC s, 0) else (head0, 2)) else (head0, 2)) else (head0, 6)
def readT (r : Pl.Head × Int) : T := .tup [.agg (headT r.1), .v (.int .i64 r.2)]
theorem ba_extract (s : ByteArray) (a b : Nat) : s.extract a b = bs ((s.toList.take b).drop a) := by
  conv => lhs; rw [← toList_bs s]
  exact bs_extract _ _ _
theorem small_size (s : ByteArray) : (small s).size = s.size := by unfold small; rw [bs_size, List.length_map, toList_len]
theorem trimB_len (cs l : List UInt8) : (trimB cs l).length ≤ l.length := Nat.le_trans (rdrop_len _ _) (List.dropWhile_sublist _).length_le
theorem readC_ok (s : ByteArray) (hs : s.size ≤ maxLen) : okHead (readC s) := by
  constructor
  · show (small _).size ≤ maxLen
    rw [small_size, ByteArray.size_extract]; omega
  · show (bs _).size ≤ maxLen
    rw [bs_size]
    have h1 := trimB_len ws (s.toList.drop (fidx s 58 + 1))
    rw [List.length_drop, toList_len] at h1; omega
set_option maxRecDepth 100000 in
theorem read_ (s : ByteArray) (hs : s.size ≤ maxLen) : PCalls Tryd.prog 78 [.v (.string s)] (readT (readH s)) := by
  have c1 := cut_ s 58 hs
  have hml : s.size ≤ 9223372036854775807 := by unfold maxLen at hs; omega
  unfold readH
  refine pcalls_of Tryd.func78 rfl rfl Tryd.ntmps78 rfl ?_
  by_cases h578 : s.size ≤ 578
  · rw [if_pos h578]
    unfold cutT at c1
    by_cases hf : fidx s 58 < s.size
    · rw [if_pos hf]
      rw [if_pos hf, ba_extract s (fidx s 58 + 1), show s.toList.take s.size = s.toList from take_full s (Nat.lt_irrefl _)] at c1
      have c2 := small_ (s.extract 0 (fidx s 58)) (by rw [ByteArray.size_extract]; omega)
      have c3 := trim_ (s.toList.drop (fidx s 58 + 1)) (by rw [List.length_drop, toList_len]; omega)
      have c4 := may_ (readC s) (readC_ok s hs)
      cases hg : good (readC s) with
      | true =>
        rw [hg] at c4
        rw [if_pos rfl]
        repeat' (first | (refine rg 0 ?_; refine sal str32 ?_; refine oAs ?_; refine oN ?_) | (refine rg 1 ?_; refine oMv ?_; refine sp (po_len_str rfl rfl (tyR rfl)) ?_; refine oCm ?_; refine oN ?_) | (refine rg 3 ?_; refine oMv ?_; (first | refine oC (c1) rfl (ac (ac .nil)) ?_ | refine oC (c2) rfl (ac (ac .nil)) ?_ | refine oC (c3) rfl (ac (ac .nil)) ?_ | refine oC (c4) rfl (ac (ac .nil)) ?_); refine oMv ?_; refine oEx ?_; refine oEx ?_; refine oEx ?_; refine oAs ?_; refine oAs ?_; refine oAs ?_; refine oN ?_) | (refine rg 4 ?_; refine oMv ?_; (first | refine oC (c1) rfl (ac .nil) ?_ | refine oC (c2) rfl (ac .nil) ?_ | refine oC (c3) rfl (ac .nil) ?_ | refine oC (c4) rfl (ac .nil) ?_); refine oMv ?_; (first | refine oC (c1) rfl (ac (ac .nil)) ?_ | refine oC (c2) rfl (ac (ac .nil)) ?_ | refine oC (c3) rfl (ac (ac .nil)) ?_ | refine oC (c4) rfl (ac (ac .nil)) ?_); refine sp (po_buildS str32 rfl (pc (pc .nil)) rfl) ?_; refine sal str32 ?_; refine oS ?_; refine oN ?_) | (refine rg 5 ?_; refine oMv ?_; refine sp (po_not rfl rfl) ?_; refine oMv ?_; (first | refine sp (po_load_bx_agg rfl rfl (tyT rfl) rfl (vc (vc .nil)) rfl) ?_ | refine sp (po_load_agg rfl rfl (tyT rfl) rfl rfl) ?_ | refine oK ?_ | ((refine ssp (fun hc => ?_) (fun hc => ?_)) <;> first | refine sp (po_load_bx_agg rfl rfl (tyT rfl) rfl (vc (vc .nil)) rfl) ?_ | refine sp (po_load_agg rfl rfl (tyT rfl) rfl rfl) ?_ | refine oK ?_)) <;> (first | refine oC (c1) rfl (ac .nil) ?_ | refine oC (c2) rfl (ac .nil) ?_ | refine oC (c3) rfl (ac .nil) ?_ | refine oC (c4) rfl (ac .nil) ?_ | refine oK ?_) <;> (first | refine sp (po_not rfl rfl) ?_ | refine oK ?_) <;> (first | refine oPt ?_ | refine oPf ?_) <;> (refine oN ?_)) | (refine rg 7 ?_; (first | refine sp (po_load_bx_agg rfl rfl (tyT rfl) rfl (vc (vc .nil)) rfl) ?_ | refine sp (po_load_agg rfl rfl (tyT rfl) rfl rfl) ?_); refine oS ?_; refine oAs ?_; refine oN ?_) | refine gc ?_ | refine ct ?_ | refine cf ?_ | refine swp_cond rfl (fun hc => ?_) (fun hc => ?_) | refine rq rfl (.cell rfl rfl (tyT rfl) (vc (vc .nil)) rfl (rt .nil)) ?_)
        rfl
      | false =>
        rw [hg] at c4
        rw [if_neg (by simp)]
        repeat' (first | (refine rg 0 ?_; refine sal str32 ?_; refine oAs ?_; refine oN ?_) | (refine rg 1 ?_; refine oMv ?_; refine sp (po_len_str rfl rfl (tyR rfl)) ?_; refine oCm ?_; refine oN ?_) | (refine rg 3 ?_; refine oMv ?_; (first | refine oC (c1) rfl (ac (ac .nil)) ?_ | refine oC (c2) rfl (ac (ac .nil)) ?_ | refine oC (c3) rfl (ac (ac .nil)) ?_ | refine oC (c4) rfl (ac (ac .nil)) ?_); refine oMv ?_; refine oEx ?_; refine oEx ?_; refine oEx ?_; refine oAs ?_; refine oAs ?_; refine oAs ?_; refine oN ?_) | (refine rg 4 ?_; refine oMv ?_; (first | refine oC (c1) rfl (ac .nil) ?_ | refine oC (c2) rfl (ac .nil) ?_ | refine oC (c3) rfl (ac .nil) ?_ | refine oC (c4) rfl (ac .nil) ?_); refine oMv ?_; (first | refine oC (c1) rfl (ac (ac .nil)) ?_ | refine oC (c2) rfl (ac (ac .nil)) ?_ | refine oC (c3) rfl (ac (ac .nil)) ?_ | refine oC (c4) rfl (ac (ac .nil)) ?_); refine sp (po_buildS str32 rfl (pc (pc .nil)) rfl) ?_; refine sal str32 ?_; refine oS ?_; refine oN ?_) | (refine rg 5 ?_; refine oMv ?_; refine sp (po_not rfl rfl) ?_; refine oMv ?_; (first | refine sp (po_load_bx_agg rfl rfl (tyT rfl) rfl (vc (vc .nil)) rfl) ?_ | refine sp (po_load_agg rfl rfl (tyT rfl) rfl rfl) ?_ | refine oK ?_ | ((refine ssp (fun hc => ?_) (fun hc => ?_)) <;> first | refine sp (po_load_bx_agg rfl rfl (tyT rfl) rfl (vc (vc .nil)) rfl) ?_ | refine sp (po_load_agg rfl rfl (tyT rfl) rfl rfl) ?_ | refine oK ?_)) <;> (first | refine oC (c1) rfl (ac .nil) ?_ | refine oC (c2) rfl (ac .nil) ?_ | refine oC (c3) rfl (ac .nil) ?_ | refine oC (c4) rfl (ac .nil) ?_ | refine oK ?_) <;> (first | refine sp (po_not rfl rfl) ?_ | refine oK ?_) <;> (first | refine oPt ?_ | refine oPf ?_) <;> (refine oN ?_)) | (refine rg 6 ?_; refine sp (po_buildS str32 rfl .nil rfl) ?_; refine oS ?_; refine oAs ?_; refine oN ?_) | refine gc ?_ | refine ct ?_ | refine cf ?_ | refine swp_cond rfl (fun hc => ?_) (fun hc => ?_) | refine rq rfl (.cell rfl rfl (tyT rfl) (vc (vc .nil)) rfl (rt .nil)) ?_)
        rfl
    · rw [if_neg hf]
      rw [if_neg hf] at c1
      have c2 := small_ s hs
      have c3 := trim_ [] (by simp)
      repeat' (first | (refine rg 0 ?_; refine sal str32 ?_; refine oAs ?_; refine oN ?_) | (refine rg 1 ?_; refine oMv ?_; refine sp (po_len_str rfl rfl (tyR rfl)) ?_; refine oCm ?_; refine oN ?_) | (refine rg 3 ?_; refine oMv ?_; (first | refine oC (c1) rfl (ac (ac .nil)) ?_ | refine oC (c2) rfl (ac (ac .nil)) ?_ | refine oC (c3) rfl (ac (ac .nil)) ?_); refine oMv ?_; refine oEx ?_; refine oEx ?_; refine oEx ?_; refine oAs ?_; refine oAs ?_; refine oAs ?_; refine oN ?_) | (refine rg 4 ?_; refine oMv ?_; (first | refine oC (c1) rfl (ac .nil) ?_ | refine oC (c2) rfl (ac .nil) ?_ | refine oC (c3) rfl (ac .nil) ?_); refine oMv ?_; (first | refine oC (c1) rfl (ac (ac .nil)) ?_ | refine oC (c2) rfl (ac (ac .nil)) ?_ | refine oC (c3) rfl (ac (ac .nil)) ?_); refine sp (po_buildS str32 rfl (pc (pc .nil)) rfl) ?_; refine sal str32 ?_; refine oS ?_; refine oN ?_) | (refine rg 5 ?_; refine oMv ?_; refine sp (po_not rfl rfl) ?_; refine oMv ?_; (first | refine sp (po_load_bx_agg rfl rfl (tyT rfl) rfl (vc (vc .nil)) rfl) ?_ | refine sp (po_load_agg rfl rfl (tyT rfl) rfl rfl) ?_ | refine oK ?_ | ((refine ssp (fun hc => ?_) (fun hc => ?_)) <;> first | refine sp (po_load_bx_agg rfl rfl (tyT rfl) rfl (vc (vc .nil)) rfl) ?_ | refine sp (po_load_agg rfl rfl (tyT rfl) rfl rfl) ?_ | refine oK ?_)) <;> (first | refine oC (c1) rfl (ac .nil) ?_ | refine oC (c2) rfl (ac .nil) ?_ | refine oC (c3) rfl (ac .nil) ?_ | refine oK ?_) <;> (first | refine sp (po_not rfl rfl) ?_ | refine oK ?_) <;> (first | refine oPt ?_ | refine oPf ?_) <;> (refine oN ?_)) | (refine rg 6 ?_; refine sp (po_buildS str32 rfl .nil rfl) ?_; refine oS ?_; refine oAs ?_; refine oN ?_) | refine gc ?_ | refine ct ?_ | refine cf ?_ | refine swp_cond rfl (fun hc => ?_) (fun hc => ?_) | refine rq rfl (.cell rfl rfl (tyT rfl) (vc (vc .nil)) rfl (rt .nil)) ?_)
      rfl
  · rw [if_neg h578]
    repeat' (first | (refine rg 0 ?_; refine sal str32 ?_; refine oAs ?_; refine oN ?_) | (refine rg 1 ?_; refine oMv ?_; refine sp (po_len_str rfl rfl (tyR rfl)) ?_; refine oCm ?_; refine oN ?_) | (refine rg 2 ?_; refine sp (po_buildS str32 rfl .nil rfl) ?_; refine oS ?_; refine oAs ?_; refine oN ?_) | refine gc ?_ | refine ct ?_ | refine cf ?_ | refine swp_cond rfl (fun hc => ?_) (fun hc => ?_) | refine rq rfl (.cell rfl rfl (tyT rfl) (vc (vc .nil)) rfl (rt .nil)) ?_)
    rfl
theorem toList_at (s : ByteArray) {k : Nat} (h : k < s.size) : s.toList[k]'(by rw [toList_len]; exact h) = s[k] := by
  have h3 := toList_get s k h
  rw [List.getElem?_eq_getElem (by rw [toList_len]; exact h)] at h3
  exact Option.some.inj h3
end Go.Proofs.YtpncekdhigappaaDoor.Hd
