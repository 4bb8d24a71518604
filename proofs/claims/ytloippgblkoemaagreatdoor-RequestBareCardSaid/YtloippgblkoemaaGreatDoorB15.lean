/- Merged by bundles.py: SimHd2, SimHd6, SimHd7, SimHd8. -/
import Derived.Test.YtloippgblkoemaaGreatDoorB13
import Derived.Test.YtloippgblkoemaaGreatDoorB14
/- Headers: MayValue, blank: walks. -/
namespace Go.Proofs.YtloippgblkoemaaGreatDoor.Hd
set_option linter.unusedVariables false
set_option linter.unusedSimpArgs false
open Go.RowKit Mem Sim Opn
def vcN (n i c : Nat) : Bool := decide (33 ≤ c ∧ c ≤ 126) || (decide (c = 32 ∨ c = 9) && decide (i ≠ 0 ∧ i + 1 ≠ n))
def vcs (s : ByteArray) (i : Nat) : Bool := if h : i < s.size then vcN s.size i (s[i]'h).toNat else true
def mayValue (s : ByteArray) : Bool := (List.range s.size).all (vcs s) && decide (s.size ≤ 512)
theorem vcs_at {s : ByteArray} {i : Nat} (hi : i < s.size) : vcs s i = vcN s.size i (s[i]'hi).toNat := dif_pos hi
theorem rng_more {f : Nat → Bool} {i : Nat} (h : (List.range i).all f = true) (hi : f i = true) : (List.range (i + 1)).all f = true := by
  rw [List.range_succ, List.all_append, h]; simp [hi]
theorem rng_no {f : Nat → Bool} {i n : Nat} (hi : i < n) (h : f i = false) : (List.range n).all f = false := by
  rw [List.all_eq_false]; exact ⟨i, by simpa using hi, by simp [h]⟩
def blankN (c : Nat) : Bool := decide (c = 32 ∨ c = 9)
set_option maxRecDepth 100000 in
theorem blank_ (c : Nat) : PCalls Tryz.prog 135 [.v (.int .u8 (c : Int))] (.v (.bool (blankN c))) := by
  unfold blankN
  refine pcalls_of Tryz.func135 rfl rfl Tryz.ntmps135 rfl ?_
  repeat' (first | refine rg 0 (aq0 ?_) | (refine rg 1 ?_; refine oMv ?_; refine oCm ?_; refine oMv ?_; (first | refine oMv ?_ | refine oK ?_ | ((refine ssp (fun hc => ?_) (fun hc => ?_)) <;> first | refine oMv ?_ | refine oK ?_)) <;> refine aq33 ?_) | refine gc ?_ | refine ct ?_ | refine cf ?_ | refine sc ?_ ?_ <;> intro hc | refine rq rfl (rt .nil) ?_)
  all_goals
    refine eq_b ?_
    rw [Bool.eq_iff_iff]
    simp at *; omega
set_option maxRecDepth 100000 in
set_option maxHeartbeats 1000000 in
theorem mayValue_ (s : ByteArray) (hs : s.size ≤ maxLen) : PCalls Tryz.prog 110 [.v (.string s)] (.v (.bool (mayValue s))) := by
  unfold maxLen at hs
  refine pcalls_of Tryz.func110 rfl rfl Tryz.ntmps110 rfl ?_
  repeat' (first | refine rg 0 (aq0 ?_) | refine rg 1 (aq0 ?_) | refine gc ?_ | refine ct ?_ | refine cf ?_ | refine sc ?_ ?_ <;> intro hc | refine rq rfl (rt .nil) ?_)
  refine swp_for (fun k => ⟨[(0, .t (.v (.string s))), (3, .t (.v (.int .i64 (k : Int))))], [], []⟩) (fun k => (List.range k).all (vcs s) = true) s.size (weak_sub (.cons rfl rfl rfl (.cons rfl rfl rfl .nil)) .nil .nil) rfl ?_
  intro k hk hI
  by_cases hlt : k < s.size
  · have hv := vcs_at hlt
    have hbl := blank_ s[k].toNat
    cases hb : blankN s[k].toNat
    all_goals
      rw [hb] at hbl
      unfold blankN at hb
    all_goals
      by_cases h0 : k = 0
      all_goals
        by_cases h1 : k + 1 = s.size
        all_goals
          repeat' (first | refine for_next hlt (weak_sub (.cons rfl rfl rfl (.cons rfl rfl rfl .nil)) .nil .nil) ?_ | refine rg 2 (aq22 ?_) | (refine rg 4 ?_; refine oMv ?_; refine oCm ?_; refine oMv ?_; (first | refine oMv ?_ | refine oK ?_) <;> (first | refine sp (xinc rfl) ?_ | refine sp (xadd rfl) ?_ | refine oK ?_) <;> (first | refine oMv ?_ | refine oK ?_) <;> (first | refine sp (po_len_str rfl rfl (tyR rfl)) ?_ | refine oK ?_) <;> (first | refine oCm ?_ | refine oK ?_) <;> (first | refine oPt ?_ | refine oPf ?_) <;> refine oAs ?_ <;> refine oN ?_) | refine rg 5 (aq23 ?_) | (refine rg 6 ?_; refine oMv ?_; refine oCm ?_; refine oMv ?_; (first | refine oMv ?_ | refine oK ?_ | ((refine ssp (fun hc => ?_) (fun hc => ?_)) <;> first | refine oMv ?_ | refine oK ?_)) <;> refine aq36 ?_ <;> (first | refine oMv ?_ | refine oK ?_ | ((refine ssp (fun hc => ?_) (fun hc => ?_)) <;> first | refine oMv ?_ | refine oK ?_)) <;> (first | refine oC (hbl) rfl (ac .nil) ?_ | refine oK ?_) <;> (first | refine oMv ?_ | refine oK ?_) <;> (first | refine oMv ?_ | refine oK ?_) <;> (first | refine sp (po_not rfl rfl) ?_ | refine oK ?_) <;> (first | refine oPt ?_ | refine oPf ?_ | refine oK ?_) <;> (first | refine oPt ?_ | refine oPf ?_) <;> refine sp (po_not rfl rfl) ?_ <;> refine oN ?_) | refine rg 7 (aq0 ?_) | refine rg 3 (aq3 ?_) | refine gc ?_ | refine ct ?_ | refine cf ?_ | refine sc ?_ ?_ <;> intro hc | refine rq rfl (rt .nil) ?_)
    all_goals first
      | (refine eq_b ?_
         unfold mayValue
         rw [rng_no hlt]
         · rfl
         rw [hv, vcN]
         simp at *
         omega)
      | (refine rng_more hI ?_
         rw [hv, vcN]
         simp at *
         omega)
  · obtain rfl : k = s.size := by omega
    repeat' (first | refine rg 2 (aq22 ?_) | (refine rg 8 ?_; refine oMv ?_; refine sp (po_len_str rfl rfl (tyR rfl)) ?_; refine oCm ?_; refine oAs ?_; refine oN ?_) | refine gc ?_ | refine ct ?_ | refine cf ?_ | refine sc ?_ ?_ <;> intro hc | refine rq rfl (rt .nil) ?_)
    refine eq_b ?_
    unfold mayValue; rw [hI]; simp; omega
end Go.Proofs.YtloippgblkoemaaGreatDoor.Hd

/- Headers: may they be; a header's line: walks. -/
namespace Go.Proofs.YtloippgblkoemaaGreatDoor.Hd
set_option linter.unusedVariables false
set_option linter.unusedSimpArgs false
open Go.RowKit Mem Sim Opn Str
def good (h : Pl.Head) : Bool := mayName h.name && mayValue h.value
def mayL (l : List Pl.Head) : Bool := decide (l.length ≤ 24) && l.all good
set_option maxRecDepth 100000 in
theorem may_ (h : Pl.Head) (hh : okHead h) : PCalls Tryz.prog 82 [.agg (headT h)] (.v (.bool (good h))) := by
  have c1 := mayName_ h.name hh.1
  have c2 := mayValue_ h.value hh.2
  unfold good
  refine pcalls_of Tryz.func82 rfl rfl Tryz.ntmps82 rfl ?_
  cases h1 : mayName h.name
  all_goals
    rw [h1] at c1
    repeat' (first | refine rg 0 (aq37 ?_) | (refine rg 1 (aq38 ?_); refine oC (c1) rfl (ac .nil) ?_; refine aq39 ?_ <;> (first | refine oC (c1) rfl (ac .nil) ?_ | refine oC (c2) rfl (ac .nil) ?_ | refine oK ?_) <;> refine aq40 ?_) | refine gc ?_ | refine ct ?_ | refine cf ?_ | refine sc ?_ ?_ <;> intro hc | refine rq rfl (rt .nil) ?_)
    rfl
set_option maxRecDepth 100000 in
theorem may1_ (h : Pl.Head) (hh : okHead h) : PCalls Tryz.prog 97 [.agg (headT h)] (.v (.bool (!good h))) := by
  have c1 := may_ h hh
  refine pcalls_of Tryz.func97 rfl rfl Tryz.ntmps97 rfl ?_
  repeat' (first | refine rg 0 (aq37 ?_) | (refine rg 1 (aq41 ?_); refine oC (c1) rfl (ac .nil) ?_; refine aq42 ?_) | refine gc ?_ | refine ct ?_ | refine cf ?_ | refine sc ?_ ?_ <;> intro hc | refine rq rfl (rt .nil) ?_)
  rfl
def idxP {α : Type} (p : α → Bool) (l : List α) : Int := if l.any p then ((l.findIdx p : Nat) : Int) else -1
theorem idxP_hit {α : Type} (p : α → Bool) (l : List α) (k : Nat) (h : k < l.length) (h1 : ∀ j, j < k → ∀ x, l[j]? = some x → p x = false) (h2 : p l[k] = true) : idxP p l = (k : Int) := by
  unfold idxP
  rw [if_pos (List.any_eq_true.2 ⟨_, List.getElem_mem h, h2⟩)]
  congr 1
  refine (List.findIdx_eq h).2 ⟨h2, fun j hj => ?_⟩
  exact h1 j hj _ (List.getElem?_eq_getElem (by omega))
theorem idxP_miss {α : Type} (p : α → Bool) (l : List α) (h : ∀ x ∈ l, p x = false) : idxP p l = -1 := by
  unfold idxP; rw [if_neg]; simp; exact h
def IHead (xs : List Pl.Head) (f : FuncId) (caps : List T) (k : Nat) : St := ⟨[(0, .t (headsT xs)), (1, .t (.clo f caps)), (7, .t (.v (.int .i64 (xs.length : Int)))), (8, .t (.v (.int .i64 (k : Int))))], [], []⟩
set_option maxRecDepth 100000 in
set_option maxHeartbeats 1000000 in
theorem idxHead (p : Pl.Head → Bool) (f : FuncId) (caps : List T) (xs : List Pl.Head) (r : Int) (hK : ∀ x ∈ xs, PCalls Tryz.prog f ([.agg (headT x)] ++ caps) (.v (.bool (p x)))) (hn : xs.length ≤ 1000)
    (h1 : ∀ k, (h : k < xs.length) → (∀ j, j < k → ∀ x, xs[j]? = some x → p x = false) → p xs[k] = true → r = (k : Int)) (h2 : (∀ x ∈ xs, p x = false) → r = -1) : PCalls Tryz.prog 126 [headsT xs, .clo f caps] (.v (.int .i64 r)) := by
  have hm1 : (xs.map headT).length = xs.length := List.length_map _
  refine pcalls_of Tryz.func126 rfl rfl Tryz.ntmps126 rfl ?_
  repeat' (first | refine rg 0 (aq0 ?_) | refine rg 1 (aq5 ?_) | refine gc ?_ | refine ct ?_ | refine cf ?_ | refine sc ?_ ?_ <;> intro hc | refine rq rfl (rt .nil) ?_)
  refine swp_for (IHead xs f caps) (fun k => ∀ j, j < k → ∀ x, xs[j]? = some x → p x = false) xs.length ?_ (fun j hj => by omega) ?_
  · exact (weak_sub (.cons rfl (by first | rfl | (exact congrArg (fun n : Nat => A.t (.v (.int .i64 (n : Int)))) hm1)) rfl (.cons rfl (by first | rfl | (exact congrArg (fun n : Nat => A.t (.v (.int .i64 (n : Int)))) hm1)) rfl (.cons rfl (by first | rfl | (exact congrArg (fun n : Nat => A.t (.v (.int .i64 (n : Int)))) hm1)) rfl (.cons rfl (by first | rfl | (exact congrArg (fun n : Nat => A.t (.v (.int .i64 (n : Int)))) hm1)) rfl .nil)))) .nil .nil)
  intro k hk hI
  unfold IHead
  by_cases hlt : k < xs.length
  · have c1 := hK _ (List.getElem_mem hlt)
    have hstep : p xs[k] = false → ∀ j, j < k + 1 → ∀ x, xs[j]? = some x → p x = false := fun hp j hj x hx => by
      by_cases h : j = k
      · subst h; rw [List.getElem?_eq_getElem hlt] at hx; injection hx with hx; subst hx; exact hp
      · exact hI j (by omega) x hx
    repeat' (first | refine for_next hlt (weak_sub (.cons rfl rfl rfl (.cons rfl rfl rfl (.cons rfl rfl rfl (.cons rfl rfl rfl .nil)))) .nil .nil) (hstep (by first | assumption | simp_all)) | refine rg 2 (aq6 ?_) | refine rg 3 (aq4 ?_) | (refine rg 4 ?_; refine oMv ?_; refine oMv ?_; refine oMv ?_; refine sp (pix rfl (tyS rfl)) ?_; (first | refine sp (po_load_bx_agg rfl rfl (tyT rfl) rfl (vc (vc .nil)) rfl) ?_ | refine sp (po_load_agg rfl rfl (tyT rfl) rfl rfl) ?_); refine sp (po_call_clo rfl rfl (ac .nil) (c1)) ?_; refine oN ?_) | refine rg 5 (aq4 ?_) | refine rg 6 (aq9 ?_) | refine gc ?_ | refine ct ?_ | refine cf ?_ | refine sc ?_ ?_ <;> intro hc | refine rq rfl (rt .nil) ?_)
    rw [h1 k hlt hI (by first | assumption | simp_all)]; rfl
  · obtain rfl : k = xs.length := by omega
    repeat' (first | refine rg 2 (aq6 ?_) | refine rg 7 (aq0 ?_) | refine gc ?_ | refine ct ?_ | refine cf ?_ | refine sc ?_ ?_ <;> intro hc | refine rq rfl (rt .nil) ?_)
    rw [h2 fun x hx => by obtain ⟨j, hj⟩ := List.getElem?_of_mem hx; exact hI j (List.getElem?_eq_some_iff.1 hj).1 x hj]; rfl
theorem idxP_ge {α : Type} (p : α → Bool) (l : List α) : decide (0 ≤ idxP p l) = l.any p := by
  unfold idxP
  cases h : l.any p <;> simp
set_option maxRecDepth 100000 in
theorem containsHead (p : Pl.Head → Bool) (f : FuncId) (caps : List T) (xs : List Pl.Head) (hK : ∀ x ∈ xs, PCalls Tryz.prog f ([.agg (headT x)] ++ caps) (.v (.bool (p x)))) (hn : xs.length ≤ 1000) : PCalls Tryz.prog 96 [headsT xs, .clo f caps] (.v (.bool (xs.any p))) := by
  have c1 := idxHead p f caps xs (idxP p xs) hK hn (idxP_hit p xs) (idxP_miss p xs)
  refine pcalls_of Tryz.func96 rfl rfl Tryz.ntmps96 rfl ?_
  repeat' (first | refine rg 0 (aq0 ?_) | (refine rg 1 (aq15 ?_); refine oC (c1) rfl (ac (ac .nil)) ?_; refine aq43 ?_) | refine gc ?_ | refine ct ?_ | refine cf ?_ | refine sc ?_ ?_ <;> intro hc | refine rq rfl (rt .nil) ?_)
  exact eq_b (idxP_ge p xs).symm
theorem not_any_not {α : Type} (p : α → Bool) (l : List α) : (!(l.any fun x => !p x)) = l.all p := by
  rw [List.all_eq_not_any_not]
set_option maxRecDepth 100000 in
theorem mayL_ (l : List Pl.Head) (hn : l.length ≤ 1000) (hh : ∀ h ∈ l, okHead h) : PCalls Tryz.prog 68 [headsT l] (.v (.bool (mayL l))) := by
  have hm1 : (l.map headT).length = l.length := List.length_map _
  have c1 := containsHead (fun x => !good x) 97 [] l (fun x hx => may1_ x (hh x hx)) hn
  unfold mayL
  refine pcalls_of Tryz.func68 rfl rfl Tryz.ntmps68 rfl ?_
  by_cases h : l.length ≤ 24
  · repeat' (first | refine rg 0 (aq0 ?_) | (refine rg 1 ?_; refine oMv ?_; refine sp (pln rfl (tyS rfl)) ?_; refine oCm ?_; refine oMv ?_; refine oMv ?_ <;> refine oC (c1) rfl (ac (ac .nil)) ?_ <;> refine sp (po_not rfl rfl) ?_ <;> refine oPt ?_ <;> refine oAs ?_ <;> refine oN ?_) | refine gc ?_ | refine ct ?_ | refine cf ?_ | refine sc ?_ ?_ <;> intro hc | refine rq rfl (rt .nil) ?_)
    refine eq_b ?_
    rw [not_any_not]; simp [h]
  · repeat' (first | refine rg 0 (aq0 ?_) | (refine rg 1 ?_; refine oMv ?_; refine sp (pln rfl (tyS rfl)) ?_; refine oCm ?_; refine oMv ?_; (first | refine oMv ?_ | refine oK ?_) <;> (first | refine oC (c1) rfl (ac (ac .nil)) ?_ | refine oK ?_) <;> (first | refine sp (po_not rfl rfl) ?_ | refine oK ?_) <;> (first | refine oPt ?_ | refine oPf ?_) <;> refine oAs ?_ <;> refine oN ?_) | refine gc ?_ | refine ct ?_ | refine cf ?_ | refine sc ?_ ?_ <;> intro hc | refine rq rfl (rt .nil) ?_)
    refine eq_b ?_
    simp [h]
def lineS (h : Pl.Head) : ByteArray := h.name ++ ⟨#[58, 32]⟩ ++ h.value
theorem mayName_size {s : ByteArray} (h : mayName s = true) : 1 ≤ s.size ∧ s.size ≤ 64 := by
  unfold mayName at h; simp at h; omega
theorem mayValue_size {s : ByteArray} (h : mayValue s = true) : s.size ≤ 512 := by
  unfold mayValue at h; simp at h; omega
theorem good_size {h : Pl.Head} (hg : good h = true) : 1 ≤ h.name.size ∧ h.name.size ≤ 64 ∧ h.value.size ≤ 512 := by
  unfold good at hg; rw [Bool.and_eq_true] at hg
  exact ⟨(mayName_size hg.1).1, (mayName_size hg.1).2, mayValue_size hg.2⟩
theorem sz2 : (⟨#[58, 32]⟩ : ByteArray).size = 2 := rfl
set_option maxRecDepth 100000 in
theorem line_ (h : Pl.Head) (hh : okHead h) : PCalls Tryz.prog 56 [.agg (headT h)] (if good h then .tup [.v (.string (lineS h)), .v (.int .i64 0)] else .tup [.v (.string ⟨#[]⟩), .v (.int .i64 1)]) := by
  have c1 := may_ h hh
  refine pcalls_of Tryz.func56 rfl rfl Tryz.ntmps56 rfl ?_
  cases hg : good h with
  | true =>
    rw [hg] at c1
    have hs := good_size hg
    have hz := sz2
    have hs2 : (h.name ++ ⟨#[58, 32]⟩).size = h.name.size + 2 := by rw [ByteArray.size_append]; rfl
    rw [if_pos rfl]
    repeat' (first | refine rg 0 (aq46 ?_) | (refine rg 1 (aq41 ?_); refine oC (c1) rfl (ac .nil) ?_; refine aq25 ?_) | (refine rg 3 ?_; refine oFb ?_; refine oLb ?_; refine sp (po_cat rfl rfl rfl (by omega)) ?_; refine oFb ?_; refine oLb ?_; refine sp (po_cat rfl rfl rfl (by omega)) ?_; refine oAs ?_; refine oAs ?_; refine oN ?_) | refine gc ?_ | refine ct ?_ | refine cf ?_ | refine sc ?_ ?_ <;> intro hc | refine rq rfl (rt (rt .nil)) ?_)
    rfl
  | false =>
    rw [hg] at c1
    rw [if_neg (by simp)]
    repeat' (first | refine rg 0 (aq46 ?_) | (refine rg 1 (aq41 ?_); refine oC (c1) rfl (ac .nil) ?_; refine aq25 ?_) | refine rg 2 (aq47 ?_) | refine gc ?_ | refine ct ?_ | refine cf ?_ | refine sc ?_ ?_ <;> intro hc | refine rq rfl (rt (rt .nil)) ?_)
    rfl
end Go.Proofs.YtloippgblkoemaaGreatDoor.Hd

/- Headers: a line read: walks. -/
namespace Go.Proofs.YtloippgblkoemaaGreatDoor.Hd
set_option linter.unusedVariables false
set_option linter.unusedSimpArgs false
open Go.RowKit Mem Sim Opn Str
def head0 : Pl.Head := ⟨bs [], bs []⟩
def readC (s : ByteArray) : Pl.Head := ⟨small (s.extract 0 (fidx s 58)), bs (trimB ws (s.toList.drop (fidx s 58 + 1)))⟩
def readH (s : ByteArray) : Pl.Head × Int := if s.size ≤ 578 then (if fidx s 58 < s.size then (if good (readC s) then (readC s, 0) else (head0, 2)) else (head0, 2)) else (head0, 6)
def readT (r : Pl.Head × Int) : T := .tup [.agg (headT r.1), .v (.int .i64 r.2)]
theorem ba_extract (s : ByteArray) (a b : Nat) : s.extract a b = bs ((s.toList.take b).drop a) := by
  conv => lhs; rw [← toList_bs s]
  exact bs_extract _ _ _
theorem small_size (s : ByteArray) : (small s).size = s.size := by unfold small; rw [bs_size, List.length_map, toList_len]
theorem trimB_len (cs l : List UInt8) : (trimB cs l).length ≤ l.length := Nat.le_trans (rdrop_len _ _) (List.dropWhile_sublist _).length_le
theorem readC_ok (s : ByteArray) (hs : s.size ≤ maxLen) : okHead (readC s) := by
  constructor
  · show (small _).size ≤ maxLen
    rw [small_size, ByteArray.size_extract]; omega
  · show (bs _).size ≤ maxLen
    rw [bs_size]
    have h1 := trimB_len ws (s.toList.drop (fidx s 58 + 1))
    rw [List.length_drop, toList_len] at h1; omega
set_option maxRecDepth 100000 in
theorem read_ (s : ByteArray) (hs : s.size ≤ maxLen) : PCalls Tryz.prog 128 [.v (.string s)] (readT (readH s)) := by
  have c1 := cut_ s 58 hs
  have hml : s.size ≤ 9223372036854775807 := by unfold maxLen at hs; omega
  unfold readH
  refine pcalls_of Tryz.func128 rfl rfl Tryz.ntmps128 rfl ?_
  by_cases h578 : s.size ≤ 578
  · rw [if_pos h578]
    unfold cutT at c1
    by_cases hf : fidx s 58 < s.size
    · rw [if_pos hf]
      rw [if_pos hf, ba_extract s (fidx s 58 + 1), show s.toList.take s.size = s.toList from take_full s (Nat.lt_irrefl _)] at c1
      have c2 := small_ (s.extract 0 (fidx s 58)) (by rw [ByteArray.size_extract]; omega)
      have c3 := trim_ (s.toList.drop (fidx s 58 + 1)) (by rw [List.length_drop, toList_len]; omega)
      have c4 := may_ (readC s) (readC_ok s hs)
      cases hg : good (readC s) with
      | true =>
        rw [hg] at c4
        rw [if_pos rfl]
        repeat' (first | (refine rg 0 ?_; refine sal str65 ?_; refine oAs ?_; refine oN ?_) | (refine rg 1 ?_; refine oMv ?_; refine sp (po_len_str rfl rfl (tyR rfl)) ?_; refine oCm ?_; refine oN ?_) | (refine rg 3 ?_; refine oMv ?_; refine oC (c1) rfl (ac (ac .nil)) ?_; refine oMv ?_; refine oEx ?_; refine oEx ?_; refine oEx ?_; refine oAs ?_; refine oAs ?_; refine oAs ?_; refine oN ?_) | (refine rg 4 ?_; refine oMv ?_; (first | refine oC (c1) rfl (ac .nil) ?_ | refine oC (c2) rfl (ac .nil) ?_); refine oMv ?_; (first | refine oC (c1) rfl (ac (ac .nil)) ?_ | refine oC (c2) rfl (ac (ac .nil)) ?_ | refine oC (c3) rfl (ac (ac .nil)) ?_); refine sp (po_buildS str65 rfl (pc (pc .nil)) rfl) ?_; refine sal str65 ?_; refine oS ?_; refine oN ?_) | (refine rg 5 ?_; refine oMv ?_; refine sp (po_not rfl rfl) ?_; refine oMv ?_; refine sp (po_load_bx_agg rfl rfl (tyT rfl) rfl (vc (vc .nil)) rfl) ?_ <;> (first | refine oC (c1) rfl (ac .nil) ?_ | refine oC (c2) rfl (ac .nil) ?_ | refine oC (c3) rfl (ac .nil) ?_ | refine oC (c4) rfl (ac .nil) ?_) <;> refine sp (po_not rfl rfl) ?_ <;> (first | refine oPt ?_ | refine oPf ?_) <;> refine oN ?_) | (refine rg 7 ?_; refine sp (po_load_bx_agg rfl rfl (tyT rfl) rfl (vc (vc .nil)) rfl) ?_; refine oS ?_; refine oAs ?_; refine oN ?_) | refine gc ?_ | refine ct ?_ | refine cf ?_ | refine swp_cond rfl (fun hc => ?_) (fun hc => ?_) | refine rq rfl (.cell rfl rfl (tyT rfl) (vc (vc .nil)) rfl (rt .nil)) ?_)
        rfl
      | false =>
        rw [hg] at c4
        rw [if_neg (by simp)]
        repeat' (first | (refine rg 0 ?_; refine sal str65 ?_; refine oAs ?_; refine oN ?_) | (refine rg 1 ?_; refine oMv ?_; refine sp (po_len_str rfl rfl (tyR rfl)) ?_; refine oCm ?_; refine oN ?_) | (refine rg 3 ?_; refine oMv ?_; refine oC (c1) rfl (ac (ac .nil)) ?_; refine oMv ?_; refine oEx ?_; refine oEx ?_; refine oEx ?_; refine oAs ?_; refine oAs ?_; refine oAs ?_; refine oN ?_) | (refine rg 4 ?_; refine oMv ?_; (first | refine oC (c1) rfl (ac .nil) ?_ | refine oC (c2) rfl (ac .nil) ?_); refine oMv ?_; (first | refine oC (c1) rfl (ac (ac .nil)) ?_ | refine oC (c2) rfl (ac (ac .nil)) ?_ | refine oC (c3) rfl (ac (ac .nil)) ?_); refine sp (po_buildS str65 rfl (pc (pc .nil)) rfl) ?_; refine sal str65 ?_; refine oS ?_; refine oN ?_) | (refine rg 5 ?_; refine oMv ?_; refine sp (po_not rfl rfl) ?_; refine oMv ?_; refine sp (po_load_bx_agg rfl rfl (tyT rfl) rfl (vc (vc .nil)) rfl) ?_ <;> (first | refine oC (c1) rfl (ac .nil) ?_ | refine oC (c2) rfl (ac .nil) ?_ | refine oC (c3) rfl (ac .nil) ?_ | refine oC (c4) rfl (ac .nil) ?_) <;> refine sp (po_not rfl rfl) ?_ <;> (first | refine oPt ?_ | refine oPf ?_) <;> refine oN ?_) | (refine rg 6 ?_; refine sp (po_buildS str65 rfl .nil rfl) ?_; refine oS ?_; refine oAs ?_; refine oN ?_) | refine gc ?_ | refine ct ?_ | refine cf ?_ | refine swp_cond rfl (fun hc => ?_) (fun hc => ?_) | refine rq rfl (.cell rfl rfl (tyT rfl) (vc (vc .nil)) rfl (rt .nil)) ?_)
        rfl
    · rw [if_neg hf]
      rw [if_neg hf] at c1
      have c2 := small_ s hs
      have c3 := trim_ [] (by simp)
      repeat' (first | (refine rg 0 ?_; refine sal str65 ?_; refine oAs ?_; refine oN ?_) | (refine rg 1 ?_; refine oMv ?_; refine sp (po_len_str rfl rfl (tyR rfl)) ?_; refine oCm ?_; refine oN ?_) | (refine rg 3 ?_; refine oMv ?_; refine oC (c1) rfl (ac (ac .nil)) ?_; refine oMv ?_; refine oEx ?_; refine oEx ?_; refine oEx ?_; refine oAs ?_; refine oAs ?_; refine oAs ?_; refine oN ?_) | (refine rg 4 ?_; refine oMv ?_; (first | refine oC (c1) rfl (ac .nil) ?_ | refine oC (c2) rfl (ac .nil) ?_); refine oMv ?_; (first | refine oC (c1) rfl (ac (ac .nil)) ?_ | refine oC (c2) rfl (ac (ac .nil)) ?_ | refine oC (c3) rfl (ac (ac .nil)) ?_); refine sp (po_buildS str65 rfl (pc (pc .nil)) rfl) ?_; refine sal str65 ?_; refine oS ?_; refine oN ?_) | (refine rg 5 ?_; refine oMv ?_; refine sp (po_not rfl rfl) ?_; refine oMv ?_; (first | refine sp (po_load_bx_agg rfl rfl (tyT rfl) rfl (vc (vc .nil)) rfl) ?_ | refine sp (po_load_agg rfl rfl (tyT rfl) rfl rfl) ?_ | refine oK ?_) <;> (first | refine oC (c1) rfl (ac .nil) ?_ | refine oC (c2) rfl (ac .nil) ?_ | refine oC (c3) rfl (ac .nil) ?_ | refine oK ?_) <;> (first | refine sp (po_not rfl rfl) ?_ | refine oK ?_) <;> refine oPt ?_ <;> refine oN ?_) | (refine rg 6 ?_; refine sp (po_buildS str65 rfl .nil rfl) ?_; refine oS ?_; refine oAs ?_; refine oN ?_) | refine gc ?_ | refine ct ?_ | refine cf ?_ | refine swp_cond rfl (fun hc => ?_) (fun hc => ?_) | refine rq rfl (.cell rfl rfl (tyT rfl) (vc (vc .nil)) rfl (rt .nil)) ?_)
      rfl
  · rw [if_neg h578]
    repeat' (first | (refine rg 0 ?_; refine sal str65 ?_; refine oAs ?_; refine oN ?_) | (refine rg 1 ?_; refine oMv ?_; refine sp (po_len_str rfl rfl (tyR rfl)) ?_; refine oCm ?_; refine oN ?_) | (refine rg 2 ?_; refine sp (po_buildS str65 rfl .nil rfl) ?_; refine oS ?_; refine oAs ?_; refine oN ?_) | refine gc ?_ | refine ct ?_ | refine cf ?_ | refine swp_cond rfl (fun hc => ?_) (fun hc => ?_) | refine rq rfl (.cell rfl rfl (tyT rfl) (vc (vc .nil)) rfl (rt .nil)) ?_)
    rfl
theorem ws_at (b : UInt8) : inB ws b = (decide ((b.toNat : Int) = 32) || decide ((b.toNat : Int) = 9)) := by
  unfold inB ws
  simp only [List.any_cons, List.any_nil, Bool.or_false]
  rw [Bool.eq_iff_iff]; simp; omega
theorem toList_at (s : ByteArray) {k : Nat} (h : k < s.size) : s.toList[k]'(by rw [toList_len]; exact h) = s[k] := by
  have h3 := toList_get s k h
  rw [List.getElem?_eq_getElem (by rw [toList_len]; exact h)] at h3
  exact Option.some.inj h3
end Go.Proofs.YtloippgblkoemaaGreatDoor.Hd

/- Headers: how a body's end is told: walks. -/
namespace Go.Proofs.YtloippgblkoemaaGreatDoor.Hd
set_option linter.unusedVariables false
set_option linter.unusedSimpArgs false
open Go.RowKit Mem Sim Opn Str
def digB (b : UInt8) : Bool := decide (48 ≤ b.toNat ∧ b.toNat ≤ 57)
def numL (l : List UInt8) : Nat := l.foldl (fun n b => 10 * n + (b.toNat - 48)) 0
def lead0 (s : ByteArray) : Bool := match s.toList with
  | [] => true
  | b :: l => decide (b.toNat = 48) && decide (l ≠ [])
def lenP (s : ByteArray) : Int × Int := if s.toList.all digB && !lead0 s then (if numL s.toList ≤ 1024 then ((numL s.toList : Int), 0) else (0, 6)) else (0, 2)
theorem numL_snoc (l : List UInt8) {k : Nat} (h : k < l.length) : numL (l.take (k + 1)) = 10 * numL (l.take k) + (l[k].toNat - 48) := by
  unfold numL
  rw [List.take_succ_eq_append_getElem h, List.foldl_append]; rfl
theorem numL_mono (l : List UInt8) (k : Nat) : ∀ d, k + d ≤ l.length → numL (l.take k) ≤ numL (l.take (k + d))
  | 0, _ => Nat.le_refl _
  | d + 1, h => by
    have ih := numL_mono l k d (by omega)
    have := numL_snoc l (k := k + d) (by omega)
    rw [show k + (d + 1) = k + d + 1 by omega, this]; omega
theorem numL_lt (l : List UInt8) (hd : l.all digB = true) : ∀ k, k ≤ l.length → numL (l.take k) < 10 ^ k
  | 0, _ => by simp [numL]
  | k + 1, h => by
    have ih := numL_lt l hd k (by omega)
    have hb := (List.all_eq_true.1 hd) l[k] (List.getElem_mem (by omega))
    unfold digB at hb; simp at hb
    rw [numL_snoc l (by omega), Nat.pow_succ]; omega
theorem numL_17 (l : List UInt8) (hd : l.all digB = true) {k : Nat} (h : k ≤ l.length) (h18 : k ≤ 17) : numL (l.take k) ≤ 99999999999999999 := by
  have h1 := numL_lt l hd k h
  have h2 : 10 ^ k ≤ 10 ^ 17 := Nat.pow_le_pow_right (by omega) h18
  omega
theorem numL_ge (l : List UInt8) (hd : l.all digB = true) (h1 : 0 < l.length) (h0 : l[0].toNat ≠ 48) : ∀ k, k + 1 ≤ l.length → 10 ^ k ≤ numL (l.take (k + 1))
  | 0, h => by
    have hb := (List.all_eq_true.1 hd) l[0] (List.getElem_mem h1)
    unfold digB at hb; simp at hb
    rw [numL_snoc l h1]; simp [numL]; omega
  | k + 1, h => by
    have ih := numL_ge l hd h1 h0 k (by omega)
    rw [numL_snoc l (k := k + 1) (by omega), Nat.pow_succ]; omega
theorem lead0_no {s : ByteArray} (h : lead0 s = false) : 0 < s.size ∧ ∀ h0 : 0 < s.size, (s[0].toNat = 48 → s.size = 1) := by
  unfold lead0 at h
  have hl := toList_len s
  cases e : s.toList with
  | nil => rw [e] at h; cases h
  | cons b l =>
    rw [e] at h hl
    refine ⟨by simp at hl; omega, fun h0 hb => ?_⟩
    have := toList_get s 0 h0
    rw [e] at this; simp at this
    rw [← this] at hb
    simp [hb] at h
    rw [h] at hl; simpa using hl.symm
theorem lead0_yes {s : ByteArray} (h : lead0 s = true) : s.size = 0 ∨ (1 < s.size ∧ ∀ h0 : 0 < s.size, s[0].toNat = 48) := by
  unfold lead0 at h
  have hl := toList_len s
  cases e : s.toList with
  | nil => rw [e] at hl; exact .inl (by simpa using hl.symm)
  | cons b l =>
    rw [e] at h hl
    simp at h hl
    have hne : 0 < l.length := List.length_pos_iff.2 h.2
    refine .inr ⟨by omega, fun h0 => ?_⟩
    have := toList_get s 0 h0
    rw [e] at this; simp at this
    rw [← this]; exact h.1
theorem num_18 {s : ByteArray} (hd : s.toList.all digB = true) (h0 : lead0 s = false) (h18 : 18 < s.size) : ¬ numL s.toList ≤ 1024 := by
  obtain ⟨h1, h2⟩ := lead0_no h0
  have hl := toList_len s
  have hl1 : 0 < s.toList.length := by omega
  have hg : s.toList[0].toNat ≠ 48 := fun e => by
    have := h2 h1 (by rw [← toList_at s h1]; exact e)
    omega
  have h3 : 10 ^ 4 ≤ numL (s.toList.take 5) := numL_ge s.toList hd hl1 hg 4 (by omega)
  have h4 := numL_mono s.toList 5 (s.toList.length - 5) (by omega)
  rw [show 5 + (s.toList.length - 5) = s.toList.length by omega, List.take_length] at h4
  omega
theorem dig_rune {s : ByteArray} {k : Nat} (h : k < s.size) (hd : digB s[k] = true) : Utf8.decode s k = ((s[k]).toNat, 1) := by
  unfold digB at hd; simp at hd
  exact decode_ascii s k h (by omega)
theorem nodig_rune {s : ByteArray} {k : Nat} (h : k < s.size) (hd : digB s[k] = false) : (Utf8.decode s k).1 < 48 ∨ 57 < (Utf8.decode s k).1 := by
  unfold digB at hd; simp at hd
  by_cases ha : s[k].toNat < 128
  · rw [decode_ascii s k h ha]; simp; omega
  · have := (decode_high s k h (by omega)).1; omega
theorem size_nil (s : ByteArray) : decide (s = ⟨#[]⟩) = decide (s.size = 0) := by
  have h := bs_eq_nil s.toList
  rw [toList_bs] at h
  rw [h]
  have := toList_len s
  cases e : s.toList with
  | nil => rw [e] at this; simp at this; simp [← this]
  | cons b l =>
    rw [e] at this; simp at this
    rw [decide_eq_false (show ¬ s.size = 0 by omega)]; simp
set_option maxRecDepth 100000 in
set_option maxHeartbeats 4000000 in
theorem length_ (s : ByteArray) (hs : s.size ≤ maxLen) : PCalls Tryz.prog 84 [.v (.string s)] (.tup [.v (.int .i64 (lenP s).1), .v (.int .i64 (lenP s).2)]) := by
  unfold maxLen at hs
  have hl := toList_len s
  have hnil := size_nil s
  unfold lenP
  refine pcalls_of Tryz.func84 rfl rfl Tryz.ntmps84 rfl ?_
  repeat' (first | refine rg 0 (aq47 ?_) | refine rg 1 (aq48 ?_) | refine gc ?_ | refine ct ?_ | refine cf ?_ | refine sc ?_ ?_ <;> intro hc | refine rq rfl (rt (rt .nil)) ?_)
  refine swp_for (fun k => ⟨[(0, .t (.v (.string s))), (9, .bp 1000 0)], [(1000, itC s k)], []⟩) (fun k => (s.toList.take k).all digB = true) s.size (weak_sub (.cons rfl rfl rfl (.cons rfl rfl rfl .nil)) (.cons rfl rfl rfl .nil) .nil) rfl ?_
  intro k hk hI
  by_cases hlt : k < s.size
  · cases hd : digB s[k] with
    | true =>
      have hdec := dig_rune hlt hd
      have hd2 : 48 ≤ s[k].toNat ∧ s[k].toNat ≤ 57 := by unfold digB at hd; simpa using hd
      repeat' (first | refine for_next hlt (weak_sub (.cons rfl rfl rfl (.cons rfl rfl rfl .nil)) (.cons rfl rfl rfl .nil) .nil) (all_snoc hI hlt hd) | refine rg 2 (aq28 ?_) | refine rg 3 (aq29 ?_) | (refine rg 4 ?_; refine oMv ?_; refine oCm ?_; refine oMv ?_; refine oMv ?_ <;> refine oCm ?_ <;> (first | refine oPt ?_ | refine oPf ?_) <;> refine oN ?_) | refine gc ?_ | refine ct ?_ | refine cf ?_)
    | false =>
      have hr := nodig_rune hlt hd
      rw [all_bad hlt hd]
      generalize hdec : Utf8.decode s k = ck at hr
      obtain ⟨c, w⟩ := ck
      rcases hr with hr | hr
      all_goals
        simp only [] at hr
        repeat' (first | refine rg 2 (aq28 ?_) | refine rg 3 (aq29 ?_) | refine rg 4 (aq13 ?_) | refine rg 5 (aq47 ?_) | refine gc ?_ | refine ct ?_ | refine cf ?_ | refine sc ?_ ?_ <;> intro hc | refine rq rfl (rt (rt .nil)) ?_)
        rfl
  · obtain rfl : k = s.size := by omega
    rw [take_full s (Nat.lt_irrefl _)] at hI
    rw [hI]
    cases h0 : lead0 s with
    | true =>
      rcases lead0_yes h0 with h1 | ⟨h1, h2⟩
      · have e1 : decide (s = ⟨#[]⟩) = true := by rw [hnil]; exact decide_eq_true h1
        repeat' (first | refine rg 2 (aq30 ?_) | (refine rg 6 ?_; refine oMv ?_; refine sp (po_str rfl rfl rfl rfl) ?_; refine oMv ?_; (first | refine oMv ?_ | refine oK ?_) <;> (first | refine sp (po_len_str rfl rfl (tyR rfl)) ?_ | refine oK ?_) <;> (first | refine oCm ?_ | refine oK ?_) <;> (first | refine oMv ?_ | refine oK ?_) <;> (first | refine oMv ?_ | refine oK ?_) <;> (first | refine sp (po_index_str (k := 0) rfl rfl rfl (tyR rfl) (by rfl) (by first | assumption | omega)) ?_ | refine oK ?_) <;> (first | refine oCm ?_ | refine oK ?_) <;> (first | refine oPt ?_ | refine oPf ?_ | refine oK ?_) <;> refine oPt ?_ <;> refine oN ?_) | refine rg 7 (aq47 ?_) | refine gc ?_ | refine ct ?_ | refine cf ?_ | refine sc ?_ ?_ <;> intro hc | refine rq rfl (rt (rt .nil)) ?_)
        rfl
      · have e1 : decide (s = ⟨#[]⟩) = false := by rw [hnil]; exact decide_eq_false (by omega)
        have h3 := h2 (by omega)
        repeat' (first | refine rg 2 (aq30 ?_) | (refine rg 6 ?_; refine oMv ?_; refine sp (po_str rfl rfl rfl rfl) ?_; refine oMv ?_; refine oMv ?_ <;> refine sp (po_len_str rfl rfl (tyR rfl)) ?_ <;> refine oCm ?_ <;> refine oMv ?_ <;> refine oMv ?_ <;> refine sp (po_index_str (k := 0) rfl rfl rfl (tyR rfl) (by rfl) (by first | assumption | omega)) ?_ <;> refine oCm ?_ <;> refine oPt ?_ <;> (first | refine oPt ?_ | refine oPf ?_) <;> refine oN ?_) | refine rg 7 (aq47 ?_) | refine gc ?_ | refine ct ?_ | refine cf ?_ | refine sc ?_ ?_ <;> intro hc | refine rq rfl (rt (rt .nil)) ?_)
        rfl
    | false =>
      obtain ⟨h1, h2⟩ := lead0_no h0
      have h3 := h2 h1
      have e1 : decide (s = ⟨#[]⟩) = false := by rw [hnil]; exact decide_eq_false (by omega)
      by_cases h18 : s.size ≤ 18
      · have hcs : s.size = 1 ∨ (1 < s.size ∧ s[0].toNat ≠ 48) := by omega
        rcases hcs with h4 | ⟨h4, h5⟩
        all_goals
          repeat' (first | refine rg 2 (aq30 ?_) | (refine rg 6 ?_; refine oMv ?_; refine sp (po_str rfl rfl rfl rfl) ?_; refine oMv ?_; refine oMv ?_ <;> refine sp (po_len_str rfl rfl (tyR rfl)) ?_ <;> refine oCm ?_ <;> refine oMv ?_ <;> (first | refine oMv ?_ | refine oK ?_) <;> (first | refine sp (po_index_str (k := 0) rfl rfl rfl (tyR rfl) (by rfl) (by assumption)) ?_ | refine oK ?_) <;> (first | refine oCm ?_ | refine oK ?_) <;> (first | refine oPt ?_ | refine oPf ?_) <;> (first | refine oPt ?_ | refine oPf ?_) <;> refine oN ?_) | (refine rg 8 ?_; refine oMv ?_; refine sp (po_len_str rfl rfl (tyR rfl)) ?_; refine oCm ?_; refine oN ?_) | refine rg 10 (aq0 ?_) | refine rg 11 (aq0 ?_) | refine gc ?_ | refine ct ?_ | refine cf ?_ | refine sc ?_ ?_ <;> intro hc | refine rq rfl (rt (rt .nil)) ?_)
          refine swp_for (fun k => ⟨[(0, .t (.v (.string s))), (6, .t (.v (.int .i64 ((numL (s.toList.take k) : Nat) : Int)))), (7, .t (.v (.int .i64 (k : Int))))], [], []⟩) (fun _ => True) s.size (weak_sub (.cons rfl rfl rfl (.cons rfl rfl rfl (.cons rfl rfl rfl .nil))) .nil .nil) trivial ?_
          intro k hk _
          by_cases hlt : k < s.size
          · have hb := numL_17 s.toList hI (k := k) (by omega) (by omega)
            have hn := numL_snoc s.toList (k := k) (by omega)
            have hd := (List.all_eq_true.1 hI) (s.toList[k]'(by omega)) (List.getElem_mem _)
            rw [toList_at s hlt] at hn hd
            have hd2 : 48 ≤ s[k].toNat ∧ s[k].toNat ≤ 57 := by unfold digB at hd; simpa using hd
            repeat' (first | refine for_next hlt (weak_sub (.cons rfl (by rfl) rfl (.cons rfl (by first | rfl | (exact congrArg (fun n => A.t (T.v (Value.int .i64 n))) (by rw [hn]; omega))) rfl (.cons rfl (by rfl) rfl .nil))) .nil .nil) trivial | refine rg 12 (aq22 ?_) | (refine rg 14 ?_; refine oMv ?_; refine sp (po_arith rfl rfl rfl (ar_mul (by first | rfl | (refine wrap_i64 ?_; omega)) rfl)) ?_; refine aq31 ?_; (first | refine sp (po_dec rfl rfl rfl (by omega)) ?_ | refine sp (po_arith rfl rfl rfl (ar_sub (by first | rfl | (refine wrap_i64 ?_; omega) | (refine wrap_u8 ?_; omega)) rfl)) ?_); refine sp (po_conv_int rfl rfl (tyK rfl) (tyK rfl) (by (refine wrap_i64 ?_; omega))) ?_; (first | refine sp (xinc rfl) ?_ | refine sp (po_arith rfl rfl rfl (ar_add (by first | rfl | (refine wrap_i64 ?_; omega)) rfl)) ?_); refine aq0 ?_) | refine rg 13 (aq3 ?_) | refine gc ?_ | refine ct ?_)
          · obtain rfl : k = s.size := by omega
            rw [take_full s (Nat.lt_irrefl _)]
            by_cases hm : numL s.toList ≤ 1024
            · rw [if_pos hm]
              repeat' (first | refine rg 12 (aq22 ?_) | refine rg 15 (aq21 ?_) | refine rg 17 (aq49 ?_) | refine gc ?_ | refine ct ?_ | refine cf ?_ | refine sc ?_ ?_ <;> intro hc | refine rq rfl (rt (rt .nil)) ?_)
              rfl
            · rw [if_neg hm]
              repeat' (first | refine rg 12 (aq22 ?_) | refine rg 15 (aq21 ?_) | refine rg 16 (aq47 ?_) | refine gc ?_ | refine ct ?_ | refine cf ?_ | refine sc ?_ ?_ <;> intro hc | refine rq rfl (rt (rt .nil)) ?_)
              rfl
      · have hm := num_18 hI h0 (by omega)
        rw [if_neg hm]
        have h5 : s[0].toNat ≠ 48 := by omega
        repeat' (first | refine rg 2 (aq30 ?_) | (refine rg 6 ?_; refine oMv ?_; refine sp (po_str rfl rfl rfl rfl) ?_; refine oMv ?_; refine oMv ?_ <;> refine sp (po_len_str rfl rfl (tyR rfl)) ?_ <;> refine oCm ?_ <;> refine oMv ?_ <;> refine oMv ?_ <;> refine sp (po_index_str (k := 0) rfl rfl rfl (tyR rfl) (by rfl) (by assumption)) ?_ <;> refine oCm ?_ <;> refine oPt ?_ <;> (first | refine oPt ?_ | refine oPf ?_) <;> refine oN ?_) | (refine rg 8 ?_; refine oMv ?_; refine sp (po_len_str rfl rfl (tyR rfl)) ?_; refine oCm ?_; refine oN ?_) | refine rg 9 (aq47 ?_) | refine gc ?_ | refine ct ?_ | refine cf ?_ | refine sc ?_ ?_ <;> intro hc | refine rq rfl (rt (rt .nil)) ?_)
        rfl
end Go.Proofs.YtloippgblkoemaaGreatDoor.Hd
