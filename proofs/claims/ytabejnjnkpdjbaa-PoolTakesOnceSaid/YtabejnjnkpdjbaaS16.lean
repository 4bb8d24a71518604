/- Merged by bundles.py: SimPo4, Del, Own2, SimDe, SimDeQ, SimDeT. -/
import Derived.Test.YtabejnjnkpdjbaaS15
import Derived.Test.YtabejnjnkpdjbaaS9
import Derived.Test.YtabejnjnkpdjbaaS13
import Derived.Deep.RegionLaw
/- after, fail. -/
namespace Go.Proofs.Ytabejnjnkpdjbaa.Sim
set_option linter.unusedVariables false
set_option linter.unusedSimpArgs false
open Go.RowKit Mem
def afterP (now then_ : Int) : Int := if now < then_ then 0 else IntKind.u64.wrap (now - then_)
def wX (i a b c : Nat) (W : PWk) : List (Nat × List A) := [(i, wC a b c W)]
set_option maxRecDepth 100000 in
set_option maxHeartbeats 1000000 in
theorem after_ (W : PWk) (t : Int) : LCalls Try.prog 79 [.bp 2000 0, .t (u64T t)] (wX 2000 2001 2002 2003 W) (wO 2001 2002 2003 W) (.t (u64T (afterP W.now t))) (wX 2000 2001 2002 2003 W) (wO 2001 2002 2003 W) := by
  refine lcalls_of Try.func79 rfl rfl Try.ntmps79 rfl ?_
  unfold wX wO wC afterP
  by_cases hlt : W.now < t
  · rw [if_pos hlt]
    repeat' (first | (refine rg 0 ?_; refine oAs ?_; refine oN ?_) | (refine rg 1 ?_; refine oMv ?_; refine sp (po_nilcheck rfl rfl) ?_; refine oFb ?_; refine oLb ?_; refine oMv ?_; refine oCm ?_; refine oN ?_) | (refine rg 2 ?_; refine oAs ?_; refine oN ?_) | refine gc ?_ | refine ct ?_ | refine cf ?_ | refine swp_cond rfl (fun hc => ?_) (fun hc => ?_) | refine retl (by exact .inr rfl) rfl (.tmp rfl rfl .nil) ?_ rfl (.cons rfl (by rfl) rfl .nil) (.cons rfl (by rfl) (.cons rfl (by rfl) (.cons rfl (by rfl) .nil))))
    rfl
  · rw [if_neg hlt]
    repeat' (first | (refine rg 0 ?_; refine oAs ?_; refine oN ?_) | (refine rg 1 ?_; refine oMv ?_; refine sp (po_nilcheck rfl rfl) ?_; refine oFb ?_; refine oLb ?_; refine oMv ?_; refine oCm ?_; refine oN ?_) | (refine rg 3 ?_; refine oMv ?_; refine sp (po_nilcheck rfl rfl) ?_; refine oFb ?_; refine oLb ?_; refine oMv ?_; refine sp (po_subu rfl rfl rfl) ?_; refine oAs ?_; refine oN ?_) | refine gc ?_ | refine ct ?_ | refine cf ?_ | refine swp_cond rfl (fun hc => ?_) (fun hc => ?_) | refine retl (by exact .inr rfl) rfl (.tmp rfl rfl .nil) ?_ rfl (.cons rfl (by rfl) rfl .nil) (.cons rfl (by rfl) (.cons rfl (by rfl) (.cons rfl (by rfl) .nil))))
    rfl
theorem famT_open {A B : List ATun} {a : ATun} : famT (A ++ a :: B) = famT A ++ (a.u, askO a.t) :: famT B := famT_split
def failsL (l : List PQ) (why : Int) : List PFail := l.map fun q => ⟨q.id, why⟩
def failW (W : PWk) (l : List PQ) (why : Int) : PWk := { W with fails := W.fails ++ failsL l why }
theorem failsL_take {l : List PQ} {k : Nat} {why : Int} (h : k < l.length) : failsL (l.take (k + 1)) why = failsL (l.take k) why ++ [⟨l[k].id, why⟩] := by
  unfold failsL; rw [← List.take_append_getElem h, List.map_append]; rfl
theorem failW_0 (W : PWk) (l : List PQ) (why : Int) : failW W (l.take 0) why = W := by unfold failW failsL; rw [List.take_zero, List.map_nil, List.append_nil]
def SFl (W : PWk) (A B : List ATun) (a : ATun) (why : Int) (k : Nat) : St := ⟨[(0, .bp 2000 0), (2, .t (i64T why)), (9, .own 1005 (a.t.asks.map askR).length), (10, .t (.v (.int .i64 ((a.t.asks.map askR).length : Int)))), (11, .t (.v (.int .i64 (k : Int)))), (90000, .ev 1005 (a.t.asks.map askR).length a.u)],
  [(2000, wC 2001 2002 1003 (failW W (a.t.asks.take k) why)), (3000, [.rs (FamR (famT A ++ famT B))])], [(1005, ⟨70, 9, a.t.asks.map askR⟩), (2001, tunO W.tuns), (2002, doO W.dos), (1003, failO (failW W (a.t.asks.take k) why).fails)]⟩
set_option maxRecDepth 100000 in
set_option maxHeartbeats 2000000 in
theorem fail_ (W : PWk) (A B : List ATun) (a : ATun) (why : Int) (hW : W.tuns = A ++ a :: B) (ha : a.t.asks.length ≤ 1000) (hf : W.fails.length ≤ 1000000) : LCalls Try.prog 116 [.bp 2000 0, .t (.agg (tunR a)), .t (i64T why)] (wB 2000 3000 2001 2002 2003 W) (wO 2001 2002 2003 W) (resA []) (wB 2000 3000 2001 2002 1003 (failW W a.t.asks why)) (wO 2001 2002 1003 (failW W a.t.asks why)) := by
  obtain ⟨wn, wi, wx, now, tuns, dos, fails⟩ := W
  dsimp only at hW hf
  subst hW
  refine lcalls_of Try.func116 rfl rfl Try.ntmps116 rfl ?_
  refine swp_up ?_
  unfold wB wO wC failW
  dsimp only
  rw [famT_open]
  refine swp_weak (weak_ren 2003 1003 rfl rfl rfl rfl rfl rfl rfl) ?_
  repeat' (first | (refine rg 0 ?_; refine sbx ?_; refine oN ?_) | refine gc ?_ | refine ct ?_ | refine cf ?_ | refine swp_cond rfl (fun hc => ?_) (fun hc => ?_) | refine rq rfl .nil ?_)
  refine rg 1 ?_
  refine oFb ?_
  refine oLb ?_
  refine sops_weak (weak_openF 9 3000 1005 90000 (a := famT A) (b := famT B) (o := ⟨70, 9, a.t.asks.map askR⟩) rfl rfl rfl) ?_
  refine sp (po_len_own rfl rfl (tyS rfl)) ?_
  refine oMv ?_
  refine oN ?_
  refine gc ?_
  have hfam : famT (A ++ a :: B) = famT A ++ (a.u, askO a.t) :: famT B := famT_open
  refine swp_for (SFl ⟨wn, wi, wx, now, A ++ a :: B, dos, fails⟩ A B a why) (fun _ => True) a.t.asks.length ?_ trivial ?_
  · unfold SFl
    rw [failW_0]
    exact (weak_sub (.cons rfl rfl rfl (.cons rfl rfl rfl (.cons rfl rfl rfl (.cons rfl rfl rfl (.cons rfl rfl rfl (.cons rfl rfl rfl .nil)))))) (.cons rfl rfl rfl (.cons rfl rfl rfl .nil)) (.cons rfl rfl (.cons rfl rfl (.cons rfl rfl (.cons rfl rfl .nil)))))
  intro k hk _
  unfold SFl
  have hm : (a.t.asks.map askR).length = a.t.asks.length := List.length_map _
  by_cases hlt : k < a.t.asks.length
  · have hlt' : (k : Int) < (a.t.asks.map askR).length := by rw [hm]; omega
    have hat : (a.t.asks.map askR)[k]? = some (askR a.t.asks[k]) := map_at_some hlt
    have hlt2 : k < (a.t.asks.map askR).length := by rw [hm]; exact hlt
    have hs := failsL_take (why := why) hlt
    have hfl : (failsL (a.t.asks.take k) why).length ≤ 1000 := by unfold failsL; rw [List.length_map, List.length_take]; omega
    have hL1 : (fails ++ failsL (a.t.asks.take k) why).length ≤ 1001000 := by rw [List.length_append]; omega
    have hL2 : fails ++ failsL (a.t.asks.take (k + 1)) why = (fails ++ failsL (a.t.asks.take k) why) ++ [⟨a.t.asks[k].id, why⟩] := by rw [hs, List.append_assoc]
    unfold wC failW
    dsimp only
    generalize fails ++ failsL (a.t.asks.take k) why = L at *
    generalize a.t.asks[k] = q at *
    repeat' (first | (refine rg 2 ?_; refine oCm ?_; refine oN ?_) | (refine rg 3 ?_; refine sp (ixo rfl) ?_; refine sp (po_load_own_agg (ts := askR q) rfl rfl rfl rfl (tyT rfl) hat rfl rfl) ?_; refine sal str70 ?_; refine oS ?_; refine oN ?_) | ((refine swp_any (id := 4) [[], [], [], [], [], [], [], [], [], [], [1003], [], [], [2000]] [[1003], [], [], [], [], [], [], [], [], [], [], [], [], []] mixed (by kernel_rfl) ?_) <;> (first | refine yp (fun _ _ => po_load_own_agg (ts := askR q) rfl rfl rfl rfl (tyT rfl) hat rfl rfl) ?_ | refine yp (fun _ _ => po_move rfl rfl) ?_) <;> (first | refine yp (fun _ _ => po_load_own_agg (ts := askR q) rfl rfl rfl rfl (tyT rfl) hat rfl rfl) ?_ | refine yp (fun _ _ => po_move rfl rfl) ?_) <;> (first | refine yp (fun _ _ => po_load_own_agg (ts := askR q) rfl rfl rfl rfl (tyT rfl) hat rfl rfl) ?_ | refine yp (fun _ _ => po_nilcheck rfl rfl) ?_) <;> (first | refine yp (fun _ _ => po_load_own_agg (ts := askR q) rfl rfl rfl rfl (tyT rfl) hat rfl rfl) ?_ | refine yp (fun _ _ => po_field_bx rfl rfl (tyF rfl)) ?_) <;> (first | refine yp (fun _ _ => po_load_own_agg (ts := askR q) rfl rfl rfl rfl (tyT rfl) hat rfl rfl) ?_ | refine yp (fun _ _ => po_load_bx rfl rfl (tyT rfl) rfl rfl) ?_) <;> (first | refine yp (fun _ _ => po_load_own_agg (ts := askR q) rfl rfl rfl rfl (tyT rfl) hat rfl rfl) ?_ | refine yp (fun _ _ => po_field_bx rfl rfl (tyF rfl)) ?_) <;> (first | refine yp (fun _ _ => po_load_own_agg (ts := askR q) rfl rfl rfl rfl (tyT rfl) hat rfl rfl) ?_ | refine yp (fun _ _ => po_load_bx rfl rfl (tyT rfl) rfl rfl) ?_) <;> (first | refine yp (fun _ _ => po_load_own_agg (ts := askR q) rfl rfl rfl rfl (tyT rfl) hat rfl rfl) ?_ | refine yp (fun _ _ => po_move rfl rfl) ?_) <;> (first | refine yp (fun _ _ => po_load_own_agg (ts := askR q) rfl rfl rfl rfl (tyT rfl) hat rfl rfl) ?_ | refine yp (fun _ _ => po_buildS str82 rfl (pc (pc .nil)) rfl) ?_) <;> (first | refine yp (fun _ _ => po_load_own_agg (ts := askR q) rfl rfl rfl rfl (tyT rfl) hat rfl rfl) ?_ | refine yp (fun _ _ => po_buildSlice rfl (tyE rfl) (dc (.nil _)) rfl rfl rfl) ?_) <;> refine sany_eff [] [(1003, _)] (.free rfl rfl) rfl rfl (fun _ _ _ _ => e_append rfl rfl rfl (by first | rfl | simp) rfl (by exact .t _) (tyE rfl) (by first | assumption | (simp only [List.length_map, List.length_cons, List.length_nil]; omega)) (by first | assumption | (unfold maxLen; simp only [List.length_map, List.length_cons, List.length_nil]; omega))) ?_ <;> (first | refine yp (fun _ _ => po_load_own_agg (ts := askR q) rfl rfl rfl rfl (tyT rfl) hat rfl rfl) ?_ | refine yp (fun _ _ => po_nilcheck rfl rfl) ?_) <;> (first | refine yp (fun _ _ => po_load_own_agg (ts := askR q) rfl rfl rfl rfl (tyT rfl) hat rfl rfl) ?_ | refine yp (fun _ _ => po_field_bx rfl rfl (tyF rfl)) ?_) <;> refine sany_eff [(2000, _)] [] (.free rfl rfl) rfl rfl (fun _ _ _ _ => e_store rfl rfl rfl rfl rfl rfl (tyT rfl) rfl rfl) ?_ <;> refine sany_nil ?_) | (refine rg 5 ?_; refine sp (xinc rfl) ?_; refine oMv ?_; refine oN ?_) | refine gc ?_ | refine ct ?_ | refine cf ?_ | refine swp_cond rfl (fun hc => ?_) (fun hc => ?_) | refine rq rfl .nil ?_)
    have hE : (⟨82, 2, L.map failR ++ [failR ⟨q.id, why⟩]⟩ : Own) = failO (L ++ [⟨q.id, why⟩]) := by unfold failO; rw [List.map_append]; rfl
    have hN : (L.map failR ++ [failR ⟨q.id, why⟩]).length = (L ++ [(⟨q.id, why⟩ : PFail)]).length := by rw [List.length_append, List.length_append, List.length_map]; rfl
    refine for_next hlt ?_ trivial
    dsimp only
    rw [hL2]
    exact (weak_sub (.cons rfl (by first | rfl | (first | (exact hE) | (exact congrArg (fun n => [Sim.A.t (i64T wn), Sim.A.t (u64T wi), Sim.A.t (u64T wx), Sim.A.own 2001 (A ++ a :: B).length, Sim.A.t (u64T now), Sim.A.own 2002 dos.length, Sim.A.own 1003 n]) hN))) rfl (.cons rfl (by first | rfl | (first | (exact hE) | (exact congrArg (fun n => [Sim.A.t (i64T wn), Sim.A.t (u64T wi), Sim.A.t (u64T wx), Sim.A.own 2001 (A ++ a :: B).length, Sim.A.t (u64T now), Sim.A.own 2002 dos.length, Sim.A.own 1003 n]) hN))) rfl (.cons rfl (by first | rfl | (first | (exact hE) | (exact congrArg (fun n => [Sim.A.t (i64T wn), Sim.A.t (u64T wi), Sim.A.t (u64T wx), Sim.A.own 2001 (A ++ a :: B).length, Sim.A.t (u64T now), Sim.A.own 2002 dos.length, Sim.A.own 1003 n]) hN))) rfl (.cons rfl (by first | rfl | (first | (exact hE) | (exact congrArg (fun n => [Sim.A.t (i64T wn), Sim.A.t (u64T wi), Sim.A.t (u64T wx), Sim.A.own 2001 (A ++ a :: B).length, Sim.A.t (u64T now), Sim.A.own 2002 dos.length, Sim.A.own 1003 n]) hN))) rfl (.cons rfl (by first | rfl | (first | (exact hE) | (exact congrArg (fun n => [Sim.A.t (i64T wn), Sim.A.t (u64T wi), Sim.A.t (u64T wx), Sim.A.own 2001 (A ++ a :: B).length, Sim.A.t (u64T now), Sim.A.own 2002 dos.length, Sim.A.own 1003 n]) hN))) rfl (.cons rfl (by first | rfl | (first | (exact hE) | (exact congrArg (fun n => [Sim.A.t (i64T wn), Sim.A.t (u64T wi), Sim.A.t (u64T wx), Sim.A.own 2001 (A ++ a :: B).length, Sim.A.t (u64T now), Sim.A.own 2002 dos.length, Sim.A.own 1003 n]) hN))) rfl .nil)))))) (.cons rfl (by first | rfl | (first | (exact hE) | (exact congrArg (fun n => [Sim.A.t (i64T wn), Sim.A.t (u64T wi), Sim.A.t (u64T wx), Sim.A.own 2001 (A ++ a :: B).length, Sim.A.t (u64T now), Sim.A.own 2002 dos.length, Sim.A.own 1003 n]) hN))) rfl (.cons rfl (by first | rfl | (first | (exact hE) | (exact congrArg (fun n => [Sim.A.t (i64T wn), Sim.A.t (u64T wi), Sim.A.t (u64T wx), Sim.A.own 2001 (A ++ a :: B).length, Sim.A.t (u64T now), Sim.A.own 2002 dos.length, Sim.A.own 1003 n]) hN))) rfl .nil)) (.cons rfl (by first | rfl | (first | (exact hE) | (exact congrArg (fun n => [Sim.A.t (i64T wn), Sim.A.t (u64T wi), Sim.A.t (u64T wx), Sim.A.own 2001 (A ++ a :: B).length, Sim.A.t (u64T now), Sim.A.own 2002 dos.length, Sim.A.own 1003 n]) hN))) (.cons rfl (by first | rfl | (first | (exact hE) | (exact congrArg (fun n => [Sim.A.t (i64T wn), Sim.A.t (u64T wi), Sim.A.t (u64T wx), Sim.A.own 2001 (A ++ a :: B).length, Sim.A.t (u64T now), Sim.A.own 2002 dos.length, Sim.A.own 1003 n]) hN))) (.cons rfl (by first | rfl | (first | (exact hE) | (exact congrArg (fun n => [Sim.A.t (i64T wn), Sim.A.t (u64T wi), Sim.A.t (u64T wx), Sim.A.own 2001 (A ++ a :: B).length, Sim.A.t (u64T now), Sim.A.own 2002 dos.length, Sim.A.own 1003 n]) hN))) (.cons rfl (by first | rfl | (first | (exact hE) | (exact congrArg (fun n => [Sim.A.t (i64T wn), Sim.A.t (u64T wi), Sim.A.t (u64T wx), Sim.A.own 2001 (A ++ a :: B).length, Sim.A.t (u64T now), Sim.A.own 2002 dos.length, Sim.A.own 1003 n]) hN))) .nil)))))
  · have hkl : k = a.t.asks.length := by omega
    subst hkl
    rw [List.take_length]
    unfold wC failW
    dsimp only
    repeat' (first | refine then_go ?_ | refine swp_seq ?_ | refine for_exit ?_ | refine block_exit ?_ | refine up_to (weak_closeV 9 3000 1005 90000 (famT A) (famT B) rfl rfl rfl rfl rfl rfl) ?_ | (refine rg 2 ?_; refine oCm ?_; refine oN ?_) | refine swp_ret ?_ | refine swp_skip ?_ | refine swp_block ?_ | refine swp_exit ?_ | refine block_go ?_ | refine block_exit ?_ | refine block_far rfl ?_ | refine block_ret ?_ | refine then_ret ?_ | refine then_exit ?_ | refine for_ret ?_ | refine for_exit ?_ | refine ct ?_ | refine cf ?_ | refine swp_cond rfl (fun hc => ?_) (fun hc => ?_) | refine retl (by first | exact .inr rfl | exact .inl rfl) rfl .nil ?_ rfl (.cons rfl (by rfl) rfl (.cons rfl (by rfl) rfl .nil)) (.cons rfl (by rfl) (.cons rfl (by rfl) (.cons rfl (by rfl) .nil))))
    rfl
end Go.Proofs.Ytabejnjnkpdjbaa.Sim

/- What slices.DeleteFunc keeps, round by round: a row of the call's own, written in place. -/
namespace Go.Proofs.Ytabejnjnkpdjbaa.Mem
set_option linter.unusedVariables false
set_option linter.unusedSimpArgs false
open Go.RowKit

/-- a row of the call's own, each element's cells by f -/
def Own3 {α : Type} (f : α → List Value) (e : TypeId) (base : Nat) (w : World) (v : Value) (xs : List α) : Prop := w.ownsRow base e 3 v xs.length (xs.flatMap f)
/-- three cells each, each one cell -/
def Cells3 {α : Type} (f : α → List Value) (xs : List α) : Prop := ∀ x ∈ xs, ∃ c0 c1 c2, f x = [c0, c1, c2] ∧ c0.oneCell' = true ∧ c1.oneCell' = true ∧ c2.oneCell' = true
theorem Cells3.len {α : Type} {f : α → List Value} : ∀ {xs : List α}, Cells3 f xs → (xs.flatMap f).length = xs.length * 3
  | [], _ => rfl
  | x :: r, h => by
    obtain ⟨c0, c1, c2, hx, _⟩ := h x (by simp)
    rw [List.flatMap_cons, List.length_append, Cells3.len fun y hy => h y (by simp [hy]), hx]
    simp; omega
theorem Cells3.sub {α : Type} {f : α → List Value} {xs ys : List α} (h : Cells3 f xs) (hs : ∀ y ∈ ys, y ∈ xs) : Cells3 f ys := fun y hy => h y (hs y hy)
theorem Cells3.get {α : Type} {f : α → List Value} : ∀ {xs : List α}, Cells3 f xs → ∀ {k : Nat} {x : α}, xs[k]? = some x → ∀ {m : Nat}, m < 3 → (xs.flatMap f)[k * 3 + m]? = (f x)[m]?
  | [], _, k, x, h, _, _ => by simp at h
  | y :: r, hc, 0, x, h, m, hm => by
    simp at h; subst h
    obtain ⟨c0, c1, c2, hx, _⟩ := hc y (by simp)
    rw [List.flatMap_cons, Nat.zero_mul, Nat.zero_add, List.getElem?_append_left (by rw [hx]; simpa using hm)]
  | y :: r, hc, k + 1, x, h, m, hm => by
    simp at h
    obtain ⟨c0, c1, c2, hx, _⟩ := hc y (by simp)
    rw [List.flatMap_cons, List.getElem?_append_right (by rw [hx]; simp; omega), hx]
    have : (k + 1) * 3 + m - [c0, c1, c2].length = k * 3 + m := by simp; omega
    rw [this]
    exact Cells3.get (fun z hz => hc z (by simp [hz])) h hm
theorem Cells3.one {α : Type} {f : α → List Value} {xs : List α} (h : Cells3 f xs) : ∀ u ∈ xs.flatMap f, u.oneCell' = true := by
  intro u hu
  obtain ⟨x, hx, hux⟩ := List.mem_flatMap.1 hu
  obtain ⟨c0, c1, c2, he, h0, h1, h2⟩ := h x hx
  rw [he] at hux
  simp at hux
  rcases hux with rfl | rfl | rfl <;> assumption
theorem Own3.nil {α : Type} {f : α → List Value} {e : TypeId} {base : Nat} {w : World} : Own3 f e base w (.slice none 0 0) ([] : List α) := World.ownsRow_nil _ _ _ _
theorem Own3.lo {α : Type} {f : α → List Value} {e : TypeId} {base : Nat} {w w' : World} {v : Value} {xs : List α} (h : Own3 f e base w v xs) (hl : Lo w w') : Own3 f e base w' v xs := hl.owns h
theorem Own3.kept {α : Type} {f : α → List Value} {e : TypeId} {base : Nat} {w w' : World} {v : Value} {xs : List α} {row : Option Nat} (h : Own3 f e base w v xs) (hg : w.grownBy w' row) (hne : v.ownBlock = none ∨ v.ownBlock ≠ row) : Own3 f e base w' v xs := World.ownsRow.kept h hg hne
/-- nothing there, or a block -/
theorem Own3.open_ {α : Type} {f : α → List Value} {e : TypeId} {base : Nat} {w : World} {v : Value} {xs : List α} (h : Own3 f e base w v xs) :
    (v = .slice none 0 0 ∧ xs = []) ∨ ∃ g cap cur, v = .slice (some ⟨g, 0, none⟩) xs.length cap ∧ base ≤ g ∧ w.heap[g]? = some (.cells (List.toArray cur) e (0, 0)) ∧ xs.length ≤ cap ∧ cap ≤ maxLen ∧ cur.length = cap * 3 ∧ cur.take (xs.length * 3) = xs.flatMap f := by
  obtain ⟨_, ⟨rfl, h0⟩ | ⟨g, cap, cur, hv, hb, hg, hn, hc, hs, ht⟩⟩ := h
  · exact .inl ⟨rfl, List.eq_nil_of_length_eq_zero h0⟩
  · exact .inr ⟨g, cap, cur.toList, hv, hb, by simpa using hg, hn, hc, by simpa using hs, ht⟩
/-- read as a slice, each element by its cells -/
def CellR {α : Type} (f : α → List Value) : Rel α := fun _ _ x cs => cs = f x
theorem CellR.kept {α : Type} {f : α → List Value} : Kept (CellR f) := fun _ _ _ _ _ _ h _ _ => h
theorem Own3.slice {α : Type} {f : α → List Value} {e : TypeId} {base : Nat} {w : World} {v : Value} {xs : List α} (h : Own3 f e base w v xs) (h3 : Cells3 f xs) :
    ∃ A cap, v = .slice A xs.length cap ∧ SliceAt (CellR f) 3 w.heap.size w A xs ∧ xs.length ≤ cap ∧ cap ≤ maxLen := by
  rcases h.open_ with ⟨rfl, rfl⟩ | ⟨g, cap, cur, rfl, hb, hg, hn, hc, hs, ht⟩
  · exact ⟨none, 0, rfl, SliceAt.nil, by simp, by simp [maxLen]⟩
  · refine ⟨some ⟨g, 0, none⟩, cap, rfl, ?_, hn, hc⟩
    intro k x hx
    have hk : k < xs.length := (List.getElem?_eq_some_iff.1 hx).1
    obtain ⟨c0, c1, c2, hf, _⟩ := h3 x (List.mem_of_getElem? hx)
    refine ⟨g, 0, f x, rfl, block_lt hg, by rw [hf]; rfl, ?_, rfl⟩
    intro j v hj
    have hj3 : j < 3 := by
      rcases Nat.lt_or_ge j 3 with h' | h'
      · exact h'
      · rw [hf, List.getElem?_eq_none (by simpa using h')] at hj; cases hj
    rw [Nat.zero_add]
    refine cell_row hg ?_
    have := h3.get hx hj3
    rw [← ht, List.getElem?_take_of_lt (by omega)] at this
    rw [this]; exact hj

section
variable {α : Type} (f : α → List Value) (e : TypeId) (w : World) (g cap : Nat) (xs : List α) (p : α → Bool)
structure DelInv (i j : Nat) (wr : World) : Prop where
  gr : w.grownBy wr (some g)
  cells : ∃ cur : List Value, wr.heap[g]? = some (.cells cur.toArray e (0, 0)) ∧ cur.length = cap * 3 ∧ cur.take (i * 3) = ((xs.take j).filter fun x => !p x).flatMap f ∧
    ∀ k x, j ≤ k → xs[k]? = some x → ∀ m, m < 3 → cur[k * 3 + m]? = (f x)[m]?
  hi : i = ((xs.take j).filter fun x => !p x).length
  ij : i < j
  jn : j ≤ xs.length
variable {f e w g cap xs p}
theorem DelInv.lo {i j : Nat} {wr w' : World} (h : DelInv f e w g cap xs p i j wr) (hl : Lo wr w') : DelInv f e w g cap xs p i j w' := by
  obtain ⟨gr, ⟨cur, hg, hs, ht, hc⟩, hi, ij, jn⟩ := h
  exact ⟨grown_lo gr hl, ⟨cur, cells_lo hg hl, hs, ht, hc⟩, hi, ij, jn⟩
theorem DelInv.drop {i j : Nat} {wr : World} (h : DelInv f e w g cap xs p i j wr) (hj : j < xs.length) (hp : p xs[j] = true) : DelInv f e w g cap xs p i (j + 1) wr := by
  obtain ⟨gr, ⟨cur, hg, hs, ht, hc⟩, hi, ij, jn⟩ := h
  have hf : (xs.take (j + 1)).filter (fun x => !p x) = (xs.take j).filter fun x => !p x := by
    rw [List.take_succ_eq_append_getElem hj, List.filter_append]; simp [hp]
  exact ⟨gr, ⟨cur, hg, hs, by rw [hf]; exact ht, fun k x hk => hc k x (by omega)⟩, by rw [hf]; exact hi, by omega, hj⟩
theorem DelInv.keep {i j : Nat} {wr : World} (h : DelInv f e w g cap xs p i j wr) (hn : xs.length ≤ cap) (hj : j < xs.length) (hp : p xs[j] = false) {c0 c1 c2 : Value} (hf : f xs[j] = [c0, c1, c2]) :
    DelInv f e w g cap xs p (i + 1) (j + 1) (((wr.setCell ⟨g, i * 3, none⟩ c0).setCell ⟨g, i * 3 + 1, none⟩ c1).setCell ⟨g, i * 3 + 2, none⟩ c2) := by
  obtain ⟨gr, ⟨cur, hg, hs, ht, hc⟩, hi, ij, jn⟩ := h
  have hff : (xs.take (j + 1)).filter (fun x => !p x) = ((xs.take j).filter fun x => !p x) ++ [xs[j]] := by
    rw [List.take_succ_eq_append_getElem hj, List.filter_append]; simp [hp]
  have g1 := setCell_eq_setRow wr g (i * 3) cur.toArray e (0, 0) c0 hg
  have h1 : (wr.setCell ⟨g, i * 3, none⟩ c0).heap[g]? = some (.cells (cur.set (i * 3) c0).toArray e (0, 0)) := by rw [g1]; simpa using setRow_heap wr g _ (cur.toArray.setIfInBounds (i * 3) c0) e (0, 0) hg
  have g2 := setCell_eq_setRow _ g (i * 3 + 1) _ e (0, 0) c1 h1
  have h2 : ((wr.setCell ⟨g, i * 3, none⟩ c0).setCell ⟨g, i * 3 + 1, none⟩ c1).heap[g]? = some (.cells ((cur.set (i * 3) c0).set (i * 3 + 1) c1).toArray e (0, 0)) := by rw [g2]; simpa using setRow_heap _ g _ ((cur.set (i * 3) c0).toArray.setIfInBounds (i * 3 + 1) c1) e (0, 0) h1
  have g3 := setCell_eq_setRow _ g (i * 3 + 2) _ e (0, 0) c2 h2
  have h3 : (((wr.setCell ⟨g, i * 3, none⟩ c0).setCell ⟨g, i * 3 + 1, none⟩ c1).setCell ⟨g, i * 3 + 2, none⟩ c2).heap[g]? = some (.cells (((cur.set (i * 3) c0).set (i * 3 + 1) c1).set (i * 3 + 2) c2).toArray e (0, 0)) := by rw [g3]; simpa using setRow_heap _ g _ (((cur.set (i * 3) c0).set (i * 3 + 1) c1).toArray.setIfInBounds (i * 3 + 2) c2) e (0, 0) h2
  refine ⟨grown_trans (grown_trans (grown_trans gr (grown_setCell _)) (grown_setCell _)) (grown_setCell _), ⟨_, h3, by simpa using hs, ?_, ?_⟩, by rw [hff, List.length_append, ← hi]; rfl, by omega, hj⟩
  · rw [hff, List.flatMap_append, ← ht]
    have hlen : i * 3 + 3 ≤ cur.length := by omega
    refine List.ext_getElem? fun m => ?_
    by_cases hm : m < (i + 1) * 3
    · rw [List.getElem?_take_of_lt hm]
      by_cases hmi : m < i * 3
      · rw [List.getElem?_append_left (by rw [List.length_take]; omega), List.getElem?_take_of_lt hmi]
        rw [List.getElem?_set_ne (by omega), List.getElem?_set_ne (by omega), List.getElem?_set_ne (by omega)]
      · rw [List.getElem?_append_right (by rw [List.length_take]; omega), List.length_take, Nat.min_eq_left (by omega)]
        simp only [List.flatMap_cons, List.flatMap_nil, List.append_nil, hf]
        obtain rfl | rfl | rfl : m = i * 3 ∨ m = i * 3 + 1 ∨ m = i * 3 + 2 := by omega
        · rw [List.getElem?_set_ne (by omega), List.getElem?_set_ne (by omega), List.getElem?_set_self (by omega)]; simp
        · rw [List.getElem?_set_ne (by omega), List.getElem?_set_self (by simp; omega)]; simp
        · rw [List.getElem?_set_self (by simp; omega)]; simp
    · rw [List.getElem?_eq_none (by simp; omega), List.getElem?_eq_none (by simp [hf]; omega)]
  · intro k x hk hx m hm
    rw [List.getElem?_set_ne (by omega), List.getElem?_set_ne (by omega), List.getElem?_set_ne (by omega)]
    exact hc k x (by omega) hx m hm
/-- at the end -/
theorem DelInv.done {i : Nat} {wr : World} (h : DelInv f e w g cap xs p i xs.length wr) : w.grownBy wr (some g) ∧ i = (xs.filter fun x => !p x).length ∧ i < xs.length ∧ ∃ cur : List Value, wr.heap[g]? = some (.cells cur.toArray e (0, 0)) ∧ cur.length = cap * 3 ∧ cur.take (i * 3) = (xs.filter fun x => !p x).flatMap f := by
  obtain ⟨gr, ⟨cur, hg, hs, ht, hc⟩, hi, ij, jn⟩ := h
  rw [List.take_length] at ht hi
  exact ⟨gr, hi, ij, cur, hg, hs, ht⟩
end
end Go.Proofs.Ytabejnjnkpdjbaa.Mem

/- Rows of the call's own: an append of a make; what an insertion leaves. -/
namespace Go.Proofs.Ytabejnjnkpdjbaa.Mem
set_option linter.unusedVariables false
set_option linter.unusedSimpArgs false
open Go.RowKit

theorem size_splice {β : Type} {L cs : List β} {off : Nat} (h : off + cs.length ≤ L.length) : (splice L off cs).length = L.length := length_splice L off cs h

end Go.Proofs.Ytabejnjnkpdjbaa.Mem

/- slices.Delete of one element, of a row of the call's own. -/
namespace Go.Proofs.Ytabejnjnkpdjbaa.Sim
set_option linter.unusedVariables false
set_option linter.unusedSimpArgs false
open Go.RowKit Mem BigFrame
theorem step_append_roomN {P : Program} {ops : Array Oper} {o : Oper} {a : Act} {w : World} {K : Act → World → Prop} {Q : Exit → Act → World → Prop} {E : Prop} (hgd : o.guard = none) (d s : Operand) (t e : TypeId) (i : TypeInfo) (sz : Nat)
    (ho : o.op = .call { callee := .builtin .append, args := #[d, s], argTypes := #[t, t] }) (hu : P.underlying t = some (.slice e)) (hi : P.info? e = some i) (hsz : i.size = sz)
    (g sLen sCap : Nat) (ad : Addr) (m c : Nat) (hd : a.eval d = .slice (some ⟨g, 0, none⟩) sLen sCap) (hs : a.eval s = .slice (some ad) m c)
    (cur : List Value) (fz : Nat × Nat) (hg : w.heap[g]? = some (.cells cur.toArray e fz)) (hfz : FzOk fz cur.length) (cs : List Value) (hn : cs.length = m * sz)
    (hsrc : ∀ (j : Nat) v, cs[j]? = some v → w.cell? (ad.add j) = some v) (hroom : sLen + m ≤ sCap) (hfit : sLen * sz + cs.length ≤ cur.length) {nn : Nat} (hnn : sLen + m = nn) (h1 : ∀ v ∈ cs, v.oneCell' = true)
    (h : ∀ w', Hid (w'.heap[g]? = some (.cells (splice cur (sLen * sz) cs).toArray e fz)) → w.grownBy w' (some g) → K (a.put o.dst (.slice (some ⟨g, 0, none⟩) nn sCap)) w') :
    if Region.wanted o (yielded ops a.tmps) = true then Oper.wp P o a w K Q else E := by
  subst hnn hsz
  have hw : Region.wanted o (yielded ops a.tmps) = true := by simp [Region.wanted, hgd]
  rw [if_pos hw]
  have hrun := run_append_roomM (P := P) w t o.type e i hu hi g sLen sCap cur.toArray fz hg (by simpa using hfz) ad m c cs hn hsrc h1 hroom (by simpa using hfit)
  unfold Oper.wp execOp
  simp only [ho, resolve, invoke, builtin, Sem.run_bind, Sem.run_pure, Result.andThen_ok, List.map_toArray, List.map_cons, List.map_nil, hd, hs, hrun]
  refine h _ (Lib.hid ?_) (grown_setRow w g _)
  rw [setRow_heap w g _ _ e fz hg]
  simp [splice]
theorem wpList_clear_rowN {P : Program} {w : World} {ops : Array Oper} {rest : List Oper} {o : Oper} {a : Act} {Q : Exit → Act → World → Prop} (hgd : o.guard = none) (s : Operand) (sT : TypeId)
    (ho : o.op = .call { callee := .builtin .clear, args := #[s], argTypes := #[sT] }) (e : TypeId) (i : TypeInfo) (z : Value) (hu : P.underlying sT = some (.slice e)) (hi : P.info? e = some i) (hz : i.zero = some z)
    (g off n c : Nat) (hs : a.eval s = .slice (some ⟨g, off, none⟩) n c) (hn : 0 < n)
    (cur : List Value) (t : TypeId) {fz : Nat × Nat} (hg : w.heap[g]? = some (.cells cur.toArray t fz)) (hfz : FzOk fz cur.length) (hfit : off + n * z.cells.size ≤ cur.length) (h1 : ∀ u ∈ z.cells.toList, u.oneCell' = true) (hz0 : 0 < z.cells.size)
    (h : ∀ (w' : World) (cur' : List Value), Hid (w'.heap[g]? = some (.cells cur'.toArray t fz) ∧ cur'.length = cur.length ∧ cur'.take off = cur.take off) → w.grownBy w' (some g) → wpList P ops Q rest (a.put o.dst (.tuple #[])) w') : wpList P ops Q (o :: rest) a w := by
  refine wpList_plain hgd fun K hK => ?_
  have hone : ∀ u ∈ (Builtin.zeroCells z.cells n).toList, u.oneCell' = true := by
    intro u hu
    simp only [Builtin.zeroCells, Array.toList_map, List.mem_map] at hu
    obtain ⟨k, _, rfl⟩ := hu
    have hk : k % z.cells.size < z.cells.size := Nat.mod_lt _ hz0
    rw [getElem!_pos z.cells (k % z.cells.size) hk]
    exact h1 _ (by simp)
  have hrun := run_clear_rowM (P := P) (w := w) sT e o.type i z hu hi hz g off n c hn cur.toArray t hg (by simpa using hfz) (by simpa using hfit) hone
  unfold Oper.wp execOp
  simp only [ho, resolve, invoke, builtin, Sem.run_bind, Sem.run_pure, Result.andThen_ok, List.map_toArray, List.map_cons, List.map_nil, hs, hrun]
  have hzl : (Builtin.zeroCells z.cells n).toList.length = n * z.cells.size := by rw [Array.length_toList, size_zeroCells]
  refine hK _ _ (h _ (cur.take off ++ (Builtin.zeroCells z.cells n).toList ++ cur.drop (off + (Builtin.zeroCells z.cells n).toList.length)) (Lib.hid ⟨?_, ?_, ?_⟩) (grown_setRow w g _))
  · rw [setRow_heap w g _ _ t _ hg]
  · simp only [List.length_append, List.length_take, List.length_drop, hzl]; omega
  · rw [List.append_assoc]; exact List.take_left' (by rw [List.length_take]; omega)
/-- a list of cells without one element's -/
def dropE {β : Type} (sz i : Nat) (L : List β) : List β := L.take (i * sz) ++ L.drop ((i + 1) * sz)
theorem splice_dropE {β : Type} {L : List β} {n i sz : Nat} (hi : i < n) (hn : n * sz ≤ L.length) : (splice L (i * sz) ((L.take (n * sz)).drop ((i + 1) * sz))).take ((n - 1) * sz) = dropE sz i (L.take (n * sz)) := by
  obtain ⟨d, rfl⟩ : ∃ d, n = i + 1 + d := ⟨n - (i + 1), by omega⟩
  have e1 : (i + 1 + d - 1) * sz = i * sz + d * sz := by rw [show i + 1 + d - 1 = i + d by omega, Nat.add_mul]
  have e2 : (i + 1 + d) * sz = i * sz + sz + d * sz := by rw [Nat.add_mul, Nat.add_mul, Nat.one_mul]
  have e3 : (i + 1) * sz = i * sz + sz := by rw [Nat.add_mul, Nat.one_mul]
  rw [e2] at hn ⊢
  rw [e1, e3]
  unfold dropE splice
  rw [e3]
  have ht : (L.take (i * sz + sz + d * sz)).take (i * sz) = L.take (i * sz) := by rw [List.take_take, Nat.min_eq_left (by omega)]
  rw [ht, ← List.append_assoc]
  refine List.take_left' ?_
  simp only [List.length_append, List.length_take, List.length_drop]; omega
end Go.Proofs.Ytabejnjnkpdjbaa.Sim

/- slices.Delete at api.Query. (Written by mk_delete1.py.) -/
namespace Go.Proofs.Ytabejnjnkpdjbaa.Sim
set_option linter.unusedVariables false
set_option linter.unusedSimpArgs false
open Go.RowKit Mem BigFrame
theorem infoQ : (Try.prog.info? 70).map (fun i => (i.zero, i.size, i.bytes)) = some (some (.agg #[.int .u64 0, .int .u64 0, .int .u64 0, .int .u64 0, .string ⟨#[]⟩, .string ⟨#[]⟩, .int .u64 0, .int .u32 0, .slice none 0 0]), 9, 104) := by kernel_rfl
set_option maxRecDepth 100000 in
set_option maxHeartbeats 3200000 in
theorem delQ (g cap n i : Nat) (cur : List Value) (fz : Nat × Nat) (w : World) (hg : w.heap[g]? = some (.cells cur.toArray 70 fz)) (hfz : FzOk fz cur.length) (hin : i < n) (hnc : n ≤ cap) (hcm : cap ≤ maxLen) (hcs : cap * 9 ≤ cur.length) (h1 : ∀ u ∈ cur.take (n * 9), u.oneCell' = true) :
    Calls Try.prog 77 #[.slice (some ⟨g, 0, none⟩) n cap, .int .i64 i, .int .i64 ((i : Int) + 1)] w fun e w' => e = .returned (.slice (some ⟨g, 0, none⟩) (n - 1) cap) ∧ w.grownBy w' (some g) ∧ ∃ cur' : List Value, w'.heap[g]? = some (.cells cur'.toArray 70 fz) ∧ cur'.length = cur.length ∧ cur'.take ((n - 1) * 9) = dropE 9 i (cur.take (n * 9)) := by
  obtain ⟨i0, hi, hz0, hz1, hz2⟩ := info_parts infoQ
  have HG := Lib.hid hg
  have HF := Lib.hid hfz
  have hnl : n * 9 ≤ cur.length := by omega
  have hsrc : Hid (∀ w0, Lo w w0 → ∀ (j : Nat) u, ((cur.take (n * 9)).drop ((i + 1) * 9))[j]? = some u → w0.cell? ((⟨g, (i + 1) * 9, none⟩ : Addr).add j) = some u) := Lib.hid fun w0 hl j u hj => by
    rw [addr_add]
    refine lo_keep hl ?_
    rw [List.getElem?_drop] at hj
    have hjn : (i + 1) * 9 + j < n * 9 := by have := (List.getElem?_eq_some_iff.1 hj).1; simp at this; omega
    rw [List.getElem?_take_of_lt hjn] at hj
    have hjl := (List.getElem?_eq_some_iff.1 hj).1
    obtain ⟨hx, hy⟩ := List.getElem?_eq_some_iff.1 hj
    simp [World.cell?, hg, hjl, hy]
  have hlen : ((cur.take (n * 9)).drop ((i + 1) * 9)).length = (n - (i + 1)) * 9 := by simp only [List.length_drop, List.length_take]; omega
  have hone : ∀ u ∈ (cur.take (n * 9)).drop ((i + 1) * 9), u.oneCell' = true := fun u hu => h1 u (List.mem_of_mem_drop hu)
  have HSP := Lib.hid (splice_dropE (L := cur) (sz := 9) hin hnl)
  have hfit0 : i * 9 + ((cur.take (n * 9)).drop ((i + 1) * 9)).length ≤ cur.length := by rw [hlen]; omega
  have hsl : (splice cur (i * 9) ((cur.take (n * 9)).drop ((i + 1) * 9))).length = cur.length := size_splice hfit0
  clear hg hfz h1
  generalize (cur.take (n * 9)).drop ((i + 1) * 9) = Xs at *
  generalize dropE 9 i (cur.take (n * 9)) = Ys at *
  have j0 : (0 : Int) ≤ (i : Int) := by omega
  have j1 : (i : Int) + 1 ≤ (n : Int) := by omega
  have j2 : (n : Int) ≤ (cap : Int) := by omega
  have j3 : ¬ ((i : Int) = (i : Int) + 1) := by omega
  have j4 : (0 : Int) ≤ (i : Int) + 1 := by omega
  have j5 : ((i : Int) + 1).toNat = i + 1 := by omega
  have j6 : (i : Int) ≤ (i : Int) + 1 := by omega
  have j7 : (i : Int) ≤ (cap : Int) := by omega
  have hbg : g < w.heap.size := block_lt HG.out
  go_enter Try.func77, Try.ntmps77
  go_wp2
  obtain ⟨ad, had, hadc⟩ : ∃ ad : Addr, (if cap = i + 1 then some (⟨g, 0, none⟩ : Addr) else some ⟨g, (i + 1) * 9, none⟩) = some ad ∧ Hid (∀ w0, Lo w w0 → ∀ (j : Nat) u, Xs[j]? = some u → w0.cell? (ad.add j) = some u) := by
    by_cases h : cap = i + 1
    · refine ⟨⟨g, 0, none⟩, if_pos h, Lib.hid fun w0 hl j u hj => ?_⟩
      have := (List.getElem?_eq_some_iff.1 hj).1
      omega
    · exact ⟨⟨g, (i + 1) * 9, none⟩, if_neg h, hsrc⟩
  go_region_law (refine step_append_roomN rfl (.tmp 22) (.tmp 25) 116 70 i0 9 rfl Try.underlying116 hi hz1 g i cap ad (n - (i + 1)) (cap - (i + 1)) (by simp [Act.eval, Act.put]) (by simp [Act.eval, Act.put, had]) cur fz HG.out HF.out Xs hlen (hadc.out _ (Lo.refl w).drew) (by omega) hfit0 (show i + (n - (i + 1)) = n - 1 by omega) hone ?_; intro w1 HG1 hgr1)
  have hgr1 : w.grownBy w1 (some g) := grown_trans (grown_of_lo (Lo.refl w).drew) hgr1
  have q0 : ((n - 1 : Nat) : Int) ≤ (n : Int) := by omega
  have q1 : (0 : Int) ≤ ((n - 1 : Nat) : Int) := by omega
  have q2 : ¬ (cap = n - 1) := by omega
  have q3 : n - (n - 1) = 1 := by omega
  have HF1 : Hid (FzOk fz (splice cur (i * 9) Xs).length) := Lib.hid (by rw [hsl]; exact HF.out)
  have hzc : (Value.agg #[.int .u64 0, .int .u64 0, .int .u64 0, .int .u64 0, .string ⟨#[]⟩, .string ⟨#[]⟩, .int .u64 0, .int .u32 0, .slice none 0 0]).cells.size = 9 := rfl
  have hzf : (n - 1) * 9 + 1 * (Value.agg #[.int .u64 0, .int .u64 0, .int .u64 0, .int .u64 0, .string ⟨#[]⟩, .string ⟨#[]⟩, .int .u64 0, .int .u32 0, .slice none 0 0]).cells.size ≤ (splice cur (i * 9) Xs).length := by rw [hsl, hzc]; omega
  have hz1' : ∀ u ∈ (Value.agg #[.int .u64 0, .int .u64 0, .int .u64 0, .int .u64 0, .string ⟨#[]⟩, .string ⟨#[]⟩, .int .u64 0, .int .u32 0, .slice none 0 0]).cells.toList, u.oneCell' = true := fun u hu => List.all_eq_true.1 (show (Value.agg #[.int .u64 0, .int .u64 0, .int .u64 0, .int .u64 0, .string ⟨#[]⟩, .string ⟨#[]⟩, .int .u64 0, .int .u32 0, .slice none 0 0]).cells.toList.all (·.oneCell') = true from rfl) u hu
  have hz0' : 0 < (Value.agg #[.int .u64 0, .int .u64 0, .int .u64 0, .int .u64 0, .string ⟨#[]⟩, .string ⟨#[]⟩, .int .u64 0, .int .u32 0, .slice none 0 0]).cells.size := by rw [hzc]; omega
  have h01 : 0 < 1 := by omega
  go_wp2_with ((refine wpList_clear_rowN rfl (.tmp 31) 116 rfl 70 i0 (.agg #[.int .u64 0, .int .u64 0, .int .u64 0, .int .u64 0, .string ⟨#[]⟩, .string ⟨#[]⟩, .int .u64 0, .int .u32 0, .slice none 0 0]) Try.underlying116 hi hz0 g ((n - 1) * 9) 1 (cap - (n - 1)) rfl h01 _ 70 HG1.out HF1.out hzf hz1' hz0' ?_); intro w2 cur2 HG2 hgr2)
  go_ret
  exact ⟨rfl, grown_trans hgr1 hgr2, cur2, HG2.out.1, HG2.out.2.1.trans hsl, by rw [HG2.out.2.2]; exact HSP.out⟩
end Go.Proofs.Ytabejnjnkpdjbaa.Sim

/- slices.Delete at api.Tunnel. (Written by mk_delete1.py.) -/
namespace Go.Proofs.Ytabejnjnkpdjbaa.Sim
set_option linter.unusedVariables false
set_option linter.unusedSimpArgs false
open Go.RowKit Mem BigFrame
theorem infoT : (Try.prog.info? 118).map (fun i => (i.zero, i.size, i.bytes)) = some (some (.agg #[.int .i64 0, .int .u64 0, .int .u64 0, .int .i64 0, .int .u64 0, .int .u64 0, .int .u32 0, .int .i64 0, .int .i64 0, .int .u64 0, .int .u64 0, .int .u64 0, .int .u64 0, .slice none 0 0]), 14, 128) := by kernel_rfl
set_option maxRecDepth 100000 in
set_option maxHeartbeats 3200000 in
theorem delT (g cap n i : Nat) (cur : List Value) (fz : Nat × Nat) (w : World) (hg : w.heap[g]? = some (.cells cur.toArray 118 fz)) (hfz : FzOk fz cur.length) (hin : i < n) (hnc : n ≤ cap) (hcm : cap ≤ maxLen) (hcs : cap * 14 ≤ cur.length) (h1 : ∀ u ∈ cur.take (n * 14), u.oneCell' = true) :
    Calls Try.prog 117 #[.slice (some ⟨g, 0, none⟩) n cap, .int .i64 i, .int .i64 ((i : Int) + 1)] w fun e w' => e = .returned (.slice (some ⟨g, 0, none⟩) (n - 1) cap) ∧ w.grownBy w' (some g) ∧ ∃ cur' : List Value, w'.heap[g]? = some (.cells cur'.toArray 118 fz) ∧ cur'.length = cur.length ∧ cur'.take ((n - 1) * 14) = dropE 14 i (cur.take (n * 14)) := by
  obtain ⟨i0, hi, hz0, hz1, hz2⟩ := info_parts infoT
  have HG := Lib.hid hg
  have HF := Lib.hid hfz
  have hnl : n * 14 ≤ cur.length := by omega
  have hsrc : Hid (∀ w0, Lo w w0 → ∀ (j : Nat) u, ((cur.take (n * 14)).drop ((i + 1) * 14))[j]? = some u → w0.cell? ((⟨g, (i + 1) * 14, none⟩ : Addr).add j) = some u) := Lib.hid fun w0 hl j u hj => by
    rw [addr_add]
    refine lo_keep hl ?_
    rw [List.getElem?_drop] at hj
    have hjn : (i + 1) * 14 + j < n * 14 := by have := (List.getElem?_eq_some_iff.1 hj).1; simp at this; omega
    rw [List.getElem?_take_of_lt hjn] at hj
    have hjl := (List.getElem?_eq_some_iff.1 hj).1
    obtain ⟨hx, hy⟩ := List.getElem?_eq_some_iff.1 hj
    simp [World.cell?, hg, hjl, hy]
  have hlen : ((cur.take (n * 14)).drop ((i + 1) * 14)).length = (n - (i + 1)) * 14 := by simp only [List.length_drop, List.length_take]; omega
  have hone : ∀ u ∈ (cur.take (n * 14)).drop ((i + 1) * 14), u.oneCell' = true := fun u hu => h1 u (List.mem_of_mem_drop hu)
  have HSP := Lib.hid (splice_dropE (L := cur) (sz := 14) hin hnl)
  have hfit0 : i * 14 + ((cur.take (n * 14)).drop ((i + 1) * 14)).length ≤ cur.length := by rw [hlen]; omega
  have hsl : (splice cur (i * 14) ((cur.take (n * 14)).drop ((i + 1) * 14))).length = cur.length := size_splice hfit0
  clear hg hfz h1
  generalize (cur.take (n * 14)).drop ((i + 1) * 14) = Xs at *
  generalize dropE 14 i (cur.take (n * 14)) = Ys at *
  have j0 : (0 : Int) ≤ (i : Int) := by omega
  have j1 : (i : Int) + 1 ≤ (n : Int) := by omega
  have j2 : (n : Int) ≤ (cap : Int) := by omega
  have j3 : ¬ ((i : Int) = (i : Int) + 1) := by omega
  have j4 : (0 : Int) ≤ (i : Int) + 1 := by omega
  have j5 : ((i : Int) + 1).toNat = i + 1 := by omega
  have j6 : (i : Int) ≤ (i : Int) + 1 := by omega
  have j7 : (i : Int) ≤ (cap : Int) := by omega
  have hbg : g < w.heap.size := block_lt HG.out
  go_enter Try.func117, Try.ntmps117
  go_wp2
  obtain ⟨ad, had, hadc⟩ : ∃ ad : Addr, (if cap = i + 1 then some (⟨g, 0, none⟩ : Addr) else some ⟨g, (i + 1) * 14, none⟩) = some ad ∧ Hid (∀ w0, Lo w w0 → ∀ (j : Nat) u, Xs[j]? = some u → w0.cell? (ad.add j) = some u) := by
    by_cases h : cap = i + 1
    · refine ⟨⟨g, 0, none⟩, if_pos h, Lib.hid fun w0 hl j u hj => ?_⟩
      have := (List.getElem?_eq_some_iff.1 hj).1
      omega
    · exact ⟨⟨g, (i + 1) * 14, none⟩, if_neg h, hsrc⟩
  go_region_law (refine step_append_roomN rfl (.tmp 22) (.tmp 25) 56 118 i0 14 rfl Try.underlying56 hi hz1 g i cap ad (n - (i + 1)) (cap - (i + 1)) (by simp [Act.eval, Act.put]) (by simp [Act.eval, Act.put, had]) cur fz HG.out HF.out Xs hlen (hadc.out _ (Lo.refl w).drew) (by omega) hfit0 (show i + (n - (i + 1)) = n - 1 by omega) hone ?_; intro w1 HG1 hgr1)
  have hgr1 : w.grownBy w1 (some g) := grown_trans (grown_of_lo (Lo.refl w).drew) hgr1
  have q0 : ((n - 1 : Nat) : Int) ≤ (n : Int) := by omega
  have q1 : (0 : Int) ≤ ((n - 1 : Nat) : Int) := by omega
  have q2 : ¬ (cap = n - 1) := by omega
  have q3 : n - (n - 1) = 1 := by omega
  have HF1 : Hid (FzOk fz (splice cur (i * 14) Xs).length) := Lib.hid (by rw [hsl]; exact HF.out)
  have hzc : (Value.agg #[.int .i64 0, .int .u64 0, .int .u64 0, .int .i64 0, .int .u64 0, .int .u64 0, .int .u32 0, .int .i64 0, .int .i64 0, .int .u64 0, .int .u64 0, .int .u64 0, .int .u64 0, .slice none 0 0]).cells.size = 14 := rfl
  have hzf : (n - 1) * 14 + 1 * (Value.agg #[.int .i64 0, .int .u64 0, .int .u64 0, .int .i64 0, .int .u64 0, .int .u64 0, .int .u32 0, .int .i64 0, .int .i64 0, .int .u64 0, .int .u64 0, .int .u64 0, .int .u64 0, .slice none 0 0]).cells.size ≤ (splice cur (i * 14) Xs).length := by rw [hsl, hzc]; omega
  have hz1' : ∀ u ∈ (Value.agg #[.int .i64 0, .int .u64 0, .int .u64 0, .int .i64 0, .int .u64 0, .int .u64 0, .int .u32 0, .int .i64 0, .int .i64 0, .int .u64 0, .int .u64 0, .int .u64 0, .int .u64 0, .slice none 0 0]).cells.toList, u.oneCell' = true := fun u hu => List.all_eq_true.1 (show (Value.agg #[.int .i64 0, .int .u64 0, .int .u64 0, .int .i64 0, .int .u64 0, .int .u64 0, .int .u32 0, .int .i64 0, .int .i64 0, .int .u64 0, .int .u64 0, .int .u64 0, .int .u64 0, .slice none 0 0]).cells.toList.all (·.oneCell') = true from rfl) u hu
  have hz0' : 0 < (Value.agg #[.int .i64 0, .int .u64 0, .int .u64 0, .int .i64 0, .int .u64 0, .int .u64 0, .int .u32 0, .int .i64 0, .int .i64 0, .int .u64 0, .int .u64 0, .int .u64 0, .int .u64 0, .slice none 0 0]).cells.size := by rw [hzc]; omega
  have h01 : 0 < 1 := by omega
  go_wp2_with ((refine wpList_clear_rowN rfl (.tmp 31) 56 rfl 118 i0 (.agg #[.int .i64 0, .int .u64 0, .int .u64 0, .int .i64 0, .int .u64 0, .int .u64 0, .int .u32 0, .int .i64 0, .int .i64 0, .int .u64 0, .int .u64 0, .int .u64 0, .int .u64 0, .slice none 0 0]) Try.underlying56 hi hz0 g ((n - 1) * 14) 1 (cap - (n - 1)) rfl h01 _ 118 HG1.out HF1.out hzf hz1' hz0' ?_); intro w2 cur2 HG2 hgr2)
  go_ret
  exact ⟨rfl, grown_trans hgr1 hgr2, cur2, HG2.out.1, HG2.out.2.1.trans hsl, by rw [HG2.out.2.2]; exact HSP.out⟩
end Go.Proofs.Ytabejnjnkpdjbaa.Sim
