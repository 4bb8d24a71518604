/- For every call, the law NetNobody returns true. -/
import Derived.Test.YtgbcmjcaggnobaaR23
namespace Go.Proofs.Ytgbcmjcaggnobaa.NetNobody
set_option linter.unusedVariables false
set_option linter.unusedSimpArgs false
open Go.RowKit Mem Sim
section
variable {P : Program} {bx : List (Nat × List A)} {ow : List (Nat × Own)} {o : Oper} {ρ : Operand → Option A}
theorem po_box_tp {ty : TypeId} {x : Operand} {cs : List T} (ho : o.op = .box ty x) (hx : ρ x = some (.t (.agg cs))) : PureOp P bx ow o ρ (.t (.tp cs)) := by
  refine .mk fun C m g w a Q he h => ?_
  have hv : TR m (.agg cs) (a.eval x) := h x (by simp [ho, Op.operands]) _ hx
  generalize hvv : a.eval x = v at hv
  cases hv with
  | agg cs vs e1 e2 e3 =>
    obtain ⟨h1, h2, h3⟩ := ext_new he.sub vs ty
    refine wp_of_run (v := .pointer (some ⟨w.heap.size, 0, none⟩)) (w' := w.alloc (.cells vs ty)) ?_ ⟨_, _, rfl, (Lo.refl w).alloc _, h1, h2, .tp cs w.heap.size 0 (fun j => vs[j]?.getD undef) (fun j t ht => ?_) fun j t ht => ?_⟩
    · simp [execOp, ho, hvv, Instr.box, newVar, newRow, Value.cells]
    · have hj : j < vs.size := by rw [e1]; exact (List.getElem?_eq_some_iff.1 ht).1
      have hg : vs[j]? = some vs[j] := Array.getElem?_eq_getElem hj
      rw [hg, Nat.zero_add]
      exact ⟨h3 j _ hg, e2 _ (by simp)⟩
    · have hj : j < vs.size := by rw [e1]; exact (List.getElem?_eq_some_iff.1 ht).1
      have hg : vs[j]? = some vs[j] := Array.getElem?_eq_getElem hj
      rw [hg]
      exact (e3 j t _ ht hg).mono h1.1
theorem po_nnil_p0 {x : Operand} {t t2 : Nat} (ho : o.op = .binOp .neq t x (.const (.pointer none)) t2) (hx : ρ x = some (.t (.v (.pointer none)))) (hT : ptI P t = true) : PureOp P bx ow o ρ (.t (.v (.bool false))) := pure_run fun C m g w a he h => by
  have hv := tr_v (h x (by simp [ho, Op.operands]) _ hx)
  have hc0 : a.eval (.const (.pointer none)) = .pointer none := rfl
  exact ⟨.bool false, by simp [execOp, ho, hv, hc0, eqGuard, binOp, Sem.run_bind, run_equal_ptr0 hT], .v _⟩
end
abbrev big : Nat := 9223372036854775807
theorem same_0 : PCalls Try.prog 18 [msgA msgZ, msg0] (.v (.bool true)) := by
  have h := same_ msgZ msgZ (by simp [msgZ]) (by simp [msgZ])
  rw [sameP_iff.2 rfl] at h
  exact { ent := h.ent, run := fun m w vals hs hl hv hT => h.run m w vals hs hl (fun i t v h1 h2 => by
    match i, h1 with
    | 0, h1 => exact hv 0 t v h1 h2
    | 1, h1 => injection h1 with h1; subst h1; exact le_msg0 m v (hv 1 _ v rfl h2)) hT }
set_option maxRecDepth 100000 in
theorem law_heavy (x : PHop) (hx : x.load.length ≤ big) (hh : heavyP [x] = true) : PCalls Try.prog 6 [.agg (hopC x)] (.v (.bool true)) := by
  have c2 := heavy_ [x] (by simp) (fun z hz => by simp at hz; subst hz; exact hx)
  rw [hh] at c2
  have c9 := awake_
  unfold hopC
  refine pcalls_of Try.func6 rfl rfl Try.ntmps6 rfl ?_
  repeat' (first | (refine rg 0 ?_; refine sbx ?_; refine oAs ?_; refine oN ?_) | (refine rg 1 ?_; (refine sp (po_load_bx_agg rfl rfl (tyT rfl) rfl (vc (vc (vc (vc (vc .nil))))) rfl) ?_); refine sp (po_buildSlice rfl (tyE rfl) (dc (.nil _)) rfl rfl rfl) ?_; refine oC (c2) rfl (ac .nil) ?_; refine oN ?_) | (refine rg 2 ?_; refine sops_lcall0 (c9) (fun i => i) (.free rfl rfl) rfl rfl rfl (by ((repeat' (exact .nil)) <;> fail)) .nil rfl rfl ?_; refine oAs ?_; refine oN ?_) | refine gc ?_ | refine ct ?_ | refine cf ?_ | refine swp_cond rfl (fun hc => ?_) (fun hc => ?_) | refine rq rfl (rt .nil) ?_)
  rfl
def qs (cs : List T) (k : Nat) : T := if k = 0 then .v (.pointer none) else nobZ cs
theorem qs_ob (cs : List T) (k : Nat) : NobQ (qs cs k) := by
  unfold qs
  split
  · exact nob_nil
  · exact nob_zero cs
def kdO (x : PHop) : Nat → Int
  | 0 => x.kind
  | _ + 1 => 6
def kdI (b : Int) : Nat → Int
  | 0 => b
  | j + 1 => (j : Int)
def SO (x : PHop) (cs : List T) (k : Nat) : St := ⟨[(1, .bp 1 0), (4, .t (.sl 1 [[.v (.pointer none)], [nobZ cs]])), (5, .t (.v (.int .i64 (k : Int))))], [(1, [.t (.v (.int .i64 (kdO x k))), .t (.v (.int .i64 x.f)), .t (.v (.int .i64 x.t)), .t (.v (.int .i64 x.no)), .t (bysT x.load)])], []⟩
def SI (x : PHop) (cs : List T) (k j : Nat) : St := ⟨[(1, .bp 1 0), (4, .t (.sl 1 [[.v (.pointer none)], [nobZ cs]])), (5, .t (.v (.int .i64 (k : Int)))), (6, .t (.v (.int .i64 (j : Int))))], [(1, [.t (.v (.int .i64 (kdI (kdO x k) j))), .t (.v (.int .i64 x.f)), .t (.v (.int .i64 x.t)), .t (.v (.int .i64 x.no)), .t (bysT x.load)])], []⟩
set_option maxRecDepth 100000 in
set_option maxHeartbeats 4000000 in
theorem law_go (x : PHop) (hh : heavyP [x] = false) : PCalls Try.prog 6 [.agg (hopC x)] (.v (.bool true)) := by
  obtain ⟨g1, g2, g3⟩ := light hh
  have hx := g3 x (by simp)
  have c2 := heavy_ [x] (by simp) (fun z hz => by have := g3 z hz; omega)
  rw [hh] at c2
  have c9 := awake_
  unfold hopC
  refine pcalls_of Try.func6 rfl rfl Try.ntmps6 rfl ?_
  repeat' (first | (refine rg 0 ?_; (first | refine sp (po_box_tp (ty := 68) rfl rfl) ?_ | refine sbx ?_); refine oAs ?_; refine oN ?_) | (refine rg 1 ?_; (refine sp (po_load_bx_agg rfl rfl (tyT rfl) rfl (vc (vc (vc (vc (vc .nil))))) rfl) ?_); refine sp (po_buildSlice rfl (tyE rfl) (dc (.nil _)) rfl rfl rfl) ?_; refine oC (c2) rfl (ac .nil) ?_; refine oN ?_) | (refine rg 3 ?_; refine oAs ?_; refine oN ?_) | (refine rg 4 ?_; refine oMv ?_; refine sp (po_buildS str68 rfl .nil rfl) ?_; refine sp (po_box_tp (ty := 68) rfl rfl) ?_; refine sp (po_buildSlice rfl (tyE rfl) (dc (dc (.nil _))) rfl rfl rfl) ?_; refine oAs ?_; refine oN ?_) | (refine rg 5 ?_; refine oAs ?_; refine oN ?_) | refine gc ?_ | refine ct ?_ | refine cf ?_ | refine swp_cond rfl (fun hc => ?_) (fun hc => ?_) | refine rq rfl (rt .nil) ?_)
  generalize hcs : List.replicate 100 (T.v (Value.chan none)) = cs
  refine swp_for (SO x (List.replicate 100 (T.v (Value.chan none)))) (fun _ => True) 2 ?_ trivial ?_
  · exact (weak_sub (.cons rfl rfl rfl (.cons rfl rfl rfl (.cons rfl rfl rfl .nil))) (.cons rfl rfl rfl .nil) .nil)
  rw [hcs]
  intro k hk _
  unfold SO
  by_cases hlt : k < 2
  · have hlt' : (k : Int) < 2 := by omega
    have hat : [[T.v (Value.pointer none)], [nobZ cs]][k]? = some [qs cs k] := by
      unfold qs
      match k, hlt with
      | 0, _ => rfl
      | 1, _ => rfl
    repeat' (first | (refine rg 6 ?_; refine oMv ?_; refine oMv ?_; (first | refine sp (po_len_own rfl rfl (tyS rfl)) ?_ | refine sp (pln rfl (tyS rfl)) ?_); refine oCm ?_; refine oN ?_) | (refine rg 8 ?_; refine oAs ?_; refine oN ?_) | refine gc ?_ | refine ct ?_ | refine cf ?_ | refine swp_cond rfl (fun hc => ?_) (fun hc => ?_) | refine rq rfl (rt .nil) ?_)
    refine swp_for (SI x cs k) (fun _ => True) 7 ?_ trivial ?_
    · exact (weak_sub (.cons rfl rfl rfl (.cons rfl rfl rfl (.cons rfl rfl rfl (.cons rfl rfl rfl .nil)))) (.cons rfl rfl rfl .nil) .nil)
    intro j hj _
    unfold SI
    have hq := qs_ob cs k
    by_cases hlj : j < 7
    · have hlj' : (j : Int) < 7 := by omega
      have c3 := does_ob hq ⟨j, x.f, x.t, x.no, x.load⟩ hx j rfl hlj
      unfold DoesOb hopT msgA msgT at c3
      have c4 := same_0
      unfold msgA msgT msg0 at c4
      have ej : kdI (kdO x k) (j + 1) = (j : Int) := rfl
      repeat' (first | refine for_next hlj (weak_sub (.cons rfl (by rfl) rfl (.cons rfl (by rfl) rfl (.cons rfl (by rfl) rfl (.cons rfl (by rfl) rfl .nil)))) (.cons rfl (by rfl) rfl .nil) .nil) trivial | (refine rg 9 ?_; refine oMv ?_; (first | refine sp (po_ner rfl rfl rfl) ?_ | refine oCm ?_); refine oN ?_) | (refine rg 11 ?_; refine oMv ?_; refine oFb ?_; refine oS ?_; refine oN ?_) | ((refine swp_any (id := 12) [[], [], [], [], [], [], [], [], [], [], [7], [7], [], []] [[7], [7], [7], [7], [7], [7], [7], [7], [7], [7], [], [], [], []] mixed (by kernel_rfl) ?_) <;> (first | refine yp (fun _ _ => po_ner rfl rfl rfl) ?_ | refine yp (fun _ _ => po_move rfl rfl) ?_) <;> (first | refine yp (fun _ _ => po_ner rfl rfl rfl) ?_ | refine yp (fun _ _ => po_move rfl rfl) ?_) <;> (first | refine yp (fun _ _ => po_ner rfl rfl rfl) ?_ | refine yp (fun _ _ => po_index_own rfl rfl rfl (by rfl) rfl (tyS rfl) (by rfl) (by first | assumption | omega)) ?_ | refine yp (fun _ _ => po_index_arr rfl rfl rfl arr69 rfl (by first | omega | assumption)) ?_ | refine yp (fun _ _ => pix rfl (tyS rfl)) ?_) <;> (first | refine yp (fun _ _ => po_ner rfl rfl rfl) ?_ | refine yp (fun _ _ => po_load_ntn rfl rfl (tyT rfl) rfl) ?_ | refine yp (fun _ _ => po_load_ntk rfl rfl (tyT rfl) rfl (by first | assumption | omega) (by assumption) rfl) ?_ | refine yp (fun _ _ => po_load_bx rfl rfl (tyT rfl) rfl rfl) ?_ | refine yp (fun _ _ => po_load rfl rfl (tyT rfl) rfl) ?_) <;> (first | refine yp (fun _ _ => po_ner rfl rfl rfl) ?_ | refine yp (fun _ _ => po_load_bx_agg rfl rfl (tyT rfl) rfl (vc (vc (vc (vc (vc .nil))))) rfl) ?_) <;> (refine sany_eff [] [] (.free rfl rfl) rfl rfl (fun _ _ hb ho => (e_lcall (c3) (fun i => i) (fun i => i) rfl (by ((repeat' (first | exact .nil | refine .cons rfl rfl rfl ?_)) <;> fail)) .nil .nil rfl rfl (by ((repeat' (exact .nil)) <;> fail)) (by ((repeat' (exact .nil)) <;> fail)) .nil)) ?_) <;> (first | refine yp (fun _ _ => po_ner rfl rfl rfl) ?_ | refine yp (fun _ _ => po_move rfl rfl) ?_) <;> (first | refine yp (fun _ _ => po_ner rfl rfl rfl) ?_ | refine yp (fun _ _ => po_extract rfl rfl rfl) ?_ | refine yp (fun _ _ => po_extract_tu rfl rfl rfl) ?_) <;> (first | refine yp (fun _ _ => po_ner rfl rfl rfl) ?_ | refine yp (fun _ _ => po_extract rfl rfl rfl) ?_ | refine yp (fun _ _ => po_extract_tu rfl rfl rfl) ?_) <;> (first | refine yp (fun _ _ => po_ner rfl rfl rfl) ?_ | refine yp (fun _ _ => po_extract rfl rfl rfl) ?_ | refine yp (fun _ _ => po_extract_tu rfl rfl rfl) ?_) <;> refine sany_eff [(7, _)] [] (.free rfl rfl) rfl rfl (fun _ _ hb _ => e_allocS str32 rfl (hb 7 rfl rfl)) ?_ <;> refine sany_eff [(7, _)] [] (.free rfl rfl) rfl rfl (fun _ _ _ _ => e_store rfl rfl rfl rfl rfl rfl (tyT rfl) rfl rfl) ?_ <;> (first | refine yp (fun _ _ => po_ner rfl rfl rfl) ?_ | refine yp (fun _ _ => po_assign rfl rfl) ?_) <;> (first | refine yp (fun _ _ => po_ner rfl rfl rfl) ?_ | refine yp (fun _ _ => po_assign rfl rfl) ?_) <;> refine sany_nil ?_) | (refine rg 13 ?_; refine oMv ?_; refine sp (po_ner rfl rfl rfl) ?_; refine oMv ?_; (refine sp (po_load_bx_agg rfl rfl (tyT rfl) rfl (vc (vc (vc .nil))) rfl) ?_) <;> refine sp (po_buildS str32 rfl .nil rfl) ?_ <;> refine oC (c4) rfl (ac (ac .nil)) ?_ <;> refine sp (po_not rfl rfl) ?_ <;> (first | refine oPt ?_ | refine oPf ?_) <;> refine oN ?_) | (refine rg 10 ?_; refine oMv ?_; refine sp (xinc rfl) ?_; refine oAs ?_; refine oN ?_) | refine gc ?_ | refine ct ?_ | refine cf ?_)
    · obtain rfl : j = 7 := by omega
      have d1 := hq
      unfold NobQ at d1
      have d2 := len_ob hq x.f x.t
      have d3 := count_ob hq
      have d4 := links_ob hq
      have d5 := copy_ob hq
      repeat' (first | refine for_next hlt (weak_sub (.cons rfl rfl rfl (.cons rfl rfl rfl (.cons rfl rfl rfl .nil))) (.cons rfl rfl rfl .nil) .nil) trivial | (refine rg 9 ?_; refine oMv ?_; (first | refine sp (po_ner rfl rfl rfl) ?_ | refine sp (po_nnil_p0 rfl rfl (by kernel_rfl)) ?_ | refine oCm ?_); refine oN ?_) | ((refine swp_any (id := 15) [[], [], [], [], [], [], [], [], [], [], [], [], [], [], [], [], [], [], [], [], [], [], [], [], [], [], [], [], [], [], [], [], [], [], [], [], []] [[], [], [], [], [], [], [], [], [], [], [], [], [], [], [], [], [], [], [], [], [], [], [], [], [], [], [], [], [], [], [], [], [], [], [], [], []] mixed (by kernel_rfl) ?_) <;> (first | refine yp (fun _ _ => po_ner rfl rfl rfl) ?_ | refine yp (fun _ _ => po_nnil_p0 rfl rfl (by kernel_rfl)) ?_ | refine yp (fun _ _ => po_move rfl rfl) ?_) <;> (first | refine yp (fun _ _ => po_ner rfl rfl rfl) ?_ | refine yp (fun _ _ => po_nnil_p0 rfl rfl (by kernel_rfl)) ?_ | refine yp (fun _ _ => po_move rfl rfl) ?_) <;> (first | refine yp (fun _ _ => po_ner rfl rfl rfl) ?_ | refine yp (fun _ _ => po_nnil_p0 rfl rfl (by kernel_rfl)) ?_ | refine yp (fun _ _ => po_index_own rfl rfl rfl (by rfl) rfl (tyS rfl) (by rfl) (by first | assumption | omega)) ?_ | refine yp (fun _ _ => po_index_arr rfl rfl rfl arr69 rfl (by first | omega | assumption)) ?_ | refine yp (fun _ _ => pix rfl (tyS rfl)) ?_) <;> (first | refine yp (fun _ _ => po_ner rfl rfl rfl) ?_ | refine yp (fun _ _ => po_nnil_p0 rfl rfl (by kernel_rfl)) ?_ | refine yp (fun _ _ => po_load_ntn rfl rfl (tyT rfl) rfl) ?_ | refine yp (fun _ _ => po_load_ntk rfl rfl (tyT rfl) rfl (by first | assumption | omega) (by assumption) rfl) ?_ | refine yp (fun _ _ => po_load_bx rfl rfl (tyT rfl) rfl rfl) ?_ | refine yp (fun _ _ => po_load rfl rfl (tyT rfl) rfl) ?_) <;> (refine sany_eff [] [] (.free rfl rfl) rfl rfl (fun _ _ hb ho => (e_lcall (d1) (fun i => i) (fun i => i) rfl (by ((repeat' (first | exact .nil | refine .cons rfl rfl rfl ?_)) <;> fail)) .nil .nil rfl rfl (by ((repeat' (exact .nil)) <;> fail)) (by ((repeat' (exact .nil)) <;> fail)) .nil)) ?_) <;> (first | refine yp (fun _ _ => po_ner rfl rfl rfl) ?_ | refine yp (fun _ _ => po_nnil_p0 rfl rfl (by kernel_rfl)) ?_ | refine yp (fun _ _ => po_move rfl rfl) ?_) <;> (first | refine yp (fun _ _ => po_ner rfl rfl rfl) ?_ | refine yp (fun _ _ => po_nnil_p0 rfl rfl (by kernel_rfl)) ?_ | refine yp (fun _ _ => po_move rfl rfl) ?_) <;> (first | refine yp (fun _ _ => po_ner rfl rfl rfl) ?_ | refine yp (fun _ _ => po_nnil_p0 rfl rfl (by kernel_rfl)) ?_ | refine yp (fun _ _ => po_index_own rfl rfl rfl (by rfl) rfl (tyS rfl) (by rfl) (by first | assumption | omega)) ?_ | refine yp (fun _ _ => po_index_arr rfl rfl rfl arr69 rfl (by first | omega | assumption)) ?_ | refine yp (fun _ _ => pix rfl (tyS rfl)) ?_) <;> (first | refine yp (fun _ _ => po_ner rfl rfl rfl) ?_ | refine yp (fun _ _ => po_nnil_p0 rfl rfl (by kernel_rfl)) ?_ | refine yp (fun _ _ => po_load_ntn rfl rfl (tyT rfl) rfl) ?_ | refine yp (fun _ _ => po_load_ntk rfl rfl (tyT rfl) rfl (by first | assumption | omega) (by assumption) rfl) ?_ | refine yp (fun _ _ => po_load_bx rfl rfl (tyT rfl) rfl rfl) ?_ | refine yp (fun _ _ => po_load rfl rfl (tyT rfl) rfl) ?_) <;> (first | refine yp (fun _ _ => po_ner rfl rfl rfl) ?_ | refine yp (fun _ _ => po_nnil_p0 rfl rfl (by kernel_rfl)) ?_ | refine yp (fun _ _ => po_field_bx rfl rfl (tyF rfl)) ?_) <;> (first | refine yp (fun _ _ => po_ner rfl rfl rfl) ?_ | refine yp (fun _ _ => po_nnil_p0 rfl rfl (by kernel_rfl)) ?_ | refine yp (fun _ _ => po_load_ntn rfl rfl (tyT rfl) rfl) ?_ | refine yp (fun _ _ => po_load_ntk rfl rfl (tyT rfl) rfl (by first | assumption | omega) (by assumption) rfl) ?_ | refine yp (fun _ _ => po_load_bx rfl rfl (tyT rfl) rfl rfl) ?_) <;> (first | refine yp (fun _ _ => po_ner rfl rfl rfl) ?_ | refine yp (fun _ _ => po_nnil_p0 rfl rfl (by kernel_rfl)) ?_ | refine yp (fun _ _ => po_field_bx rfl rfl (tyF rfl)) ?_) <;> (first | refine yp (fun _ _ => po_ner rfl rfl rfl) ?_ | refine yp (fun _ _ => po_nnil_p0 rfl rfl (by kernel_rfl)) ?_ | refine yp (fun _ _ => po_load_ntn rfl rfl (tyT rfl) rfl) ?_ | refine yp (fun _ _ => po_load_ntk rfl rfl (tyT rfl) rfl (by first | assumption | omega) (by assumption) rfl) ?_ | refine yp (fun _ _ => po_load_bx rfl rfl (tyT rfl) rfl rfl) ?_) <;> (refine sany_eff [] [] (.free rfl rfl) rfl rfl (fun _ _ hb ho => (e_lcall (d2) (fun i => i) (fun i => i) rfl (by ((repeat' (first | exact .nil | refine .cons rfl rfl rfl ?_)) <;> fail)) .nil .nil rfl rfl (by ((repeat' (exact .nil)) <;> fail)) (by ((repeat' (exact .nil)) <;> fail)) .nil)) ?_) <;> (first | refine yp (fun _ _ => po_ner rfl rfl rfl) ?_ | refine yp (fun _ _ => po_nnil_p0 rfl rfl (by kernel_rfl)) ?_ | refine yp (fun _ _ => po_inc rfl rfl rfl (by omega)) ?_ | refine yp (fun _ _ => po_arith rfl rfl rfl (ar_add (by rfl) rfl)) ?_) <;> (first | refine yp (fun _ _ => po_ner rfl rfl rfl) ?_ | refine yp (fun _ _ => po_nnil_p0 rfl rfl (by kernel_rfl)) ?_ | refine yp (fun _ _ => po_move rfl rfl) ?_) <;> (first | refine yp (fun _ _ => po_ner rfl rfl rfl) ?_ | refine yp (fun _ _ => po_nnil_p0 rfl rfl (by kernel_rfl)) ?_ | refine yp (fun _ _ => po_move rfl rfl) ?_) <;> (first | refine yp (fun _ _ => po_ner rfl rfl rfl) ?_ | refine yp (fun _ _ => po_nnil_p0 rfl rfl (by kernel_rfl)) ?_ | refine yp (fun _ _ => po_index_own rfl rfl rfl (by rfl) rfl (tyS rfl) (by rfl) (by first | assumption | omega)) ?_ | refine yp (fun _ _ => po_index_arr rfl rfl rfl arr69 rfl (by first | omega | assumption)) ?_ | refine yp (fun _ _ => pix rfl (tyS rfl)) ?_) <;> (first | refine yp (fun _ _ => po_ner rfl rfl rfl) ?_ | refine yp (fun _ _ => po_nnil_p0 rfl rfl (by kernel_rfl)) ?_ | refine yp (fun _ _ => po_load_ntn rfl rfl (tyT rfl) rfl) ?_ | refine yp (fun _ _ => po_load_ntk rfl rfl (tyT rfl) rfl (by first | assumption | omega) (by assumption) rfl) ?_ | refine yp (fun _ _ => po_load_bx rfl rfl (tyT rfl) rfl rfl) ?_ | refine yp (fun _ _ => po_load rfl rfl (tyT rfl) rfl) ?_) <;> (refine sany_eff [] [] (.free rfl rfl) rfl rfl (fun _ _ hb ho => (e_lcall (d3) (fun i => i) (fun i => i) rfl (by ((repeat' (first | exact .nil | refine .cons rfl rfl rfl ?_)) <;> fail)) .nil .nil rfl rfl (by ((repeat' (exact .nil)) <;> fail)) (by ((repeat' (exact .nil)) <;> fail)) .nil)) ?_) <;> (first | refine yp (fun _ _ => po_ner rfl rfl rfl) ?_ | refine yp (fun _ _ => po_nnil_p0 rfl rfl (by kernel_rfl)) ?_ | refine yp (fun _ _ => po_inc rfl rfl rfl (by omega)) ?_ | refine yp (fun _ _ => po_arith rfl rfl rfl (ar_add (by rfl) rfl)) ?_) <;> (first | refine yp (fun _ _ => po_ner rfl rfl rfl) ?_ | refine yp (fun _ _ => po_nnil_p0 rfl rfl (by kernel_rfl)) ?_ | refine yp (fun _ _ => po_move rfl rfl) ?_) <;> (first | refine yp (fun _ _ => po_ner rfl rfl rfl) ?_ | refine yp (fun _ _ => po_nnil_p0 rfl rfl (by kernel_rfl)) ?_ | refine yp (fun _ _ => po_move rfl rfl) ?_) <;> (first | refine yp (fun _ _ => po_ner rfl rfl rfl) ?_ | refine yp (fun _ _ => po_nnil_p0 rfl rfl (by kernel_rfl)) ?_ | refine yp (fun _ _ => po_index_own rfl rfl rfl (by rfl) rfl (tyS rfl) (by rfl) (by first | assumption | omega)) ?_ | refine yp (fun _ _ => po_index_arr rfl rfl rfl arr69 rfl (by first | omega | assumption)) ?_ | refine yp (fun _ _ => pix rfl (tyS rfl)) ?_) <;> (first | refine yp (fun _ _ => po_ner rfl rfl rfl) ?_ | refine yp (fun _ _ => po_nnil_p0 rfl rfl (by kernel_rfl)) ?_ | refine yp (fun _ _ => po_load_ntn rfl rfl (tyT rfl) rfl) ?_ | refine yp (fun _ _ => po_load_ntk rfl rfl (tyT rfl) rfl (by first | assumption | omega) (by assumption) rfl) ?_ | refine yp (fun _ _ => po_load_bx rfl rfl (tyT rfl) rfl rfl) ?_ | refine yp (fun _ _ => po_load rfl rfl (tyT rfl) rfl) ?_) <;> (refine sany_eff [] [] (.free rfl rfl) rfl rfl (fun _ _ hb ho => (e_lcall (d4) (fun i => i) (fun i => i) rfl (by ((repeat' (first | exact .nil | refine .cons rfl rfl rfl ?_)) <;> fail)) .nil .nil rfl rfl (by ((repeat' (exact .nil)) <;> fail)) (by ((repeat' (exact .nil)) <;> fail)) .nil)) ?_) <;> (first | refine yp (fun _ _ => po_ner rfl rfl rfl) ?_ | refine yp (fun _ _ => po_nnil_p0 rfl rfl (by kernel_rfl)) ?_ | refine yp (fun _ _ => po_len_own rfl rfl (tyS rfl)) ?_ | refine yp (fun _ _ => pln rfl (tyS rfl)) ?_) <;> (first | refine yp (fun _ _ => po_ner rfl rfl rfl) ?_ | refine yp (fun _ _ => po_nnil_p0 rfl rfl (by kernel_rfl)) ?_ | refine yp (fun _ _ => po_inc rfl rfl rfl (by omega)) ?_ | refine yp (fun _ _ => po_arith rfl rfl rfl (ar_add (by rfl) rfl)) ?_) <;> refine yp (fun _ _ => po_ner rfl rfl rfl) ?_ <;> (first | refine yp (fun _ _ => po_ner rfl rfl rfl) ?_ | refine yp (fun _ _ => po_nnil_p0 rfl rfl (by kernel_rfl)) ?_ | refine yp (fun _ _ => po_move rfl rfl) ?_) <;> (first | refine yp (fun _ _ => po_ner rfl rfl rfl) ?_ | refine yp (fun _ _ => po_nnil_p0 rfl rfl (by kernel_rfl)) ?_ | refine yp (fun _ _ => po_move rfl rfl) ?_) <;> (first | refine yp (fun _ _ => po_ner rfl rfl rfl) ?_ | refine yp (fun _ _ => po_nnil_p0 rfl rfl (by kernel_rfl)) ?_ | refine yp (fun _ _ => po_move rfl rfl) ?_) <;> (first | refine yp (fun _ _ => po_ner rfl rfl rfl) ?_ | refine yp (fun _ _ => po_nnil_p0 rfl rfl (by kernel_rfl)) ?_ | refine yp (fun _ _ => po_index_own rfl rfl rfl (by rfl) rfl (tyS rfl) (by rfl) (by first | assumption | omega)) ?_ | refine yp (fun _ _ => po_index_arr rfl rfl rfl arr69 rfl (by first | omega | assumption)) ?_ | refine yp (fun _ _ => pix rfl (tyS rfl)) ?_) <;> (first | refine yp (fun _ _ => po_ner rfl rfl rfl) ?_ | refine yp (fun _ _ => po_nnil_p0 rfl rfl (by kernel_rfl)) ?_ | refine yp (fun _ _ => po_load_ntn rfl rfl (tyT rfl) rfl) ?_ | refine yp (fun _ _ => po_load_ntk rfl rfl (tyT rfl) rfl (by first | assumption | omega) (by assumption) rfl) ?_ | refine yp (fun _ _ => po_load_bx rfl rfl (tyT rfl) rfl rfl) ?_ | refine yp (fun _ _ => po_load rfl rfl (tyT rfl) rfl) ?_) <;> (refine sany_eff [] [] gy rfl rfl (fun _ _ hb ho => (e_lcall (d5) (fun i => i) (fun i => i) rfl (by ((repeat' (first | exact .nil | refine .cons rfl rfl rfl ?_)) <;> fail)) .nil .nil rfl rfl (by ((repeat' (exact .nil)) <;> fail)) (by ((repeat' (exact .nil)) <;> fail)) .nil)) ?_) <;> (first | refine yp (fun _ _ => po_ner rfl rfl rfl) ?_ | refine yp (fun _ _ => po_nnil_p0 rfl rfl (by kernel_rfl)) ?_) <;> (first | refine yp (fun _ _ => po_ner rfl rfl rfl) ?_ | refine yp (fun _ _ => po_nnil_p0 rfl rfl (by kernel_rfl)) ?_ | refine yp (fun _ _ => pkt rfl) ?_ | refine yp (fun _ _ => pkf rfl) ?_) <;> refine sany_nil ?_) | (refine rg 7 ?_; refine oMv ?_; refine sp (xinc rfl) ?_; refine oAs ?_; refine oN ?_) | refine gc ?_ | refine ct ?_ | refine cf ?_)
  · have hlt' : ¬ ((k : Int) < 2) := by omega
    repeat' (first | (refine rg 6 ?_; refine oMv ?_; refine oMv ?_; (first | refine sp (po_len_own rfl rfl (tyS rfl)) ?_ | refine sp (pln rfl (tyS rfl)) ?_); refine oCm ?_; refine oN ?_) | (refine rg 17 ?_; refine sops_lcall0 (c9) (fun i => i) (.free rfl rfl) rfl rfl rfl (by ((repeat' (exact .nil)) <;> fail)) .nil rfl rfl ?_; refine oAs ?_; refine oN ?_) | refine gc ?_ | refine ct ?_ | refine cf ?_ | refine swp_cond rfl (fun hc => ?_) (fun hc => ?_) | refine rq rfl (rt .nil) ?_)
    rfl
theorem law_ (x : PHop) (hx : x.load.length ≤ big) : PCalls Try.prog 6 [.agg (hopC x)] (.v (.bool true)) := by
  cases hh : heavyP [x] with
  | true => exact law_heavy x hx hh
  | false => exact law_go x hh
end Go.Proofs.Ytgbcmjcaggnobaa.NetNobody
