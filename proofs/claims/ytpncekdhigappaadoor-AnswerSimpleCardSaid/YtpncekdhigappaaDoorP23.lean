/- Merged by bundles.py: SimRq1, SimElt. -/
import Derived.Test.YtpncekdhigappaaDoorP22
import Derived.Test.YtpncekdhigappaaDoorP11
/- The reader of messages: its small steps, walked. -/
namespace Go.Proofs.YtpncekdhigappaaDoor.Rq
set_option linter.unusedVariables false
set_option linter.unusedSimpArgs false
open Go.RowKit Mem Sim Opn Hd
def rawT (r : PRaw) : List T := [.v (.string r.start), headsT r.heads, .sl 1 (r.body.map byteT)]
def rdA (r : PRd) : List A := [.t (.v (.int .i64 r.phase)), .own 1001 (r.line.map byteT).length, .t (.v (.string r.raw.start)), .t (headsT r.raw.heads), .own 1002 (r.raw.body.map byteT).length, .t (.v (.int .i64 r.left)), .t (.v (.int .i64 r.err)), .own 1003 (r.out.map rawT).length]
def rdO (r : PRd) : List (Nat × Own) := [(1001, ⟨5, 1, r.line.map byteT⟩), (1002, ⟨5, 1, r.raw.body.map byteT⟩), (1003, ⟨43, 3, r.out.map rawT⟩)]
set_option maxRecDepth 100000 in
theorem fault_ (r : PRd) (e : Int) : LCalls Tryd.prog 44 [.bp 2000 0, .t (.v (.int .i64 e))] [(2000, rdA r)] (rdO r) (.tu []) [(2000, rdA (faultP r e))] (rdO (faultP r e)) := by
  refine lcalls_of Tryd.func44 rfl rfl Tryd.ntmps44 rfl ?_
  repeat' (first | (refine rg 0 ?_; refine oMv ?_; refine oMv ?_; refine sp (po_nilcheck rfl rfl) ?_; (first | refine oFb ?_ | refine oFd ?_ | refine sp (fdo rfl) ?_); (first | refine oFb ?_ | refine oFd ?_ | refine sp (fdo rfl) ?_); (first | refine oS ?_ | refine sso ?_); refine oN ?_) | refine gc ?_ | refine ct ?_ | refine cf ?_ | refine swp_cond rfl (fun hc => ?_) (fun hc => ?_) | refine retl (by first | exact .inr rfl | exact .inl rfl) rfl .nil ?_ rfl (.cons rfl (by first | rfl | assumption | (symm; assumption)) rfl .nil) (.cons rfl (by first | rfl | assumption | (symm; assumption)) (.cons rfl (by first | rfl | assumption | (symm; assumption)) (.cons rfl (by first | rfl | assumption | (symm; assumption)) .nil))))
  rfl
set_option maxRecDepth 100000 in
theorem start_ (r : PRd) (s : ByteArray) : LCalls Tryd.prog 66 [.bp 2000 0, .t (.v (.string s))] [(2000, rdA r)] (rdO r) (.tu []) [(2000, rdA (startP r s))] (rdO (startP r s)) := by
  refine lcalls_of Tryd.func66 rfl rfl Tryd.ntmps66 rfl ?_
  repeat' (first | (refine rg 0 ?_; refine oMv ?_; refine oMv ?_; refine oMv ?_; refine sp (po_nilcheck rfl rfl) ?_; (first | refine oFb ?_ | refine oFd ?_ | refine sp (fdo rfl) ?_); (first | refine oFb ?_ | refine oFd ?_ | refine sp (fdo rfl) ?_); (first | refine oFb ?_ | refine oFd ?_ | refine sp (fdo rfl) ?_); (first | refine oS ?_ | refine sso ?_); refine sp (po_nilcheck rfl rfl) ?_; (first | refine oFb ?_ | refine oFd ?_ | refine sp (fdo rfl) ?_); (first | refine oFb ?_ | refine oFd ?_ | refine sp (fdo rfl) ?_); (first | refine oS ?_ | refine sso ?_); refine oN ?_) | refine gc ?_ | refine ct ?_ | refine cf ?_ | refine swp_cond rfl (fun hc => ?_) (fun hc => ?_) | refine retl (by first | exact .inr rfl | exact .inl rfl) rfl .nil ?_ rfl (.cons rfl (by first | rfl | assumption | (symm; assumption)) rfl .nil) (.cons rfl (by first | rfl | assumption | (symm; assumption)) (.cons rfl (by first | rfl | assumption | (symm; assumption)) (.cons rfl (by first | rfl | assumption | (symm; assumption)) .nil))))
  rfl
set_option maxRecDepth 100000 in
set_option maxHeartbeats 1000000 in
theorem whole_ (r : PRd) (ho : r.out.length ≤ 1000000) : LCalls Tryd.prog 46 [.bp 2000 0] [(2000, rdA r)] (rdO r) (.tu []) [(2000, rdA (wholeP r))] (rdO (wholeP r)) := by
  have hmo : (r.out.map rawT).length = r.out.length := List.length_map _
  have hb : ((r.out.map rawT).length + 1) * 64 ≤ 140737488355328 := by omega
  have hm : (r.out.map rawT).length + 1 ≤ maxLen := by unfold maxLen; omega
  refine lcalls_of Tryd.func46 rfl rfl Tryd.ntmps46 rfl ?_
  have hA : rdA (wholeP r) = [.t (.v (.int .i64 0)), .own 1001 0, .t (.v (.string ⟨#[]⟩)), .t (.sl 2 []), .own 1002 0, .t (.v (.int .i64 0)), .t (.v (.int .i64 0)), .own 1003 (r.out.map rawT ++ [rawT r.raw]).length] := by
    unfold rdA wholeP; rw [List.map_append]; rfl
  have hO : rdO (wholeP r) = [(1001, ⟨5, 1, []⟩), (1002, ⟨5, 1, []⟩), (1003, ⟨43, 3, r.out.map rawT ++ [rawT r.raw]⟩)] := by
    unfold rdO wholeP; rw [List.map_append]; rfl
  rw [hA, hO]
  refine swp_up ?_
  refine swp_weak (weak_ren 1001 1004 rfl rfl rfl rfl rfl rfl rfl) ?_
  refine swp_weak (weak_ren 1002 2 rfl rfl rfl rfl rfl rfl rfl) ?_
  repeat' (first | refine gc ?_ | refine up_to (((weak_own0_bx 5 1 (i := 2000) (j := 1) (q := 1001) rfl rfl rfl).trans (weak_own0_bx 5 1 (i := 2000) (j := 4) (q := 1002) rfl rfl rfl)).trans (weak_vw_bx 2000 3 rfl rfl (.nil 2))) ?_ | ((refine swp_any (id := 0) [[], [], [], [], [], [], [], [], [], [], [], [1003], [], [], [2000]] [[1003], [], [], [], [], [], [], [], [], [], [], [], [], [], []] mixed (by kernel_rfl) ?_) <;> (refine yp (fun _ _ => po_move rfl rfl) ?_) <;> (refine yp (fun _ _ => po_move rfl rfl) ?_) <;> (refine yp (fun _ _ => po_nilcheck rfl rfl) ?_) <;> (first | refine yp (fun _ _ => po_field_bx rfl rfl (tyF rfl)) ?_ | refine yp (fun _ _ => po_field rfl rfl (tyF rfl)) ?_ | refine yp (fun _ _ => po_field_own rfl rfl rfl (by first | rfl | assumption | omega | (simp; done) | (simp; omega) | (simp at *; omega)) (tyF rfl)) ?_) <;> (first | refine yp (fun _ _ => po_load_bx rfl rfl (tyT rfl) rfl rfl) ?_ | refine yp (fun _ _ => po_load rfl rfl (tyT rfl) rfl) ?_ | refine yp (fun _ _ => po_load_own rfl rfl rfl (by first | rfl | assumption | omega | (simp; done) | (simp; omega) | (simp at *; omega)) (tyT rfl) (by first | rfl | assumption | exact map_at (by first | assumption | omega)) rfl) ?_) <;> (refine yp (fun _ _ => po_move rfl rfl) ?_) <;> (refine yp (fun _ _ => po_nilcheck rfl rfl) ?_) <;> (first | refine yp (fun _ _ => po_field_bx rfl rfl (tyF rfl)) ?_ | refine yp (fun _ _ => po_field rfl rfl (tyF rfl)) ?_ | refine yp (fun _ _ => po_field_own rfl rfl rfl (by first | rfl | assumption | omega | (simp; done) | (simp; omega) | (simp at *; omega)) (tyF rfl)) ?_) <;> (first | refine yp (fun _ _ => po_field_bx rfl rfl (tyF rfl)) ?_ | refine yp (fun _ _ => po_field rfl rfl (tyF rfl)) ?_ | refine yp (fun _ _ => po_field_own rfl rfl rfl (by first | rfl | assumption | omega | (simp; done) | (simp; omega) | (simp at *; omega)) (tyF rfl)) ?_) <;> (first | refine yp (fun _ _ => po_load_bx_agg rfl rfl (tyT rfl) rfl (vc (vc (vc .nil))) rfl) ?_ | refine yp (fun _ _ => po_load_agg rfl rfl (tyT rfl) rfl rfl) ?_ | refine yp (fun _ _ => po_load_own_agg rfl rfl rfl (by first | rfl | assumption | omega | (simp; done) | (simp; omega) | (simp at *; omega)) (tyT rfl) (by first | rfl | assumption | exact map_at (by first | assumption | omega)) rfl rfl) ?_ | refine yp (fun _ _ => po_load_bx_ag rfl rfl (tyT rfl) rfl rfl rfl rfl) ?_) <;> (refine yp (fun _ _ => po_buildSlice rfl (tyE rfl) (dc (.nil _)) rfl rfl rfl) ?_) <;> (refine sany_eff [] [(1003, _)] (.free rfl rfl) rfl rfl (fun _ _ _ _ => e_append rfl rfl rfl (by first | rfl | simp) rfl (by first | exact .t _ | exact .own rfl (by first | rfl | assumption | (simp; done) | (simp; omega)) | exact .nil _ | exact .emp _ | exact .fn _) (tyE rfl) (by first | assumption | (simp at *; omega)) (by first | assumption | (simp [maxLen] at *; omega))) ?_) <;> (refine yp (fun _ _ => po_nilcheck rfl rfl) ?_) <;> (first | refine yp (fun _ _ => po_field_bx rfl rfl (tyF rfl)) ?_ | refine yp (fun _ _ => po_field rfl rfl (tyF rfl)) ?_ | refine yp (fun _ _ => po_field_own rfl rfl rfl (by first | rfl | assumption | omega | (simp; done) | (simp; omega) | (simp at *; omega)) (tyF rfl)) ?_) <;> (first | refine sany_eff [(2000, _)] [] (.free rfl rfl) rfl rfl (fun _ _ _ _ => e_store rfl rfl rfl rfl rfl rfl (tyT rfl) rfl rfl) ?_ | refine sany_eff [] [(2000, _)] (.free rfl rfl) rfl rfl (fun _ _ _ _ => yso rfl) ?_) <;> (refine sany_nil ?_)) | (refine rg 1 ?_; refine oMv ?_; refine sp (po_buildS str57 rfl .nil rfl) ?_; refine sp (po_nilcheck rfl rfl) ?_; (first | refine oFb ?_ | refine oFd ?_ | refine sp (fdo rfl) ?_); (first | refine oS ?_ | refine sso ?_); refine oN ?_) | refine ct ?_ | refine cf ?_ | refine swp_cond rfl (fun hc => ?_) (fun hc => ?_) | refine retl (by first | exact .inr rfl | exact .inl rfl) rfl .nil ?_ rfl (.cons rfl (by first | rfl | assumption | (symm; assumption)) rfl .nil) (.cons rfl (by first | rfl | assumption | (symm; assumption)) (.cons rfl (by first | rfl | assumption | (symm; assumption)) (.cons rfl (by first | rfl | assumption | (symm; assumption)) .nil))))
  rfl
end Go.Proofs.YtpncekdhigappaaDoor.Rq

/- A logic of states: an array value's element. -/
namespace Go.Proofs.YtpncekdhigappaaDoor.Sim
set_option linter.unusedVariables false
set_option linter.unusedSimpArgs false
open Go.RowKit Mem
/-- an array of scalars: how many, an element's cells -/
def elt1 (P : Program) (t : TypeId) : Option (Nat × Nat) := match P.underlying t with
  | some (.array n e) => match tyI P e with
    | some (false, sz) => some (n, sz)
    | _ => none
  | _ => none
theorem elt1_spec {P : Program} {t n sz : Nat} (h : elt1 P t = some (n, sz)) : ∃ e, P.underlying t = some (.array n e) ∧ tyI P e = some (false, sz) := by
  unfold elt1 at h
  split at h
  · rename_i n' e hu
    split at h
    · rename_i k ht; injection h with h; injection h with h1 h2; subst h1 h2; exact ⟨e, hu, ht⟩
    · cases h
  · cases h
section
variable {P : Program} {bx : List (Nat × List A)} {ow : List (Nat × Own)} {o : Oper} {ρ : Operand → Option A} {r : A}
theorem po_elt {ty n sz k : Nat} {x ix : Operand} {cs : List T} {t : T} {j : Int} {ik : IntKind} (ho : o.op = .index ty x ix) (hx : ρ x = some (.t (.agg cs))) (hi : ρ ix = some (.t (.v (.int ik j)))) (hT : elt1 P ty = some (n, sz)) (hj : j = (k : Int)) (hk : k < n) (ht : cs[k * sz]? = some t) : PureOp P bx ow o ρ (.t t) := pure_run fun C m g w a he h => by
  have h1 : TR m (.agg cs) (a.eval x) := h x (by simp [ho, Op.operands]) _ hx
  have h2 := tr_v (h ix (by simp [ho, Op.operands]) _ hi)
  obtain ⟨e, hu, hT'⟩ := elt1_spec hT
  obtain ⟨d, i, hu', hie, hd, hs⟩ := tyI_spec hT'
  generalize hv : a.eval x = v at h1
  subst hj
  have hlt : (k : Int) < (n : Int) := by omega
  cases h1 with
  | agg _ vs hl h4 h3 =>
    have hlt2 : k * sz < vs.size := by rw [hl]; exact (List.getElem?_eq_some_iff.1 ht).1
    have hagg : (isAgg e).run P w = .ok false w := by
      unfold isAgg
      rw [Sem.run_bind, run_underlying hu' w]
      cases d <;> simp_all
    refine ⟨vs[k * sz], ?_, h3 (k * sz) t _ ht (by simp [hlt2])⟩
    simp [execOp, ho, hv, h2, Instr.index, asIntOf, run_underlying hu, sizeOf, typeInfo, hie, hs, part, hagg, hlt, hk, hlt2]
end
end Go.Proofs.YtpncekdhigappaaDoor.Sim
