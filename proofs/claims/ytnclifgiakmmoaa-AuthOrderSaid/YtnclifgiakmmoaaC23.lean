/- Merged by bundles.py: SimCopyP, OpenReq. -/
import Derived.Test.YtnclifgiakmmoaaC17
import Derived.Test.YtnclifgiakmmoaaC22
import Derived.Test.YtnclifgiakmmoaaC10
import Derived.Test.YtnclifgiakmmoaaC11
import Derived.Lib.SliceRun
import Derived.Test.YtnclifgiakmmoaaC8
/- The document's copy of a policy: its rules are a row of the caller's own. -/
namespace Go.Proofs.Ytnclifgiakmmoaa.Pol
set_option linter.unusedVariables false
set_option linter.unusedSimpArgs false
open Go.RowKit Mem Sim Opn
def CL0 (p : Pl.Policy) (k : Nat) : St := ⟨[(1, .bp 1 0), (2, .bp 2 0), (3, .own 1003 ((p.rules.take k).map ruleT).length), (4, .t (.v (.int .i64 (k : Int))))], [(1, pcells p), (2, [.t (.v (.int .u64 0)), .t (.v (.string ⟨#[]⟩)), .t (.v (.int .u64 0)), .t (.v (.int .i64 0)), nil0])], [(1003, ⟨31, 3, (p.rules.take k).map ruleT⟩)]⟩
def polL (p : Pl.Policy) (i : Nat) : List A := [.t (.v (.int .u64 p.id)), .t (.v (.string p.ns)), .t (.v (.int .u64 p.service)), .t (.v (.int .i64 p.deny)), .own i (p.rules.map ruleT).length]
set_option maxRecDepth 100000 in
set_option maxHeartbeats 2000000 in
theorem copyL_ (p : Pl.Policy) (hf : FewP p) : LCalls Try.prog 10 [.t (.agg (polT p))] [] [] (.ag (polL p 1003)) [] [(1003, ⟨31, 3, p.rules.map ruleT⟩)] := by
  have hm1 : (p.rules.map ruleT).length = p.rules.length := List.length_map _
  have n1 := hf.n
  refine lcalls_of Try.func10 rfl rfl Try.ntmps10 rfl ?_
  repeat' (first | (refine rg 0 ?_; refine sbx ?_; refine sal str26 ?_; refine oN ?_) | (refine rg 1 ?_; refine oAs ?_; refine oN ?_) | (refine rg 2 ?_; refine oAs ?_; refine oN ?_) | refine gc ?_ | refine ct ?_ | refine cf ?_ | refine swp_cond rfl (fun hc => ?_) (fun hc => ?_) | refine rq rfl (.cell rfl rfl (tyT rfl) (vc (vc (vc (vc (vc .nil))))) rfl .nil) ?_)
  refine swp_for (CL0 p) (fun _ => True) p.rules.length ?_ trivial ?_
  · refine Weak.trans (weak_own0 (i := 1003) 31 3 (s := 3) rfl rfl) ?_
    exact (weak_sub (.cons rfl rfl rfl (.cons rfl rfl rfl (.cons rfl rfl rfl (.cons rfl rfl rfl .nil)))) (.cons rfl rfl rfl (.cons rfl rfl rfl .nil)) (.cons rfl rfl .nil))
  intro k hk _
  unfold CL0
  by_cases hlt : k < p.rules.length
  · have c1 := copyRule_ p.rules[k] (hf.r _ (List.getElem_mem hlt))
    have hsn := map_take_succ ruleT hlt
    have g1 : (((p.rules.take k).map ruleT).length + 1) * 72 ≤ 140737488355328 := by rw [List.length_map, List.length_take]; omega
    repeat' (first | refine for_next hlt (weak_sub (.cons rfl (by rfl) rfl (.cons rfl (by rfl) rfl (.cons rfl (by first | rfl | (rw [hsn]; try rfl)) rfl (.cons rfl (by rfl) rfl .nil)))) (.cons rfl (by rfl) rfl (.cons rfl (by rfl) rfl .nil)) (.cons rfl (by first | rfl | (rw [hsn]; try rfl)) .nil)) trivial | (refine rg 3 ?_; refine oMv ?_; refine oFb ?_; refine oLb ?_; (first | refine sp (po_len_own rfl rfl (tyS rfl)) ?_ | refine sp (pln rfl (tyS rfl)) ?_); refine oCm ?_; refine oN ?_) | (refine rg 5 ?_; refine oMv ?_; refine oFb ?_; refine oLb ?_; refine oMv ?_; (first | refine sp (ixo rfl) ?_ | refine sp (pix rfl (tyS rfl)) ?_); (first | refine sp (po_load_bx_agg rfl rfl (tyT rfl) rfl (vc (vc (vc .nil))) rfl) ?_ | refine sp (po_load_agg rfl rfl (tyT rfl) rfl rfl) ?_); refine oC (c1) rfl (ac .nil) ?_; refine sp (po_buildSlice rfl (tyE rfl) (dc (.nil _)) rfl rfl rfl) ?_; refine sap rfl (tyE rfl) ?_; refine oAs ?_; refine oN ?_) | (refine rg 4 ?_; refine oMv ?_; refine sp (xinc rfl) ?_; refine oAs ?_; refine oN ?_) | refine gc ?_ | refine ct ?_)
  · obtain rfl : k = p.rules.length := by omega
    rw [List.take_length]
    repeat' (first | (refine rg 3 ?_; refine oMv ?_; refine oFb ?_; refine oLb ?_; (first | refine sp (po_len_own rfl rfl (tyS rfl)) ?_ | refine sp (pln rfl (tyS rfl)) ?_); refine oCm ?_; refine oN ?_) | (refine rg 6 ?_; refine oMv ?_; refine oFb ?_; refine oS ?_; refine oN ?_) | (refine rg 7 ?_; (first | refine sp (po_load_bx_agg rfl rfl (tyT rfl) rfl (vc (vc (vc (vc (vc .nil))))) rfl) ?_ | refine sp (po_load_agg rfl rfl (tyT rfl) rfl rfl) ?_ | refine sp (lda rfl) ?_ | refine sp (po_load_bx_ag rfl rfl (tyT rfl) rfl rfl rfl rfl) ?_); refine oS ?_; refine oN ?_) | refine gc ?_ | refine ct ?_ | refine cf ?_ | refine swp_cond rfl (fun hc => ?_) (fun hc => ?_) | refine retl (by exact .inr rfl) rfl (.cell rfl rfl (tyT rfl) rfl rfl .nil) ?_ rfl .nil (.cons rfl (by rfl) .nil))
    all_goals rfl
end Go.Proofs.Ytnclifgiakmmoaa.Pol

/- Askers and requests opened. -/
namespace Go.Proofs.Ytnclifgiakmmoaa.Opn
set_option linter.unusedVariables false
set_option linter.unusedSimpArgs false
open Go.RowKit Go.WideShapes Go.ChangeShapes Go.Joins Mem WMatch
set_option maxRecDepth 100000

/-- a struct handed in -/
theorem open_struct_arg {α : Type} {t : TypeId} {fs : Array Field} {R : Rel α} (ht : Try.prog.underlying t = some (.struct fs)) (hO : Opens t R) {H : Type} {enc : TypeId × Value → H} {w : World} {r : Reach} {b0 base : Nat} {spare : Nat → Bool} {held : Bool} {v : Value} {d : DataW H} {p : List MemPlace}
    (hv : Value.okWide Try.prog w r b0 t v) (h : DataW.Trod enc Try.prog w base spare held t v d p) :
    ∃ (cs : Array Value) (y : α), v = .agg cs ∧ R w.heap.size w y cs.toList := by
  obtain ⟨cs, rfl, _⟩ := okWide_struct ht hv
  obtain ⟨fuel, hf⟩ := h
  obtain ⟨y, hy⟩ := hO H enc w base spare held fuel _ _ hf
  exact ⟨cs, y, rfl, hy⟩
theorem arr_of_list {α : Type} {a : Array α} {l : List α} (h : a.toList = l) : a = l.toArray := by subst h; simp

/-- a number handed in -/
theorem open_int_arg {t : TypeId} {k : IntKind} (ht : Try.prog.underlying t = some (.int k)) {H : Type} {enc : TypeId × Value → H} {w : World} {r : Reach} {b0 base : Nat} {spare : Nat → Bool} {held : Bool} {v : Value} {d : DataW H} {p : List MemPlace}
    (hv : Value.okWide Try.prog w r b0 t v) (h : DataW.Trod enc Try.prog w base spare held t v d p) : ∃ n, v = .int k n ∧ (Lit.int k n).wf = true := by
  obtain ⟨n, rfl⟩ := okWide_int ht hv
  obtain ⟨fuel, hf⟩ := h
  obtain ⟨m, hm, _, hw⟩ := DataW.trod_int ht hf
  simp [Value.cells] at hm
  subst hm
  exact ⟨_, rfl, hw⟩
theorem cells_Name : Try.prog.cellsOf 33 = 2 := by kernel_rfl
theorem cells_Asker : Try.prog.cellsOf 36 = 3 := by kernel_rfl
theorem cells_Request : Try.prog.cellsOf 40 = 7 := by kernel_rfl
theorem one_l_api_Head : Try.prog.cellsOf 37 = 1 := by kernel_rfl
theorem one_l_uint8 : Try.prog.cellsOf 38 = 1 := by kernel_rfl
theorem one_uint8 : Try.prog.cellsOf 5 = 1 := by kernel_rfl

def NameR : Rel (ByteArray × ByteArray) := fun _ _ x cs => cs = [.string x.1, .string x.2] ∧ x.1.size ≤ maxLen ∧ x.2.size ≤ maxLen
theorem name_opens : Opens 33 NameR := by
  intro H enc w base spare held fuel cs x h
  obtain ⟨xs, n, _, hx, hlen, hxl, hf⟩ := DataW.trod_struct Try.underlying33 h
  have hl := hlen.trans cells_Name
  obtain ⟨c0, c1, rfl⟩ : ∃ c0 c1, cs = [c0, c1] := by
    match cs, hl with
    | [c0, c1], _ => exact ⟨c0, c1, rfl⟩
  obtain ⟨y0, y1, rfl⟩ : ∃ y0 y1, xs = [y0, y1] := by
    match xs, hxl with
    | [y0, y1], _ => exact ⟨y0, y1, rfl⟩
  have f0 : DataW.trod enc Try.prog w base spare held n 9 [c0] = some y0 := by
    have := hf 0 _ rfl
    simpa [one_string] using this
  obtain ⟨v0, r0, z0⟩ := (opens_str Try.underlying9) H enc w base spare held n [c0] y0 f0
  have f1 : DataW.trod enc Try.prog w base spare held n 9 [c1] = some y1 := by
    have := hf 1 _ rfl
    simpa [one_string] using this
  obtain ⟨v1, r1, z1⟩ := (opens_str Try.underlying9) H enc w base spare held n [c1] y1 f1
  injection r0 with r0; injection r1 with r1; subst r0 r1
  exact ⟨(v0, v1), rfl, z0, z1⟩

def AskerR : Rel (ByteArray × ByteArray × Int) := fun _ _ x cs => cs = [.string x.1, .string x.2.1, .int .u32 x.2.2] ∧ x.1.size ≤ maxLen ∧ x.2.1.size ≤ maxLen ∧ (Lit.int .u32 x.2.2).wf = true
theorem asker_opens : Opens 36 AskerR := by
  intro H enc w base spare held fuel cs x h
  obtain ⟨xs, n, _, hx, hlen, hxl, hf⟩ := DataW.trod_struct Try.underlying36 h
  have hl := hlen.trans cells_Asker
  obtain ⟨c0, c1, c2, rfl⟩ : ∃ c0 c1 c2, cs = [c0, c1, c2] := by
    match cs, hl with
    | [c0, c1, c2], _ => exact ⟨c0, c1, c2, rfl⟩
  obtain ⟨y0, y1, rfl⟩ : ∃ y0 y1, xs = [y0, y1] := by
    match xs, hxl with
    | [y0, y1], _ => exact ⟨y0, y1, rfl⟩
  have f0 : DataW.trod enc Try.prog w base spare held n 33 [c0, c1] = some y0 := by
    have := hf 0 _ rfl
    simpa [cells_Name] using this
  obtain ⟨v0, r0, z0, z1⟩ := name_opens H enc w base spare held n [c0, c1] y0 f0
  have f1 : DataW.trod enc Try.prog w base spare held n 34 [c2] = some y1 := by
    have := hf 1 _ rfl
    simpa [one_uint32, cells_Name] using this
  obtain ⟨v1, r1, z2⟩ := (opens_int Try.underlying34) H enc w base spare held n [c2] y1 f1
  injection r0 with r0 r0'; injection r0' with r0'; injection r1 with r1; subst r0 r0' r1
  exact ⟨(v0.1, v0.2, v1), rfl, z0, z1, z2⟩

structure Pl7 where
  method : ByteArray
  target : ByteArray
  path : ByteArray
  query : ByteArray
  host : ByteArray
  heads : List Pl.Head
  body : List Int
def ReqR : Rel Pl7 := fun B w x cs => ∃ c5 c6, cs = [.string x.method, .string x.target, .string x.path, .string x.query, .string x.host, c5, c6] ∧ x.method.size ≤ maxLen ∧ x.target.size ≤ maxLen ∧ x.path.size ≤ maxLen ∧ x.query.size ≤ maxLen ∧ x.host.size ≤ maxLen ∧ (SliceC HeadR 2) B w x.heads [c5] ∧ (SliceC (IntC .u8) 1) B w x.body [c6]
theorem req_opens : Opens 40 ReqR := by
  intro H enc w base spare held fuel cs x h
  obtain ⟨xs, n, _, hx, hlen, hxl, hf⟩ := DataW.trod_struct Try.underlying40 h
  have hl := hlen.trans cells_Request
  obtain ⟨c0, c1, c2, c3, c4, c5, c6, rfl⟩ : ∃ c0 c1 c2 c3 c4 c5 c6, cs = [c0, c1, c2, c3, c4, c5, c6] := by
    match cs, hl with
    | [c0, c1, c2, c3, c4, c5, c6], _ => exact ⟨c0, c1, c2, c3, c4, c5, c6, rfl⟩
  obtain ⟨y0, y1, y2, y3, y4, y5, y6, rfl⟩ : ∃ y0 y1 y2 y3 y4 y5 y6, xs = [y0, y1, y2, y3, y4, y5, y6] := by
    match xs, hxl with
    | [y0, y1, y2, y3, y4, y5, y6], _ => exact ⟨y0, y1, y2, y3, y4, y5, y6, rfl⟩
  have f0 : DataW.trod enc Try.prog w base spare held n 9 [c0] = some y0 := by
    have := hf 0 _ rfl
    simpa [one_string] using this
  have f1 : DataW.trod enc Try.prog w base spare held n 9 [c1] = some y1 := by
    have := hf 1 _ rfl
    simpa [one_string] using this
  have f2 : DataW.trod enc Try.prog w base spare held n 9 [c2] = some y2 := by
    have := hf 2 _ rfl
    simpa [one_string] using this
  have f3 : DataW.trod enc Try.prog w base spare held n 9 [c3] = some y3 := by
    have := hf 3 _ rfl
    simpa [one_string] using this
  have f4 : DataW.trod enc Try.prog w base spare held n 9 [c4] = some y4 := by
    have := hf 4 _ rfl
    simpa [one_string] using this
  have f5 : DataW.trod enc Try.prog w base spare held n 37 [c5] = some y5 := by
    have := hf 5 _ rfl
    simpa [one_string, one_l_api_Head] using this
  have f6 : DataW.trod enc Try.prog w base spare held n 38 [c6] = some y6 := by
    have := hf 6 _ rfl
    simpa [one_string, one_l_api_Head, one_l_uint8] using this
  obtain ⟨v0, r0, z0⟩ := (opens_str Try.underlying9) H enc w base spare held n [c0] y0 f0
  obtain ⟨v1, r1, z1⟩ := (opens_str Try.underlying9) H enc w base spare held n [c1] y1 f1
  obtain ⟨v2, r2, z2⟩ := (opens_str Try.underlying9) H enc w base spare held n [c2] y2 f2
  obtain ⟨v3, r3, z3⟩ := (opens_str Try.underlying9) H enc w base spare held n [c3] y3 f3
  obtain ⟨v4, r4, z4⟩ := (opens_str Try.underlying9) H enc w base spare held n [c4] y4 f4
  obtain ⟨v5, r5⟩ := (opens_slice (R := HeadR) Try.underlying37 cells_Head (by omega) head_opens) H enc w base spare held n [c5] y5 f5
  obtain ⟨v6, r6⟩ := (opens_slice (R := IntC .u8) Try.underlying38 one_uint8 (by omega) (opens_int Try.underlying5)) H enc w base spare held n [c6] y6 f6
  injection r0 with r0; injection r1 with r1; injection r2 with r2; injection r3 with r3; injection r4 with r4
  subst r0 r1 r2 r3 r4
  exact ⟨⟨v0, v1, v2, v3, v4, v5, v6⟩, c5, c6, rfl, z0, z1, z2, z3, z4, r5, r6⟩
end Go.Proofs.Ytnclifgiakmmoaa.Opn
