/- Merged by bundles.py: Rel13, SimM. -/
import Derived.Test.YtnclifgiakmmoaaC7
import Derived.Test.YtnclifgiakmmoaaC6
/- Policies in memory: relations, kept, opened. -/
namespace Go.Proofs.Ytnclifgiakmmoaa.Pl
set_option linter.unusedVariables false
set_option linter.unusedSimpArgs false
structure Cidr where
  addr : Int
  bits : Int
deriving Inhabited
structure Source where
  names : List Term
  spaces : List Term
  nets : List Cidr
deriving Inhabited
structure Target where
  ports : List Int
  methods : List Term
  paths : List Term
  hosts : List Term
deriving Inhabited
structure When where
  head : ByteArray
  terms : List Term
deriving Inhabited
structure Rule where
  from_ : List Source
  to_ : List Target
  when_ : List When
deriving Inhabited
structure Policy where
  id : Int
  ns : ByteArray
  service : Int
  deny : Int
  rules : List Rule
deriving Inhabited
structure Head where
  name : ByteArray
  value : ByteArray
deriving Inhabited

end Go.Proofs.Ytnclifgiakmmoaa.Pl
namespace Go.Proofs.Ytnclifgiakmmoaa.Mem
set_option linter.unusedVariables false
set_option linter.unusedSimpArgs false
open Go.RowKit

/-- one cell, a slice -/
def SliceC {α : Type} (R : Rel α) (sz : Nat) : Rel (List α) := fun B w xs cs => ∃ A cap, cs = [.slice A xs.length cap] ∧ SliceAt R sz B w A xs ∧ xs.length ≤ cap ∧ cap ≤ maxLen
theorem SliceC.kept {α : Type} {R : Rel α} {sz : Nat} (hR : Kept R) : Kept (SliceC R sz) := by
  rintro B B' w w' x cs ⟨A, cap, rfl, h, h1, h2⟩ hk hB
  exact ⟨A, cap, rfl, h.keep hR hk hB, h1, h2⟩
/-- one cell, a number -/
def IntC (k : IntKind) : Rel Int := fun _ _ x cs => cs = [.int k x] ∧ (Lit.int k x).wf = true
theorem IntC.kept (k : IntKind) : Kept (IntC k) := fun _ _ _ _ _ _ h _ _ => h
/-- one cell, a text -/
def StrC : Rel ByteArray := fun _ _ s cs => cs = [.string s] ∧ s.size ≤ maxLen
theorem StrC.kept : Kept StrC := fun _ _ _ _ _ _ h _ _ => h
end Go.Proofs.Ytnclifgiakmmoaa.Mem
namespace Go.Proofs.Ytnclifgiakmmoaa.Opn
set_option linter.unusedVariables false
set_option linter.unusedSimpArgs false
open Go.RowKit Go.WideShapes Go.ChangeShapes Go.Joins Mem WMatch
set_option maxRecDepth 100000

theorem opens_int {t : TypeId} {k : IntKind} (ht : Try.prog.underlying t = some (.int k)) : Opens t (IntC k) := by
  intro H enc w base spare held fuel cs x h
  obtain ⟨n, rfl, _, hw⟩ := DataW.trod_int ht h
  exact ⟨n, rfl, hw⟩
theorem opens_str {t : TypeId} (ht : Try.prog.underlying t = some .string) : Opens t StrC := by
  intro H enc w base spare held fuel cs x h
  obtain ⟨s, rfl, _, hw⟩ := DataW.trod_string ht h
  exact ⟨s, rfl, hw⟩
theorem opens_slice {α : Type} [Inhabited α] {t e sz : Nat} {R : Rel α} (ht : Try.prog.underlying t = some (.slice e)) (hC : Try.prog.cellsOf e = sz) (hsz : 0 < sz) (hR : Opens e R) : Opens t (SliceC R sz) := by
  intro H enc w base spare held fuel cs x h
  obtain ⟨A, cap, xs, rfl, hA, h1, h2⟩ := slice_opens ht hC hsz hR h
  exact ⟨xs, A, cap, rfl, hA, h1, h2⟩
/-- a slice handed in -/
theorem open_slice_arg {α : Type} {t e : TypeId} {R : Rel α} {sz : Nat} (ht : Try.prog.underlying t = some (.slice e)) (hO : Opens t (SliceC R sz)) {H : Type} {enc : TypeId × Value → H} {w : World} {r : Reach} {b0 base : Nat} {spare : Nat → Bool} {held : Bool} {v : Value} {d : DataW H} {p : List MemPlace}
    (hv : Value.okWide Try.prog w r b0 t v) (h : DataW.Trod enc Try.prog w base spare held t v d p) :
    ∃ (A : Option Addr) (cap : Nat) (xs : List α), v = .slice A xs.length cap ∧ SliceAt R sz w.heap.size w A xs ∧ xs.length ≤ cap ∧ cap ≤ maxLen := by
  obtain ⟨a, len, c, rfl⟩ := okWide_slice ht hv
  obtain ⟨fuel, hf⟩ := h
  obtain ⟨xs, A, cap, hcs, hA, h1, h2⟩ := hO H enc w base spare held fuel _ _ hf
  simp [Value.cells] at hcs
  obtain ⟨rfl, rfl, rfl⟩ := hcs
  exact ⟨_, _, xs, rfl, hA, h1, h2⟩
theorem cells_Term : Try.prog.cellsOf 70 = 2 := Post.Try.cellsTerm
theorem one_int : Try.prog.cellsOf 3 = 1 := by kernel_rfl
theorem one_string : Try.prog.cellsOf 9 = 1 := by kernel_rfl
theorem one_uint32 : Try.prog.cellsOf 34 = 1 := by kernel_rfl
theorem one_uint64 : Try.prog.cellsOf 23 = 1 := by kernel_rfl
theorem one_l_int : Try.prog.cellsOf 56 = 1 := by kernel_rfl
theorem one_l_api_Term : Try.prog.cellsOf 52 = 1 := by kernel_rfl
theorem one_l_api_Cidr : Try.prog.cellsOf 53 = 1 := by kernel_rfl
theorem one_l_api_Source : Try.prog.cellsOf 27 = 1 := by kernel_rfl
theorem one_l_api_Target : Try.prog.cellsOf 28 = 1 := by kernel_rfl
theorem one_l_api_When : Try.prog.cellsOf 29 = 1 := by kernel_rfl
theorem one_l_api_Rule : Try.prog.cellsOf 24 = 1 := by kernel_rfl
def CidrR : Rel Pl.Cidr := fun B w x cs => ∃ c0 c1, cs = [c0, c1] ∧ (IntC .u32) B w x.addr [c0] ∧ (IntC .i64) B w x.bits [c1]
theorem CidrR.kept : Kept CidrR := by
  rintro B B' w w' x cs ⟨c0, c1, rfl, h0, h1⟩ hk hB
  exact ⟨c0, c1, rfl, (IntC.kept .u32) _ _ _ _ _ _ h0 hk hB, (IntC.kept .i64) _ _ _ _ _ _ h1 hk hB⟩
theorem cells_Cidr : Try.prog.cellsOf 87 = 2 := by kernel_rfl
set_option maxRecDepth 100000 in
theorem cidr_opens : Opens 87 CidrR := by
  intro H enc w base spare held fuel cs x h
  obtain ⟨xs, n, _, hx, hlen, hxl, hf⟩ := DataW.trod_struct Try.underlying87 h
  have hl := hlen.trans cells_Cidr
  obtain ⟨c0, c1, rfl⟩ : ∃ c0 c1, cs = [c0, c1] := by
    match cs, hl with
    | [c0, c1], _ => exact ⟨c0, c1, rfl⟩
  obtain ⟨y0, y1, rfl⟩ : ∃ y0 y1, xs = [y0, y1] := by
    match xs, hxl with
    | [y0, y1], _ => exact ⟨y0, y1, rfl⟩
  have f0 : DataW.trod enc Try.prog w base spare held n 34 [c0] = some y0 := by
    have := hf 0 _ rfl
    simpa [one_uint32] using this
  obtain ⟨v0, r0⟩ := (opens_int Try.underlying34) H enc w base spare held n [c0] y0 f0
  have f1 : DataW.trod enc Try.prog w base spare held n 3 [c1] = some y1 := by
    have := hf 1 _ rfl
    simpa [one_int] using this
  obtain ⟨v1, r1⟩ := (opens_int Try.underlying3) H enc w base spare held n [c1] y1 f1
  exact ⟨⟨v0, v1⟩, c0, c1, rfl, r0, r1⟩
def SourceR : Rel Pl.Source := fun B w x cs => ∃ c0 c1 c2, cs = [c0, c1, c2] ∧ (SliceC TermR 2) B w x.names [c0] ∧ (SliceC TermR 2) B w x.spaces [c1] ∧ (SliceC CidrR 2) B w x.nets [c2]
theorem SourceR.kept : Kept SourceR := by
  rintro B B' w w' x cs ⟨c0, c1, c2, rfl, h0, h1, h2⟩ hk hB
  exact ⟨c0, c1, c2, rfl, (SliceC.kept TermR.kept) _ _ _ _ _ _ h0 hk hB, (SliceC.kept TermR.kept) _ _ _ _ _ _ h1 hk hB, (SliceC.kept CidrR.kept) _ _ _ _ _ _ h2 hk hB⟩
theorem cells_Source : Try.prog.cellsOf 55 = 3 := by kernel_rfl
set_option maxRecDepth 100000 in
theorem source_opens : Opens 55 SourceR := by
  intro H enc w base spare held fuel cs x h
  obtain ⟨xs, n, _, hx, hlen, hxl, hf⟩ := DataW.trod_struct Try.underlying55 h
  have hl := hlen.trans cells_Source
  obtain ⟨c0, c1, c2, rfl⟩ : ∃ c0 c1 c2, cs = [c0, c1, c2] := by
    match cs, hl with
    | [c0, c1, c2], _ => exact ⟨c0, c1, c2, rfl⟩
  obtain ⟨y0, y1, y2, rfl⟩ : ∃ y0 y1 y2, xs = [y0, y1, y2] := by
    match xs, hxl with
    | [y0, y1, y2], _ => exact ⟨y0, y1, y2, rfl⟩
  have f0 : DataW.trod enc Try.prog w base spare held n 52 [c0] = some y0 := by
    have := hf 0 _ rfl
    simpa [one_l_api_Term] using this
  obtain ⟨v0, r0⟩ := (opens_slice (R := TermR) Try.underlying52 cells_Term (by omega) term_opens) H enc w base spare held n [c0] y0 f0
  have f1 : DataW.trod enc Try.prog w base spare held n 52 [c1] = some y1 := by
    have := hf 1 _ rfl
    simpa [one_l_api_Term] using this
  obtain ⟨v1, r1⟩ := (opens_slice (R := TermR) Try.underlying52 cells_Term (by omega) term_opens) H enc w base spare held n [c1] y1 f1
  have f2 : DataW.trod enc Try.prog w base spare held n 53 [c2] = some y2 := by
    have := hf 2 _ rfl
    simpa [one_l_api_Cidr] using this
  obtain ⟨v2, r2⟩ := (opens_slice (R := CidrR) Try.underlying53 cells_Cidr (by omega) cidr_opens) H enc w base spare held n [c2] y2 f2
  exact ⟨⟨v0, v1, v2⟩, c0, c1, c2, rfl, r0, r1, r2⟩
def TargetR : Rel Pl.Target := fun B w x cs => ∃ c0 c1 c2 c3, cs = [c0, c1, c2, c3] ∧ (SliceC (IntC .i64) 1) B w x.ports [c0] ∧ (SliceC TermR 2) B w x.methods [c1] ∧ (SliceC TermR 2) B w x.paths [c2] ∧ (SliceC TermR 2) B w x.hosts [c3]
theorem TargetR.kept : Kept TargetR := by
  rintro B B' w w' x cs ⟨c0, c1, c2, c3, rfl, h0, h1, h2, h3⟩ hk hB
  exact ⟨c0, c1, c2, c3, rfl, (SliceC.kept (IntC.kept .i64)) _ _ _ _ _ _ h0 hk hB, (SliceC.kept TermR.kept) _ _ _ _ _ _ h1 hk hB, (SliceC.kept TermR.kept) _ _ _ _ _ _ h2 hk hB, (SliceC.kept TermR.kept) _ _ _ _ _ _ h3 hk hB⟩
theorem cells_Target : Try.prog.cellsOf 58 = 4 := by kernel_rfl
set_option maxRecDepth 100000 in
theorem target_opens : Opens 58 TargetR := by
  intro H enc w base spare held fuel cs x h
  obtain ⟨xs, n, _, hx, hlen, hxl, hf⟩ := DataW.trod_struct Try.underlying58 h
  have hl := hlen.trans cells_Target
  obtain ⟨c0, c1, c2, c3, rfl⟩ : ∃ c0 c1 c2 c3, cs = [c0, c1, c2, c3] := by
    match cs, hl with
    | [c0, c1, c2, c3], _ => exact ⟨c0, c1, c2, c3, rfl⟩
  obtain ⟨y0, y1, y2, y3, rfl⟩ : ∃ y0 y1 y2 y3, xs = [y0, y1, y2, y3] := by
    match xs, hxl with
    | [y0, y1, y2, y3], _ => exact ⟨y0, y1, y2, y3, rfl⟩
  have f0 : DataW.trod enc Try.prog w base spare held n 56 [c0] = some y0 := by
    have := hf 0 _ rfl
    simpa [one_l_int] using this
  obtain ⟨v0, r0⟩ := (opens_slice (R := IntC .i64) Try.underlying56 cells_int (by omega) (opens_int Try.underlying3)) H enc w base spare held n [c0] y0 f0
  have f1 : DataW.trod enc Try.prog w base spare held n 52 [c1] = some y1 := by
    have := hf 1 _ rfl
    simpa [one_l_api_Term] using this
  obtain ⟨v1, r1⟩ := (opens_slice (R := TermR) Try.underlying52 cells_Term (by omega) term_opens) H enc w base spare held n [c1] y1 f1
  have f2 : DataW.trod enc Try.prog w base spare held n 52 [c2] = some y2 := by
    have := hf 2 _ rfl
    simpa [one_l_api_Term] using this
  obtain ⟨v2, r2⟩ := (opens_slice (R := TermR) Try.underlying52 cells_Term (by omega) term_opens) H enc w base spare held n [c2] y2 f2
  have f3 : DataW.trod enc Try.prog w base spare held n 52 [c3] = some y3 := by
    have := hf 3 _ rfl
    simpa [one_l_api_Term] using this
  obtain ⟨v3, r3⟩ := (opens_slice (R := TermR) Try.underlying52 cells_Term (by omega) term_opens) H enc w base spare held n [c3] y3 f3
  exact ⟨⟨v0, v1, v2, v3⟩, c0, c1, c2, c3, rfl, r0, r1, r2, r3⟩
def WhenR : Rel Pl.When := fun B w x cs => ∃ c0 c1, cs = [c0, c1] ∧ StrC B w x.head [c0] ∧ (SliceC TermR 2) B w x.terms [c1]
theorem WhenR.kept : Kept WhenR := by
  rintro B B' w w' x cs ⟨c0, c1, rfl, h0, h1⟩ hk hB
  exact ⟨c0, c1, rfl, StrC.kept _ _ _ _ _ _ h0 hk hB, (SliceC.kept TermR.kept) _ _ _ _ _ _ h1 hk hB⟩
theorem cells_When : Try.prog.cellsOf 60 = 2 := by kernel_rfl
set_option maxRecDepth 100000 in
theorem when_opens : Opens 60 WhenR := by
  intro H enc w base spare held fuel cs x h
  obtain ⟨xs, n, _, hx, hlen, hxl, hf⟩ := DataW.trod_struct Try.underlying60 h
  have hl := hlen.trans cells_When
  obtain ⟨c0, c1, rfl⟩ : ∃ c0 c1, cs = [c0, c1] := by
    match cs, hl with
    | [c0, c1], _ => exact ⟨c0, c1, rfl⟩
  obtain ⟨y0, y1, rfl⟩ : ∃ y0 y1, xs = [y0, y1] := by
    match xs, hxl with
    | [y0, y1], _ => exact ⟨y0, y1, rfl⟩
  have f0 : DataW.trod enc Try.prog w base spare held n 9 [c0] = some y0 := by
    have := hf 0 _ rfl
    simpa [one_string] using this
  obtain ⟨v0, r0⟩ := (opens_str Try.underlying9) H enc w base spare held n [c0] y0 f0
  have f1 : DataW.trod enc Try.prog w base spare held n 52 [c1] = some y1 := by
    have := hf 1 _ rfl
    simpa [one_l_api_Term] using this
  obtain ⟨v1, r1⟩ := (opens_slice (R := TermR) Try.underlying52 cells_Term (by omega) term_opens) H enc w base spare held n [c1] y1 f1
  exact ⟨⟨v0, v1⟩, c0, c1, rfl, r0, r1⟩
def RuleR : Rel Pl.Rule := fun B w x cs => ∃ c0 c1 c2, cs = [c0, c1, c2] ∧ (SliceC SourceR 3) B w x.from_ [c0] ∧ (SliceC TargetR 4) B w x.to_ [c1] ∧ (SliceC WhenR 2) B w x.when_ [c2]
theorem RuleR.kept : Kept RuleR := by
  rintro B B' w w' x cs ⟨c0, c1, c2, rfl, h0, h1, h2⟩ hk hB
  exact ⟨c0, c1, c2, rfl, (SliceC.kept SourceR.kept) _ _ _ _ _ _ h0 hk hB, (SliceC.kept TargetR.kept) _ _ _ _ _ _ h1 hk hB, (SliceC.kept WhenR.kept) _ _ _ _ _ _ h2 hk hB⟩
theorem cells_Rule : Try.prog.cellsOf 31 = 3 := by kernel_rfl
set_option maxRecDepth 100000 in
theorem rule_opens : Opens 31 RuleR := by
  intro H enc w base spare held fuel cs x h
  obtain ⟨xs, n, _, hx, hlen, hxl, hf⟩ := DataW.trod_struct Try.underlying31 h
  have hl := hlen.trans cells_Rule
  obtain ⟨c0, c1, c2, rfl⟩ : ∃ c0 c1 c2, cs = [c0, c1, c2] := by
    match cs, hl with
    | [c0, c1, c2], _ => exact ⟨c0, c1, c2, rfl⟩
  obtain ⟨y0, y1, y2, rfl⟩ : ∃ y0 y1 y2, xs = [y0, y1, y2] := by
    match xs, hxl with
    | [y0, y1, y2], _ => exact ⟨y0, y1, y2, rfl⟩
  have f0 : DataW.trod enc Try.prog w base spare held n 27 [c0] = some y0 := by
    have := hf 0 _ rfl
    simpa [one_l_api_Source] using this
  obtain ⟨v0, r0⟩ := (opens_slice (R := SourceR) Try.underlying27 cells_Source (by omega) source_opens) H enc w base spare held n [c0] y0 f0
  have f1 : DataW.trod enc Try.prog w base spare held n 28 [c1] = some y1 := by
    have := hf 1 _ rfl
    simpa [one_l_api_Target] using this
  obtain ⟨v1, r1⟩ := (opens_slice (R := TargetR) Try.underlying28 cells_Target (by omega) target_opens) H enc w base spare held n [c1] y1 f1
  have f2 : DataW.trod enc Try.prog w base spare held n 29 [c2] = some y2 := by
    have := hf 2 _ rfl
    simpa [one_l_api_When] using this
  obtain ⟨v2, r2⟩ := (opens_slice (R := WhenR) Try.underlying29 cells_When (by omega) when_opens) H enc w base spare held n [c2] y2 f2
  exact ⟨⟨v0, v1, v2⟩, c0, c1, c2, rfl, r0, r1, r2⟩
def PolicyR : Rel Pl.Policy := fun B w x cs => ∃ c0 c1 c2 c3 c4, cs = [c0, c1, c2, c3, c4] ∧ (IntC .u64) B w x.id [c0] ∧ StrC B w x.ns [c1] ∧ (IntC .u64) B w x.service [c2] ∧ (IntC .i64) B w x.deny [c3] ∧ (SliceC RuleR 3) B w x.rules [c4]
theorem PolicyR.kept : Kept PolicyR := by
  rintro B B' w w' x cs ⟨c0, c1, c2, c3, c4, rfl, h0, h1, h2, h3, h4⟩ hk hB
  exact ⟨c0, c1, c2, c3, c4, rfl, (IntC.kept .u64) _ _ _ _ _ _ h0 hk hB, StrC.kept _ _ _ _ _ _ h1 hk hB, (IntC.kept .u64) _ _ _ _ _ _ h2 hk hB, (IntC.kept .i64) _ _ _ _ _ _ h3 hk hB, (SliceC.kept RuleR.kept) _ _ _ _ _ _ h4 hk hB⟩
theorem cells_Policy : Try.prog.cellsOf 26 = 5 := by kernel_rfl
set_option maxRecDepth 100000 in
theorem policy_opens : Opens 26 PolicyR := by
  intro H enc w base spare held fuel cs x h
  obtain ⟨xs, n, _, hx, hlen, hxl, hf⟩ := DataW.trod_struct Try.underlying26 h
  have hl := hlen.trans cells_Policy
  obtain ⟨c0, c1, c2, c3, c4, rfl⟩ : ∃ c0 c1 c2 c3 c4, cs = [c0, c1, c2, c3, c4] := by
    match cs, hl with
    | [c0, c1, c2, c3, c4], _ => exact ⟨c0, c1, c2, c3, c4, rfl⟩
  obtain ⟨y0, y1, y2, y3, y4, rfl⟩ : ∃ y0 y1 y2 y3 y4, xs = [y0, y1, y2, y3, y4] := by
    match xs, hxl with
    | [y0, y1, y2, y3, y4], _ => exact ⟨y0, y1, y2, y3, y4, rfl⟩
  have f0 : DataW.trod enc Try.prog w base spare held n 23 [c0] = some y0 := by
    have := hf 0 _ rfl
    simpa [one_uint64] using this
  obtain ⟨v0, r0⟩ := (opens_int Try.underlying23) H enc w base spare held n [c0] y0 f0
  have f1 : DataW.trod enc Try.prog w base spare held n 9 [c1] = some y1 := by
    have := hf 1 _ rfl
    simpa [one_string] using this
  obtain ⟨v1, r1⟩ := (opens_str Try.underlying9) H enc w base spare held n [c1] y1 f1
  have f2 : DataW.trod enc Try.prog w base spare held n 23 [c2] = some y2 := by
    have := hf 2 _ rfl
    simpa [one_uint64] using this
  obtain ⟨v2, r2⟩ := (opens_int Try.underlying23) H enc w base spare held n [c2] y2 f2
  have f3 : DataW.trod enc Try.prog w base spare held n 3 [c3] = some y3 := by
    have := hf 3 _ rfl
    simpa [one_int] using this
  obtain ⟨v3, r3⟩ := (opens_int Try.underlying3) H enc w base spare held n [c3] y3 f3
  have f4 : DataW.trod enc Try.prog w base spare held n 24 [c4] = some y4 := by
    have := hf 4 _ rfl
    simpa [one_l_api_Rule] using this
  obtain ⟨v4, r4⟩ := (opens_slice (R := RuleR) Try.underlying24 cells_Rule (by omega) rule_opens) H enc w base spare held n [c4] y4 f4
  exact ⟨⟨v0, v1, v2, v3, v4⟩, c0, c1, c2, c3, c4, rfl, r0, r1, r2, r3, r4⟩
def HeadR : Rel Pl.Head := fun B w x cs => ∃ c0 c1, cs = [c0, c1] ∧ StrC B w x.name [c0] ∧ StrC B w x.value [c1]
theorem HeadR.kept : Kept HeadR := by
  rintro B B' w w' x cs ⟨c0, c1, rfl, h0, h1⟩ hk hB
  exact ⟨c0, c1, rfl, StrC.kept _ _ _ _ _ _ h0 hk hB, StrC.kept _ _ _ _ _ _ h1 hk hB⟩
theorem cells_Head : Try.prog.cellsOf 63 = 2 := by kernel_rfl
set_option maxRecDepth 100000 in
theorem head_opens : Opens 63 HeadR := by
  intro H enc w base spare held fuel cs x h
  obtain ⟨xs, n, _, hx, hlen, hxl, hf⟩ := DataW.trod_struct Try.underlying63 h
  have hl := hlen.trans cells_Head
  obtain ⟨c0, c1, rfl⟩ : ∃ c0 c1, cs = [c0, c1] := by
    match cs, hl with
    | [c0, c1], _ => exact ⟨c0, c1, rfl⟩
  obtain ⟨y0, y1, rfl⟩ : ∃ y0 y1, xs = [y0, y1] := by
    match xs, hxl with
    | [y0, y1], _ => exact ⟨y0, y1, rfl⟩
  have f0 : DataW.trod enc Try.prog w base spare held n 9 [c0] = some y0 := by
    have := hf 0 _ rfl
    simpa [one_string] using this
  obtain ⟨v0, r0⟩ := (opens_str Try.underlying9) H enc w base spare held n [c0] y0 f0
  have f1 : DataW.trod enc Try.prog w base spare held n 9 [c1] = some y1 := by
    have := hf 1 _ rfl
    simpa [one_string] using this
  obtain ⟨v1, r1⟩ := (opens_str Try.underlying9) H enc w base spare held n [c1] y1 f1
  exact ⟨⟨v0, v1⟩, c0, c1, rfl, r0, r1⟩
end Go.Proofs.Ytnclifgiakmmoaa.Opn

/- A logic of states: rows that may be written; rows lent to a call. -/
namespace Go.Proofs.Ytnclifgiakmmoaa.Sim
set_option linter.unusedVariables false
set_option linter.unusedSimpArgs false
open Go.RowKit Mem
section
variable {P : Program} {bx : List (Nat × List A)} {ow : List (Nat × Own)} {o : Oper} {ρ : Operand → Option A} {r : A}
theorem own_form {w : World} {base : Nat} {e : TypeId} {sz : Nat} {v : Value} {n : Nat} {vs : List Value} (h : RowM w base e sz v n vs) (hn : 0 < n) : ∃ b cap cur, v = .slice (some ⟨b, 0, none⟩) n cap ∧ base ≤ b ∧ (∃ fz, w.heap[b]? = some (.cells cur e fz) ∧ FzOk fz cur.size) ∧ n ≤ cap ∧ cap ≤ maxLen ∧ cap * sz ≤ cur.size ∧ cur.toList.take (n * sz) = vs := by
  obtain ⟨_, ⟨_, h0⟩ | ⟨b, cap, cur, h1⟩⟩ := h
  · omega
  · exact ⟨b, cap, cur, h1⟩
/-- a place in a row of the call's own -/
theorem po_index_own {t e : TypeId} {x ix : Operand} {i nn sz k : Nat} {rows : List (List T)} {n : Int} {ik : IntKind} (ho : o.op = .indexAddr t x ix) (hx : ρ x = some (.own i nn)) (hi : get ow i = some ⟨e, sz, rows⟩) (hnn : nn = rows.length) (hix : ρ ix = some (.t (.v (.int ik n)))) (hT : sliceSz P t = some sz) (hn : n = (k : Int)) (hk : k < nn) : PureOp P bx ow o ρ (.oe i nn sz k 0) := pure_run fun C m g w a he h => by
  obtain ⟨h1, h2, _, h4⟩ := h x (by simp [ho, Op.operands]) _ hx
  have h5 := tr_v (h ix (by simp [ho, Op.operands]) _ hix)
  have hln := he.ln i _ hi
  have hv := h4 (by rw [hln]; exact hnn)
  obtain ⟨e', ii, hu, hie, hs⟩ := sliceSz_spec hT
  obtain ⟨vs, hown, _⟩ := he.owns i _ hi
  dsimp only at hown
  obtain ⟨b, cap, cur, e1, _⟩ := own_form hown (by omega)
  rw [e1] at hv
  subst hn hnn
  have hlt : (k : Int) < (rows.length : Int) := by omega
  refine ⟨.pointer (some ⟨b, k * sz, none⟩), ?_, h1, h2, ⟨_, rfl⟩, fun _ => ⟨b, by rw [e1]; rfl, by simp⟩⟩
  simp [execOp, ho, hv, h5, Instr.indexAt, asIntOf, run_underlying hu, sizeOf, typeInfo, hie, hs, hk, addr_add]
/-- an element's cell -/
theorem own_cell {C : Ctx} {w : World} {m : Mm} {g : Gh} (he : EnvG C bx ow w m g) {i b k j : Nat} {e : TypeId} {sz : Nat} {rows : List (List T)} {row : List T} {t : T} (hi : get ow i = some ⟨e, sz, rows⟩) (hb : (g.go i).ownBlock = some b) (hk : rows[k]? = some row) (hj : row[j]? = some t) : ∃ u, w.cell? ⟨b, k * sz + j, none⟩ = some u ∧ TR m t u ∧ u.oneCell' = true := by
  obtain ⟨vs, hown, hr, hc, _⟩ := he.owns i _ hi
  dsimp only at hown hr hc
  have h1 := flat_get hr hk hj
  have h2 : k * sz + j < vs.length := by rw [hc.1]; exact (List.getElem?_eq_some_iff.1 h1).1
  have h3 := hown.cells hb (k * sz + j) _ (List.getElem?_eq_getElem h2)
  rw [addr_add, Nat.zero_add] at h3
  exact ⟨_, h3, hc.2 _ t _ h1 (List.getElem?_eq_getElem h2)⟩
theorem po_load_own_agg {ty e : TypeId} {x : Operand} {i nn sz k off n : Nat} {rows : List (List T)} {row ts : List T} (ho : o.op = .load ty x) (hx : ρ x = some (.oe i nn sz k off)) (hi : get ow i = some ⟨e, sz, rows⟩) (hnn : nn = rows.length) (hT : tyI P ty = some (true, n)) (hk : rows[k]? = some row) (hn : ts.length = n) (ht : (row.drop off).take n = ts) : PureOp P bx ow o ρ (.t (.agg ts)) := pure_run fun C m g w a he h => by
  obtain ⟨h1, h2, _, h4⟩ := h x (by simp [ho, Op.operands]) _ hx
  obtain ⟨b, h5, h6⟩ := h4 (by rw [he.ln i _ hi]; exact hnn)
  have hts : ∀ (j : Nat) t, ts[j]? = some t → row[off + j]? = some t := fun j t hj => by
    have hjn : j < n := by rw [← hn]; exact (List.getElem?_eq_some_iff.1 hj).1
    rw [← ht, List.getElem?_take_of_lt hjn, List.getElem?_drop] at hj; exact hj
  have hcell : ∀ j, j < n → ∃ u t, w.cell? ⟨b, k * sz + off + j, none⟩ = some u ∧ ts[j]? = some t ∧ TR m t u ∧ u.oneCell' = true := fun j hj => by
    have h7 := List.getElem?_eq_getElem (show j < ts.length by omega)
    obtain ⟨u, h8, h9⟩ := own_cell he hi h5 hk (hts j _ h7)
    rw [← Nat.add_assoc] at h8
    exact ⟨u, _, h8, h7, h9⟩
  have hf : ∃ us : List Value, us.length = n ∧ ∀ j, j < n → ∃ u t, us[j]? = some u ∧ w.cell? ⟨b, k * sz + off + j, none⟩ = some u ∧ ts[j]? = some t ∧ TR m t u ∧ u.oneCell' = true := by
    refine ⟨(List.range n).map fun j => (w.cell? ⟨b, k * sz + off + j, none⟩).getD undef, by simp, fun j hj => ?_⟩
    obtain ⟨u, t, h8, h9, h10⟩ := hcell j hj
    exact ⟨u, t, by simp [hj, h8], h8, h9, h10⟩
  obtain ⟨us, hul, hus⟩ := hf
  have hat : ∀ (j : Nat) v, us[j]? = some v → ∃ t, w.cell? ⟨b, k * sz + off + j, none⟩ = some v ∧ ts[j]? = some t ∧ TR m t v ∧ v.oneCell' = true := fun j v hj => by
    have hjn : j < n := by rw [← hul]; exact (List.getElem?_eq_some_iff.1 hj).1
    obtain ⟨u, t, h8, h9, h10⟩ := hus j hjn
    rw [hj] at h8; injection h8 with h8; subst h8
    exact ⟨t, h9, h10⟩
  refine ⟨.agg us.toArray, by simp only [execOp, ho, h6, Sem.run_bind, run_load_agg hT hul (fun j v hj => (hat j v hj).choose_spec.1)]; rfl, .agg ts _ (by simp [hn, hul]) ?_ ?_⟩
  · intro v hv'
    obtain ⟨j, hj⟩ := List.getElem?_of_mem hv'
    obtain ⟨t, _, _, _, h11⟩ := hat j v (by simpa using hj)
    exact h11
  · intro j t v h3 h4'
    obtain ⟨t', _, h9, h10, _⟩ := hat j v (by simpa using h4')
    rw [h3] at h9; injection h9 with h9; subst h9
    exact h10
end
theorem flat_set {sz : Nat} {rows : List (List T)} (hr : ∀ r ∈ rows, r.length = sz) {k : Nat} {row row' : List T} (hk : rows[k]? = some row) (hl : row'.length = sz) : (rows.set k row').flatten = rows.flatten.take (k * sz) ++ (row' ++ rows.flatten.drop (k * sz + sz)) := by
  induction rows generalizing k with
  | nil => simp at hk
  | cons q rs ih =>
    have hq := hr q (by simp)
    cases k with
    | zero =>
      simp only [List.set_cons_zero, List.flatten_cons, Nat.zero_mul, Nat.zero_add, List.take_zero, List.nil_append]
      rw [List.drop_append_of_le_length (by omega), List.drop_eq_nil_of_le (by omega), List.nil_append]
    | succ k =>
      simp at hk
      simp only [List.set_cons_succ, List.flatten_cons]
      rw [ih (fun x hx => hr x (by simp [hx])) hk, Nat.succ_mul]
      have h1 : (q ++ rs.flatten).take (k * sz + sz) = q ++ rs.flatten.take (k * sz) := by
        rw [List.take_append, List.take_of_length_le (l := q) (by omega)]; congr 2; omega
      have h2 : (q ++ rs.flatten).drop (k * sz + sz + sz) = rs.flatten.drop (k * sz + sz) := by
        rw [List.drop_append, List.drop_eq_nil_of_le (show q.length ≤ k * sz + sz + sz by omega), List.nil_append]; congr 1; omega
      rw [h1, h2, List.append_assoc]
theorem set_self {α : Type} {l : List α} {k : Nat} {x : α} (h : l[k]? = some x) : l.set k x = l := by
  obtain ⟨hk, rfl⟩ := List.getElem?_eq_some_iff.1 h
  exact List.set_getElem_self hk
theorem take_mid {α : Type} (a b c : List α) (n : Nat) (h : n ≤ b.length) : (a ++ (b ++ c)).take (a.length + n) = a ++ b.take n := by
  rw [List.take_append, List.take_of_length_le (by omega), show a.length + n - a.length = n by omega, List.take_append_of_le_length h]
theorem drop_mid {α : Type} (a b c : List α) (n : Nat) (h : n ≤ b.length) : (a ++ (b ++ c)).drop (a.length + n) = b.drop n ++ c := by
  rw [List.drop_append, List.drop_eq_nil_of_le (by omega), show a.length + n - a.length = n by omega, List.drop_append_of_le_length h, List.nil_append]
section
variable {C : Ctx} {bx : List (Nat × List A)} {ow : List (Nat × Own)} {w : World} {m : Mm} {g : Gh}
/-- a row's elements written -/
theorem EnvG.setE (he : EnvG C bx ow w m g) {i b cap : Nat} {e : TypeId} {sz : Nat} {rows rows' : List (List T)} {cur cur' : Array Value} {vs' : List Value} (hh : hid i = true) (hi : get ow i = some ⟨e, sz, rows⟩) (hl : rows'.length = rows.length)
    (hgo : g.go i = .slice (some ⟨b, 0, none⟩) rows.length cap) {fz : Nat × Nat} (hcells : w.heap[b]? = some (.cells cur e fz)) (hfz : FzOk fz cur.size) (hr : ∀ r ∈ rows', r.length = sz) (hc : CellsAre m rows'.flatten vs') (hcs : cur'.size = cur.size) (htk : cur'.toList.take (rows.length * sz) = vs') :
    EnvG C bx ((i, ⟨e, sz, rows'⟩) :: ow) (w.setRow b cur') m g := by
  obtain ⟨vs, hown, hr0, hc0, hb0⟩ := he.owns i _ hi
  dsimp only at hown hr0 hc0 hb0
  have hblk : (g.go i).ownBlock = some b := by rw [hgo]; rfl
  obtain ⟨hmb, hbx, hmi⟩ := hb0 b hblk
  have hlt := hown.lt b hblk
  have hmn : ∀ k, m b k = none := fun k => by rw [hmb k, vis_hid hh]; rfl
  have hsame := setRow_heap w b cur cur' e fz hcells
  have hother : ∀ k, k ≠ b → (w.setRow b cur').heap[k]? = w.heap[k]? := fun k hk => setRow_other w b k cur' hk
  have hgr : w.grownBy (w.setRow b cur') (some b) := EnvG.setB.grown_setRow' w b cur'
  have hown' : RowM (w.setRow b cur') 0 e sz (g.go i) rows'.length vs' := by
    refine ⟨by rw [hc.1, flat_len hr], ?_⟩
    obtain ⟨_, ⟨h1, _⟩ | ⟨b2, cap2, cur2, h1, h2, ⟨fz2, h3, _⟩, h4, h5, h6, h7⟩⟩ := hown
    · rw [hgo] at h1; cases h1
    · rw [hgo] at h1
      injection h1 with h1 h8 h9
      injection h1 with h1; injection h1 with h1
      subst h1 h9
      rw [hcells] at h3; injection h3 with h3; injection h3 with h3
      subst h3
      exact .inr ⟨b, cap, cur', by rw [hl]; exact hgo, h2, ⟨fz, hsame, by rw [hcs]; exact hfz⟩, by rw [hl]; exact h4, h5, by rw [hcs]; exact h6, by rw [hl]; exact htk⟩
  exact {
    lo := he.lo.grown hgr (fun k hk => by injection hk with hk; subst hk; exact hmi)
    gm := he.gm
    sub := fun b' o' v' hv' => by
      have hb' : b' ≠ b := fun e => by rw [e, hmn o'] at hv'; cases hv'
      rw [World.cell?_of_block (a := ⟨b', o', none⟩) (hother b' hb')]; exact he.sub b' o' v' hv'
    ext := he.ext, gt := he.gt, lb := he.lb
    lw := fun j => by
      rw [get_cons, he.lw j]
      by_cases hji : i = j
      · subst hji; rw [if_pos rfl, hi]; rfl
      · rw [if_neg hji]
    ln := fun j o hj => by
      rw [get_cons] at hj
      by_cases hji : i = j
      · subst hji; rw [if_pos rfl] at hj; injection hj with hj; subst hj; rw [he.ln i _ hi]; exact hl.symm
      · rw [if_neg hji] at hj; exact he.ln j o hj
    boxes := fun j cs hj => by
      obtain ⟨vs2, ty, h1, h2, h3, h4, h5⟩ := he.boxes j cs hj
      exact ⟨vs2, ty, by rw [hother _ (hbx j cs hj)]; exact h1, h2, h3, h4, h5⟩
    inj := he.inj
    owns := fun j o hj => by
      rw [get_cons] at hj
      by_cases hji : i = j
      · subst hji
        rw [if_pos rfl] at hj; injection hj with hj; subst hj
        refine ⟨vs', hown', hr, hc, fun b2 hb2 => ?_⟩
        rw [hblk] at hb2; injection hb2 with hb2; subst hb2
        exact ⟨fun k => by rw [hmn k, vis_hid hh]; rfl, hbx, hmi⟩
      · rw [if_neg hji] at hj
        obtain ⟨vs2, h1, h2, h3, h4⟩ := he.owns j o hj
        refine ⟨vs2, h1.kept hgr ?_, h2, h3, h4⟩
        cases hb2 : (g.go j).ownBlock with
        | none => exact .inl rfl
        | some b2 => exact .inr fun e => he.apart j i o _ hj hi (fun e => hji e.symm) b2 hb2 (by rw [hblk]; exact e.symm)
    apart := fun j k oj ok hj hk hjk => by
      have h1 : ∃ o, get ow j = some o := by
        rw [get_cons] at hj
        by_cases hji : i = j
        · subst hji; exact ⟨_, hi⟩
        · rw [if_neg hji] at hj; exact ⟨_, hj⟩
      have h2 : ∃ o, get ow k = some o := by
        rw [get_cons] at hk
        by_cases hki : i = k
        · subst hki; exact ⟨_, hi⟩
        · rw [if_neg hki] at hk; exact ⟨_, hk⟩
      exact he.apart j k _ _ h1.choose_spec h2.choose_spec hjk
    pin := fun j o hj hj2 => by
      rw [get_cons] at hj
      by_cases hji : i = j
      · subst hji; exact he.pin i _ hi hj2
      · rw [if_neg hji] at hj; exact he.pin j o hj hj2
    pinb := he.pinb }
end
section
variable {P : Program} {N : Nat} {Q : Exit → St → Prop} {ops : Array Oper} {rest : List Oper} {o : Oper} {tm : List (Nat × A)} {bx : List (Nat × List A)} {ow : List (Nat × Own)}
end
end Go.Proofs.Ytnclifgiakmmoaa.Sim
