/- Policies in memory: relations, kept, opened. -/
import Derived.Test.YtlcecabfmemfeaaGreatOpenTerm
namespace Go.Proofs.YtlcecabfmemfeaaGreat.Pl
set_option linter.unusedVariables false
set_option linter.unusedSimpArgs false
structure Cidr where
  addr : Int
  bits : Int
deriving Inhabited
structure Source where
  names : List Term
  spaces : List Term
  nets : List Cidr
deriving Inhabited
structure Target where
  ports : List Int
  methods : List Term
  paths : List Term
  hosts : List Term
deriving Inhabited
structure When where
  head : ByteArray
  terms : List Term
deriving Inhabited
structure Rule where
  from_ : List Source
  to_ : List Target
  when_ : List When
deriving Inhabited
structure Policy where
  id : Int
  ns : ByteArray
  service : Int
  deny : Int
  rules : List Rule
deriving Inhabited
structure Head where
  name : ByteArray
  value : ByteArray
deriving Inhabited

end Go.Proofs.YtlcecabfmemfeaaGreat.Pl
namespace Go.Proofs.YtlcecabfmemfeaaGreat.Mem
set_option linter.unusedVariables false
set_option linter.unusedSimpArgs false
open Go.RowKit

/-- one cell, a slice -/
def SliceC {α : Type} (R : Rel α) (sz : Nat) : Rel (List α) := fun B w xs cs => ∃ A cap, cs = [.slice A xs.length cap] ∧ SliceAt R sz B w A xs ∧ xs.length ≤ cap ∧ cap ≤ maxLen
theorem SliceC.kept {α : Type} {R : Rel α} {sz : Nat} (hR : Kept R) : Kept (SliceC R sz) := by
  rintro B B' w w' x cs ⟨A, cap, rfl, h, h1, h2⟩ hk hB
  exact ⟨A, cap, rfl, h.keep hR hk hB, h1, h2⟩
/-- one cell, a number -/
def IntC (k : IntKind) : Rel Int := fun _ _ x cs => cs = [.int k x] ∧ (Lit.int k x).wf = true
theorem IntC.kept (k : IntKind) : Kept (IntC k) := fun _ _ _ _ _ _ h _ _ => h
/-- one cell, a text -/
def StrC : Rel ByteArray := fun _ _ s cs => cs = [.string s] ∧ s.size ≤ maxLen
theorem StrC.kept : Kept StrC := fun _ _ _ _ _ _ h _ _ => h
end Go.Proofs.YtlcecabfmemfeaaGreat.Mem
namespace Go.Proofs.YtlcecabfmemfeaaGreat.Opn
set_option linter.unusedVariables false
set_option linter.unusedSimpArgs false
open Go.RowKit Go.WideShapes Go.ChangeShapes Go.Joins Mem WMatch
set_option maxRecDepth 100000

theorem opens_int {t : TypeId} {k : IntKind} (ht : Tryz.prog.underlying t = some (.int k)) : Opens t (IntC k) := by
  intro H enc w base spare held fuel cs x h
  obtain ⟨n, rfl, _, hw⟩ := DataW.trod_int ht h
  exact ⟨n, rfl, hw⟩
theorem opens_str {t : TypeId} (ht : Tryz.prog.underlying t = some .string) : Opens t StrC := by
  intro H enc w base spare held fuel cs x h
  obtain ⟨s, rfl, _, hw⟩ := DataW.trod_string ht h
  exact ⟨s, rfl, hw⟩
theorem opens_slice {α : Type} [Inhabited α] {t e sz : Nat} {R : Rel α} (ht : Tryz.prog.underlying t = some (.slice e)) (hC : Tryz.prog.cellsOf e = sz) (hsz : 0 < sz) (hR : Opens e R) : Opens t (SliceC R sz) := by
  intro H enc w base spare held fuel cs x h
  obtain ⟨A, cap, xs, rfl, hA, h1, h2⟩ := slice_opens ht hC hsz hR h
  exact ⟨xs, A, cap, rfl, hA, h1, h2⟩
/-- a slice handed in -/
theorem open_slice_arg {α : Type} {t e : TypeId} {R : Rel α} {sz : Nat} (ht : Tryz.prog.underlying t = some (.slice e)) (hO : Opens t (SliceC R sz)) {H : Type} {enc : TypeId × Value → H} {w : World} {r : Reach} {b0 base : Nat} {spare : Nat → Bool} {held : Bool} {v : Value} {d : DataW H} {p : List MemPlace}
    (hv : Value.okWide Tryz.prog w r b0 t v) (h : DataW.Trod enc Tryz.prog w base spare held t v d p) :
    ∃ (A : Option Addr) (cap : Nat) (xs : List α), v = .slice A xs.length cap ∧ SliceAt R sz w.heap.size w A xs ∧ xs.length ≤ cap ∧ cap ≤ maxLen := by
  obtain ⟨a, len, c, rfl⟩ := okWide_slice ht hv
  obtain ⟨fuel, hf⟩ := h
  obtain ⟨xs, A, cap, hcs, hA, h1, h2⟩ := hO H enc w base spare held fuel _ _ hf
  simp [Value.cells] at hcs
  obtain ⟨rfl, rfl, rfl⟩ := hcs
  exact ⟨_, _, xs, rfl, hA, h1, h2⟩
theorem cells_Term : Tryz.prog.cellsOf 90 = 2 := Post.Tryz.cellsTerm
theorem one_int : Tryz.prog.cellsOf 3 = 1 := by kernel_rfl
theorem one_string : Tryz.prog.cellsOf 9 = 1 := by kernel_rfl
theorem one_uint32 : Tryz.prog.cellsOf 27 = 1 := by kernel_rfl
theorem one_uint64 : Tryz.prog.cellsOf 36 = 1 := by kernel_rfl
theorem one_l_int : Tryz.prog.cellsOf 70 = 1 := by kernel_rfl
theorem one_l_api_Term : Tryz.prog.cellsOf 75 = 1 := by kernel_rfl
theorem one_l_api_Cidr : Tryz.prog.cellsOf 76 = 1 := by kernel_rfl
theorem one_l_api_Source : Tryz.prog.cellsOf 42 = 1 := by kernel_rfl
theorem one_l_api_Target : Tryz.prog.cellsOf 43 = 1 := by kernel_rfl
theorem one_l_api_When : Tryz.prog.cellsOf 44 = 1 := by kernel_rfl
theorem one_l_api_Rule : Tryz.prog.cellsOf 48 = 1 := by kernel_rfl
def CidrR : Rel Pl.Cidr := fun B w x cs => ∃ c0 c1, cs = [c0, c1] ∧ (IntC .u32) B w x.addr [c0] ∧ (IntC .i64) B w x.bits [c1]
theorem CidrR.kept : Kept CidrR := by
  rintro B B' w w' x cs ⟨c0, c1, rfl, h0, h1⟩ hk hB
  exact ⟨c0, c1, rfl, (IntC.kept .u32) _ _ _ _ _ _ h0 hk hB, (IntC.kept .i64) _ _ _ _ _ _ h1 hk hB⟩
theorem cells_Cidr : Tryz.prog.cellsOf 104 = 2 := by kernel_rfl
set_option maxRecDepth 100000 in
theorem cidr_opens : Opens 104 CidrR := by
  intro H enc w base spare held fuel cs x h
  obtain ⟨xs, n, _, hx, hlen, hxl, hf⟩ := DataW.trod_struct Tryz.underlying104 h
  have hl := hlen.trans cells_Cidr
  obtain ⟨c0, c1, rfl⟩ : ∃ c0 c1, cs = [c0, c1] := by
    match cs, hl with
    | [c0, c1], _ => exact ⟨c0, c1, rfl⟩
  obtain ⟨y0, y1, rfl⟩ : ∃ y0 y1, xs = [y0, y1] := by
    match xs, hxl with
    | [y0, y1], _ => exact ⟨y0, y1, rfl⟩
  have f0 : DataW.trod enc Tryz.prog w base spare held n 27 [c0] = some y0 := by
    have := hf 0 _ rfl
    simpa [one_uint32] using this
  obtain ⟨v0, r0⟩ := (opens_int Tryz.underlying27) H enc w base spare held n [c0] y0 f0
  have f1 : DataW.trod enc Tryz.prog w base spare held n 3 [c1] = some y1 := by
    have := hf 1 _ rfl
    simpa [one_int] using this
  obtain ⟨v1, r1⟩ := (opens_int Tryz.underlying3) H enc w base spare held n [c1] y1 f1
  exact ⟨⟨v0, v1⟩, c0, c1, rfl, r0, r1⟩
def SourceR : Rel Pl.Source := fun B w x cs => ∃ c0 c1 c2, cs = [c0, c1, c2] ∧ (SliceC TermR 2) B w x.names [c0] ∧ (SliceC TermR 2) B w x.spaces [c1] ∧ (SliceC CidrR 2) B w x.nets [c2]
theorem SourceR.kept : Kept SourceR := by
  rintro B B' w w' x cs ⟨c0, c1, c2, rfl, h0, h1, h2⟩ hk hB
  exact ⟨c0, c1, c2, rfl, (SliceC.kept TermR.kept) _ _ _ _ _ _ h0 hk hB, (SliceC.kept TermR.kept) _ _ _ _ _ _ h1 hk hB, (SliceC.kept CidrR.kept) _ _ _ _ _ _ h2 hk hB⟩
theorem cells_Source : Tryz.prog.cellsOf 78 = 3 := by kernel_rfl
set_option maxRecDepth 100000 in
theorem source_opens : Opens 78 SourceR := by
  intro H enc w base spare held fuel cs x h
  obtain ⟨xs, n, _, hx, hlen, hxl, hf⟩ := DataW.trod_struct Tryz.underlying78 h
  have hl := hlen.trans cells_Source
  obtain ⟨c0, c1, c2, rfl⟩ : ∃ c0 c1 c2, cs = [c0, c1, c2] := by
    match cs, hl with
    | [c0, c1, c2], _ => exact ⟨c0, c1, c2, rfl⟩
  obtain ⟨y0, y1, y2, rfl⟩ : ∃ y0 y1 y2, xs = [y0, y1, y2] := by
    match xs, hxl with
    | [y0, y1, y2], _ => exact ⟨y0, y1, y2, rfl⟩
  have f0 : DataW.trod enc Tryz.prog w base spare held n 75 [c0] = some y0 := by
    have := hf 0 _ rfl
    simpa [one_l_api_Term] using this
  obtain ⟨v0, r0⟩ := (opens_slice (R := TermR) Tryz.underlying75 cells_Term (by omega) term_opens) H enc w base spare held n [c0] y0 f0
  have f1 : DataW.trod enc Tryz.prog w base spare held n 75 [c1] = some y1 := by
    have := hf 1 _ rfl
    simpa [one_l_api_Term] using this
  obtain ⟨v1, r1⟩ := (opens_slice (R := TermR) Tryz.underlying75 cells_Term (by omega) term_opens) H enc w base spare held n [c1] y1 f1
  have f2 : DataW.trod enc Tryz.prog w base spare held n 76 [c2] = some y2 := by
    have := hf 2 _ rfl
    simpa [one_l_api_Cidr] using this
  obtain ⟨v2, r2⟩ := (opens_slice (R := CidrR) Tryz.underlying76 cells_Cidr (by omega) cidr_opens) H enc w base spare held n [c2] y2 f2
  exact ⟨⟨v0, v1, v2⟩, c0, c1, c2, rfl, r0, r1, r2⟩
def TargetR : Rel Pl.Target := fun B w x cs => ∃ c0 c1 c2 c3, cs = [c0, c1, c2, c3] ∧ (SliceC (IntC .i64) 1) B w x.ports [c0] ∧ (SliceC TermR 2) B w x.methods [c1] ∧ (SliceC TermR 2) B w x.paths [c2] ∧ (SliceC TermR 2) B w x.hosts [c3]
theorem TargetR.kept : Kept TargetR := by
  rintro B B' w w' x cs ⟨c0, c1, c2, c3, rfl, h0, h1, h2, h3⟩ hk hB
  exact ⟨c0, c1, c2, c3, rfl, (SliceC.kept (IntC.kept .i64)) _ _ _ _ _ _ h0 hk hB, (SliceC.kept TermR.kept) _ _ _ _ _ _ h1 hk hB, (SliceC.kept TermR.kept) _ _ _ _ _ _ h2 hk hB, (SliceC.kept TermR.kept) _ _ _ _ _ _ h3 hk hB⟩
theorem cells_Target : Tryz.prog.cellsOf 80 = 4 := by kernel_rfl
set_option maxRecDepth 100000 in
theorem target_opens : Opens 80 TargetR := by
  intro H enc w base spare held fuel cs x h
  obtain ⟨xs, n, _, hx, hlen, hxl, hf⟩ := DataW.trod_struct Tryz.underlying80 h
  have hl := hlen.trans cells_Target
  obtain ⟨c0, c1, c2, c3, rfl⟩ : ∃ c0 c1 c2 c3, cs = [c0, c1, c2, c3] := by
    match cs, hl with
    | [c0, c1, c2, c3], _ => exact ⟨c0, c1, c2, c3, rfl⟩
  obtain ⟨y0, y1, y2, y3, rfl⟩ : ∃ y0 y1 y2 y3, xs = [y0, y1, y2, y3] := by
    match xs, hxl with
    | [y0, y1, y2, y3], _ => exact ⟨y0, y1, y2, y3, rfl⟩
  have f0 : DataW.trod enc Tryz.prog w base spare held n 70 [c0] = some y0 := by
    have := hf 0 _ rfl
    simpa [one_l_int] using this
  obtain ⟨v0, r0⟩ := (opens_slice (R := IntC .i64) Tryz.underlying70 cells_int (by omega) (opens_int Tryz.underlying3)) H enc w base spare held n [c0] y0 f0
  have f1 : DataW.trod enc Tryz.prog w base spare held n 75 [c1] = some y1 := by
    have := hf 1 _ rfl
    simpa [one_l_api_Term] using this
  obtain ⟨v1, r1⟩ := (opens_slice (R := TermR) Tryz.underlying75 cells_Term (by omega) term_opens) H enc w base spare held n [c1] y1 f1
  have f2 : DataW.trod enc Tryz.prog w base spare held n 75 [c2] = some y2 := by
    have := hf 2 _ rfl
    simpa [one_l_api_Term] using this
  obtain ⟨v2, r2⟩ := (opens_slice (R := TermR) Tryz.underlying75 cells_Term (by omega) term_opens) H enc w base spare held n [c2] y2 f2
  have f3 : DataW.trod enc Tryz.prog w base spare held n 75 [c3] = some y3 := by
    have := hf 3 _ rfl
    simpa [one_l_api_Term] using this
  obtain ⟨v3, r3⟩ := (opens_slice (R := TermR) Tryz.underlying75 cells_Term (by omega) term_opens) H enc w base spare held n [c3] y3 f3
  exact ⟨⟨v0, v1, v2, v3⟩, c0, c1, c2, c3, rfl, r0, r1, r2, r3⟩
def WhenR : Rel Pl.When := fun B w x cs => ∃ c0 c1, cs = [c0, c1] ∧ StrC B w x.head [c0] ∧ (SliceC TermR 2) B w x.terms [c1]
theorem WhenR.kept : Kept WhenR := by
  rintro B B' w w' x cs ⟨c0, c1, rfl, h0, h1⟩ hk hB
  exact ⟨c0, c1, rfl, StrC.kept _ _ _ _ _ _ h0 hk hB, (SliceC.kept TermR.kept) _ _ _ _ _ _ h1 hk hB⟩
theorem cells_When : Tryz.prog.cellsOf 82 = 2 := by kernel_rfl
set_option maxRecDepth 100000 in
theorem when_opens : Opens 82 WhenR := by
  intro H enc w base spare held fuel cs x h
  obtain ⟨xs, n, _, hx, hlen, hxl, hf⟩ := DataW.trod_struct Tryz.underlying82 h
  have hl := hlen.trans cells_When
  obtain ⟨c0, c1, rfl⟩ : ∃ c0 c1, cs = [c0, c1] := by
    match cs, hl with
    | [c0, c1], _ => exact ⟨c0, c1, rfl⟩
  obtain ⟨y0, y1, rfl⟩ : ∃ y0 y1, xs = [y0, y1] := by
    match xs, hxl with
    | [y0, y1], _ => exact ⟨y0, y1, rfl⟩
  have f0 : DataW.trod enc Tryz.prog w base spare held n 9 [c0] = some y0 := by
    have := hf 0 _ rfl
    simpa [one_string] using this
  obtain ⟨v0, r0⟩ := (opens_str Tryz.underlying9) H enc w base spare held n [c0] y0 f0
  have f1 : DataW.trod enc Tryz.prog w base spare held n 75 [c1] = some y1 := by
    have := hf 1 _ rfl
    simpa [one_l_api_Term] using this
  obtain ⟨v1, r1⟩ := (opens_slice (R := TermR) Tryz.underlying75 cells_Term (by omega) term_opens) H enc w base spare held n [c1] y1 f1
  exact ⟨⟨v0, v1⟩, c0, c1, rfl, r0, r1⟩
def RuleR : Rel Pl.Rule := fun B w x cs => ∃ c0 c1 c2, cs = [c0, c1, c2] ∧ (SliceC SourceR 3) B w x.from_ [c0] ∧ (SliceC TargetR 4) B w x.to_ [c1] ∧ (SliceC WhenR 2) B w x.when_ [c2]
theorem RuleR.kept : Kept RuleR := by
  rintro B B' w w' x cs ⟨c0, c1, c2, rfl, h0, h1, h2⟩ hk hB
  exact ⟨c0, c1, c2, rfl, (SliceC.kept SourceR.kept) _ _ _ _ _ _ h0 hk hB, (SliceC.kept TargetR.kept) _ _ _ _ _ _ h1 hk hB, (SliceC.kept WhenR.kept) _ _ _ _ _ _ h2 hk hB⟩
theorem cells_Rule : Tryz.prog.cellsOf 46 = 3 := by kernel_rfl
set_option maxRecDepth 100000 in
theorem rule_opens : Opens 46 RuleR := by
  intro H enc w base spare held fuel cs x h
  obtain ⟨xs, n, _, hx, hlen, hxl, hf⟩ := DataW.trod_struct Tryz.underlying46 h
  have hl := hlen.trans cells_Rule
  obtain ⟨c0, c1, c2, rfl⟩ : ∃ c0 c1 c2, cs = [c0, c1, c2] := by
    match cs, hl with
    | [c0, c1, c2], _ => exact ⟨c0, c1, c2, rfl⟩
  obtain ⟨y0, y1, y2, rfl⟩ : ∃ y0 y1 y2, xs = [y0, y1, y2] := by
    match xs, hxl with
    | [y0, y1, y2], _ => exact ⟨y0, y1, y2, rfl⟩
  have f0 : DataW.trod enc Tryz.prog w base spare held n 42 [c0] = some y0 := by
    have := hf 0 _ rfl
    simpa [one_l_api_Source] using this
  obtain ⟨v0, r0⟩ := (opens_slice (R := SourceR) Tryz.underlying42 cells_Source (by omega) source_opens) H enc w base spare held n [c0] y0 f0
  have f1 : DataW.trod enc Tryz.prog w base spare held n 43 [c1] = some y1 := by
    have := hf 1 _ rfl
    simpa [one_l_api_Target] using this
  obtain ⟨v1, r1⟩ := (opens_slice (R := TargetR) Tryz.underlying43 cells_Target (by omega) target_opens) H enc w base spare held n [c1] y1 f1
  have f2 : DataW.trod enc Tryz.prog w base spare held n 44 [c2] = some y2 := by
    have := hf 2 _ rfl
    simpa [one_l_api_When] using this
  obtain ⟨v2, r2⟩ := (opens_slice (R := WhenR) Tryz.underlying44 cells_When (by omega) when_opens) H enc w base spare held n [c2] y2 f2
  exact ⟨⟨v0, v1, v2⟩, c0, c1, c2, rfl, r0, r1, r2⟩
def PolicyR : Rel Pl.Policy := fun B w x cs => ∃ c0 c1 c2 c3 c4, cs = [c0, c1, c2, c3, c4] ∧ (IntC .u64) B w x.id [c0] ∧ StrC B w x.ns [c1] ∧ (IntC .u64) B w x.service [c2] ∧ (IntC .i64) B w x.deny [c3] ∧ (SliceC RuleR 3) B w x.rules [c4]
theorem PolicyR.kept : Kept PolicyR := by
  rintro B B' w w' x cs ⟨c0, c1, c2, c3, c4, rfl, h0, h1, h2, h3, h4⟩ hk hB
  exact ⟨c0, c1, c2, c3, c4, rfl, (IntC.kept .u64) _ _ _ _ _ _ h0 hk hB, StrC.kept _ _ _ _ _ _ h1 hk hB, (IntC.kept .u64) _ _ _ _ _ _ h2 hk hB, (IntC.kept .i64) _ _ _ _ _ _ h3 hk hB, (SliceC.kept RuleR.kept) _ _ _ _ _ _ h4 hk hB⟩
theorem cells_Policy : Tryz.prog.cellsOf 50 = 5 := by kernel_rfl
set_option maxRecDepth 100000 in
theorem policy_opens : Opens 50 PolicyR := by
  intro H enc w base spare held fuel cs x h
  obtain ⟨xs, n, _, hx, hlen, hxl, hf⟩ := DataW.trod_struct Tryz.underlying50 h
  have hl := hlen.trans cells_Policy
  obtain ⟨c0, c1, c2, c3, c4, rfl⟩ : ∃ c0 c1 c2 c3 c4, cs = [c0, c1, c2, c3, c4] := by
    match cs, hl with
    | [c0, c1, c2, c3, c4], _ => exact ⟨c0, c1, c2, c3, c4, rfl⟩
  obtain ⟨y0, y1, y2, y3, y4, rfl⟩ : ∃ y0 y1 y2 y3 y4, xs = [y0, y1, y2, y3, y4] := by
    match xs, hxl with
    | [y0, y1, y2, y3, y4], _ => exact ⟨y0, y1, y2, y3, y4, rfl⟩
  have f0 : DataW.trod enc Tryz.prog w base spare held n 36 [c0] = some y0 := by
    have := hf 0 _ rfl
    simpa [one_uint64] using this
  obtain ⟨v0, r0⟩ := (opens_int Tryz.underlying36) H enc w base spare held n [c0] y0 f0
  have f1 : DataW.trod enc Tryz.prog w base spare held n 9 [c1] = some y1 := by
    have := hf 1 _ rfl
    simpa [one_string] using this
  obtain ⟨v1, r1⟩ := (opens_str Tryz.underlying9) H enc w base spare held n [c1] y1 f1
  have f2 : DataW.trod enc Tryz.prog w base spare held n 36 [c2] = some y2 := by
    have := hf 2 _ rfl
    simpa [one_uint64] using this
  obtain ⟨v2, r2⟩ := (opens_int Tryz.underlying36) H enc w base spare held n [c2] y2 f2
  have f3 : DataW.trod enc Tryz.prog w base spare held n 3 [c3] = some y3 := by
    have := hf 3 _ rfl
    simpa [one_int] using this
  obtain ⟨v3, r3⟩ := (opens_int Tryz.underlying3) H enc w base spare held n [c3] y3 f3
  have f4 : DataW.trod enc Tryz.prog w base spare held n 48 [c4] = some y4 := by
    have := hf 4 _ rfl
    simpa [one_l_api_Rule] using this
  obtain ⟨v4, r4⟩ := (opens_slice (R := RuleR) Tryz.underlying48 cells_Rule (by omega) rule_opens) H enc w base spare held n [c4] y4 f4
  exact ⟨⟨v0, v1, v2, v3, v4⟩, c0, c1, c2, c3, c4, rfl, r0, r1, r2, r3, r4⟩
def HeadR : Rel Pl.Head := fun B w x cs => ∃ c0 c1, cs = [c0, c1] ∧ StrC B w x.name [c0] ∧ StrC B w x.value [c1]
theorem HeadR.kept : Kept HeadR := by
  rintro B B' w w' x cs ⟨c0, c1, rfl, h0, h1⟩ hk hB
  exact ⟨c0, c1, rfl, StrC.kept _ _ _ _ _ _ h0 hk hB, StrC.kept _ _ _ _ _ _ h1 hk hB⟩
theorem cells_Head : Tryz.prog.cellsOf 94 = 2 := by kernel_rfl
set_option maxRecDepth 100000 in
theorem head_opens : Opens 94 HeadR := by
  intro H enc w base spare held fuel cs x h
  obtain ⟨xs, n, _, hx, hlen, hxl, hf⟩ := DataW.trod_struct Tryz.underlying94 h
  have hl := hlen.trans cells_Head
  obtain ⟨c0, c1, rfl⟩ : ∃ c0 c1, cs = [c0, c1] := by
    match cs, hl with
    | [c0, c1], _ => exact ⟨c0, c1, rfl⟩
  obtain ⟨y0, y1, rfl⟩ : ∃ y0 y1, xs = [y0, y1] := by
    match xs, hxl with
    | [y0, y1], _ => exact ⟨y0, y1, rfl⟩
  have f0 : DataW.trod enc Tryz.prog w base spare held n 9 [c0] = some y0 := by
    have := hf 0 _ rfl
    simpa [one_string] using this
  obtain ⟨v0, r0⟩ := (opens_str Tryz.underlying9) H enc w base spare held n [c0] y0 f0
  have f1 : DataW.trod enc Tryz.prog w base spare held n 9 [c1] = some y1 := by
    have := hf 1 _ rfl
    simpa [one_string] using this
  obtain ⟨v1, r1⟩ := (opens_str Tryz.underlying9) H enc w base spare held n [c1] y1 f1
  exact ⟨⟨v0, v1⟩, c0, c1, rfl, r0, r1⟩
end Go.Proofs.YtlcecabfmemfeaaGreat.Opn
