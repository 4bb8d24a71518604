/-
  NARROWER THAN 'FOR EVERY INPUT', by the rows' own cells (each row's printed sentence says how): PathAlike: laid · PathQuery: laid · PathNormal: laid · PathJoin: laid.
  DERIVED. THE GIVEN ROWS OF THIS SEAT. 4 by the template 'for every input the law returns true; each argument reads behind the call as it read before'; 0 by the template 'total and deterministic' (their statements: YtkmhaijefpgfiaaDoorTotals.lean).
  GIVEN WITH THE SEED: the statements are not yours to turn. If you find one false, say at which input.
  Laid BY PROGRAM, IN A SANDBOX (cutbox-rows.mjs): the forced cells as the released guide's own fill.sh prints them over the translation 8013e7fcf100f2e6… (all of the seat's roots in one cut). By AI agents, Wed Nov 11 2026. No macro, syntax, notation, axiom, sorry.
-/
import Derived.Test.YtkmhaijefpgfiaaDoorChecked
import GoSem.PinnedTables
import GoSem.Claim
import GoSem.ClaimJoined
import GoSem.ClaimMapViews
import Derived.JoinedTies
import Derived.KernelRfl
namespace Go.Proofs.YtkmhaijefpgfiaaDoor
/- THE CELL 'sum', in the pinned program and in every row, IS THE sha256 OF THE DUMP (.gsa) THAT YtkmhaijefpgfiaaDoorProg.lean LOADS. Nothing in Lean hashes anything: it is a label: what it is worth is what the hold of that sum in a sandbox is worth. -/
noncomputable def Tryd.pinned : Pinned := { name := "ytkmhaijefpgfiaadoor", sum := "8013e7fcf100f2e6149d4ac2f3303bd6c15e72e0484b3b0487ecf1668414293c", checked := Tryd.checked }
namespace Rows
def none {H : Type} : Left H := { results := [], args := [] }

/- WHAT THE LISTED PACKAGE-LEVEL VARIABLES READ AS WHEN THE CALL BEGINS. Each datum BY PROGRAM (the guide's laid-datum.mjs) off the statement by which the dump's own 'gosem.cut.vars' lays the variable. In a bare row this is a premise. The card (YtkmhaijefpgfiaaDoorCards.lean) ties it to the program's text. -/
def laid_unicode_utf8_acceptRanges {H : Type} : DataW H := .agg [.agg [.lit (.int .u8 128), .lit (.int .u8 191)], .agg [.lit (.int .u8 160), .lit (.int .u8 191)], .agg [.lit (.int .u8 128), .lit (.int .u8 159)], .agg [.lit (.int .u8 144), .lit (.int .u8 191)], .agg [.lit (.int .u8 128), .lit (.int .u8 143)], .agg [.lit (.int .u8 0), .lit (.int .u8 0)], .agg [.lit (.int .u8 0), .lit (.int .u8 0)], .agg [.lit (.int .u8 0), .lit (.int .u8 0)], .agg [.lit (.int .u8 0), .lit (.int .u8 0)], .agg [.lit (.int .u8 0), .lit (.int .u8 0)], .agg [.lit (.int .u8 0), .lit (.int .u8 0)], .agg [.lit (.int .u8 0), .lit (.int .u8 0)], .agg [.lit (.int .u8 0), .lit (.int .u8 0)], .agg [.lit (.int .u8 0), .lit (.int .u8 0)], .agg [.lit (.int .u8 0), .lit (.int .u8 0)], .agg [.lit (.int .u8 0), .lit (.int .u8 0)]]
/-- One of Go's own tables, pinned by name: the form's constant. -/
def laid_unicode_utf8_first : DataW Unit := Go.Pinned.utf8First

/-- 'gatepostlaw08.PathAlike': WHATEVER THE INPUT: true; the input reads as it did. -/
def pathAlikeSpec : ChangeSpec := { name := "pathAlike", fn := fun _ => fun
  | [d1, d2, d3] => { results := [.lit (.bool true)], args := [d1, d2, d3] }
  | _ => none }
def pathAlikeRow : OpenClaim := { program := "ytkmhaijefpgfiaadoor", sum := "8013e7fcf100f2e6149d4ac2f3303bd6c15e72e0484b3b0487ecf1668414293c", func := "gatepost/gatepostlaw08.PathAlike", spec := "pathAlike", inPlace := ["internal/bytealg.IndexByteString", "internal/bytealg.IndexString", "internal/abi.NoEscape", "internal/bytealg.MakeNoZero"], unfollowed := true, recurses := true, named := ["internal/bytealg.MaxLen", "unicode/utf8.first", "unicode/utf8.acceptRanges"], apart := false, laid := [("unicode/utf8.acceptRanges", laid_unicode_utf8_acceptRanges), ("unicode/utf8.first", laid_unicode_utf8_first)] }
def PathAlikeSaid : Prop := pathAlikeRow.holds Tryd.pinned (OpenSpec.ofChange pathAlikeSpec)

/-- ITS FALSE NEIGHBOUR: 'it returns false'. Refute it at one input. -/
def pathAlikeWrong : ChangeSpec := { name := "pathAlike", fn := fun _ => fun
  | [d1, d2, d3] => { results := [.lit (.bool false)], args := [d1, d2, d3] }
  | _ => none }
def PathAlikeWrongFalsely : Prop := pathAlikeRow.holds Tryd.pinned (OpenSpec.ofChange pathAlikeWrong)

/-- 'gatepostlaw08.PathQuery': WHATEVER THE INPUT: true; the input reads as it did. -/
def pathQuerySpec : ChangeSpec := { name := "pathQuery", fn := fun _ => fun
  | [d1, d2, d3] => { results := [.lit (.bool true)], args := [d1, d2, d3] }
  | _ => none }
def pathQueryRow : OpenClaim := { program := "ytkmhaijefpgfiaadoor", sum := "8013e7fcf100f2e6149d4ac2f3303bd6c15e72e0484b3b0487ecf1668414293c", func := "gatepost/gatepostlaw08.PathQuery", spec := "pathQuery", inPlace := ["internal/bytealg.IndexByteString", "internal/bytealg.IndexString", "internal/abi.NoEscape", "internal/bytealg.MakeNoZero"], unfollowed := true, recurses := true, named := ["internal/bytealg.MaxLen", "unicode/utf8.first", "unicode/utf8.acceptRanges"], apart := false, laid := [("unicode/utf8.acceptRanges", laid_unicode_utf8_acceptRanges), ("unicode/utf8.first", laid_unicode_utf8_first)] }
def PathQuerySaid : Prop := pathQueryRow.holds Tryd.pinned (OpenSpec.ofChange pathQuerySpec)

/-- ITS FALSE NEIGHBOUR: 'it returns false'. Refute it at one input. -/
def pathQueryWrong : ChangeSpec := { name := "pathQuery", fn := fun _ => fun
  | [d1, d2, d3] => { results := [.lit (.bool false)], args := [d1, d2, d3] }
  | _ => none }
def PathQueryWrongFalsely : Prop := pathQueryRow.holds Tryd.pinned (OpenSpec.ofChange pathQueryWrong)

/-- 'gatepostlaw08.PathNormal': WHATEVER THE INPUT: true; the input reads as it did. -/
def pathNormalSpec : ChangeSpec := { name := "pathNormal", fn := fun _ => fun
  | [d] => { results := [.lit (.bool true)], args := [d] }
  | _ => none }
def pathNormalRow : OpenClaim := { program := "ytkmhaijefpgfiaadoor", sum := "8013e7fcf100f2e6149d4ac2f3303bd6c15e72e0484b3b0487ecf1668414293c", func := "gatepost/gatepostlaw08.PathNormal", spec := "pathNormal", inPlace := ["internal/bytealg.IndexByteString", "internal/bytealg.IndexString", "internal/abi.NoEscape", "internal/bytealg.MakeNoZero"], unfollowed := true, recurses := true, named := ["internal/bytealg.MaxLen", "unicode/utf8.first", "unicode/utf8.acceptRanges"], apart := false, laid := [("unicode/utf8.acceptRanges", laid_unicode_utf8_acceptRanges), ("unicode/utf8.first", laid_unicode_utf8_first)] }
def PathNormalSaid : Prop := pathNormalRow.holds Tryd.pinned (OpenSpec.ofChange pathNormalSpec)

/-- ITS FALSE NEIGHBOUR: 'it returns false'. Refute it at one input. -/
def pathNormalWrong : ChangeSpec := { name := "pathNormal", fn := fun _ => fun
  | [d] => { results := [.lit (.bool false)], args := [d] }
  | _ => none }
def PathNormalWrongFalsely : Prop := pathNormalRow.holds Tryd.pinned (OpenSpec.ofChange pathNormalWrong)

/-- 'gatepostlaw08.PathJoin': WHATEVER THE INPUT: true; the input reads as it did. -/
def pathJoinSpec : ChangeSpec := { name := "pathJoin", fn := fun _ => fun
  | [d1, d2] => { results := [.lit (.bool true)], args := [d1, d2] }
  | _ => none }
def pathJoinRow : OpenClaim := { program := "ytkmhaijefpgfiaadoor", sum := "8013e7fcf100f2e6149d4ac2f3303bd6c15e72e0484b3b0487ecf1668414293c", func := "gatepost/gatepostlaw08.PathJoin", spec := "pathJoin", inPlace := ["internal/bytealg.IndexByteString", "internal/bytealg.IndexString", "internal/abi.NoEscape", "internal/bytealg.MakeNoZero"], unfollowed := true, recurses := true, named := ["internal/bytealg.MaxLen", "unicode/utf8.first", "unicode/utf8.acceptRanges"], apart := false, laid := [("unicode/utf8.acceptRanges", laid_unicode_utf8_acceptRanges), ("unicode/utf8.first", laid_unicode_utf8_first)] }
def PathJoinSaid : Prop := pathJoinRow.holds Tryd.pinned (OpenSpec.ofChange pathJoinSpec)

/-- ITS FALSE NEIGHBOUR: 'it returns false'. Refute it at one input. -/
def pathJoinWrong : ChangeSpec := { name := "pathJoin", fn := fun _ => fun
  | [d1, d2] => { results := [.lit (.bool false)], args := [d1, d2] }
  | _ => none }
def PathJoinWrongFalsely : Prop := pathJoinRow.holds Tryd.pinned (OpenSpec.ofChange pathJoinWrong)

/- THE SECOND FORM. 'bulk': how many values and letters a reading holds, each counted each time it is reached (what is shared counts as often as it is met; a slice's spare places count too). A statement '..UptoSaid' is the law's where the arguments, and the package variables that the reading takes, are together of bulk at most 1048576: NARROWER than '..Said'. Prove '..Said' where nothing that the law and all that it calls make is longer than what came in: it says more and counts as full. Else prove '..UptoSaid'. A law counts once. -/
mutual
def uptoBulk {H : Type} : DataW H → Nat
  | .lit (.string bytes) => bytes.length + 1
  | .lit _ => 1
  | .nil => 1
  | .ptr d => uptoBulk d + 1
  | .slice elems spare => uptoBulkAll elems + uptoBulkAll spare + 1
  | .agg parts => uptoBulkAll parts + 1
  | .iface _ d => uptoBulk d + 1
  | .map entries => uptoBulkEntries entries + 1
  | .held _ => 1
def uptoBulkAll {H : Type} : List (DataW H) → Nat
  | [] => 0
  | d :: r => uptoBulk d + uptoBulkAll r
def uptoBulkEntries {H : Type} : List (Lit × DataW H) → Nat
  | [] => 0
  | x :: r => uptoBulkEntry x + uptoBulkEntries r
def uptoBulkEntry {H : Type} : Lit × DataW H → Nat
  | (.string bytes, d) => bytes.length + uptoBulk d + 1
  | (_, d) => uptoBulk d + 1
 end
def uptoSmall : (H : Type) → List (DataW H) → Bool := fun _ ds => decide (uptoBulkAll ds ≤ 1048576)
def OpenSpec.upto (s : _root_.Go.ChangeSpec) : _root_.Go.OpenSpec := { _root_.Go.OpenSpec.ofChange s with cond := some uptoSmall }

/-- 'gatepostlaw08.PathAlike', WHERE WHAT IT READS IS OF BULK AT MOST 1048576: true; the input reads as it did. -/
def pathAlikeUptoRow : OpenClaim := { program := "ytkmhaijefpgfiaadoor", sum := "8013e7fcf100f2e6149d4ac2f3303bd6c15e72e0484b3b0487ecf1668414293c", func := "gatepost/gatepostlaw08.PathAlike", spec := "pathAlike", inPlace := ["internal/bytealg.IndexByteString", "internal/bytealg.IndexString", "internal/abi.NoEscape", "internal/bytealg.MakeNoZero"], unfollowed := true, recurses := true, named := ["internal/bytealg.MaxLen", "unicode/utf8.first", "unicode/utf8.acceptRanges"], apart := false, laid := [("unicode/utf8.acceptRanges", laid_unicode_utf8_acceptRanges), ("unicode/utf8.first", laid_unicode_utf8_first)], narrowed := true }
def PathAlikeUptoSaid : Prop := pathAlikeUptoRow.holds Tryd.pinned (OpenSpec.upto pathAlikeSpec)

/-- 'gatepostlaw08.PathQuery', WHERE WHAT IT READS IS OF BULK AT MOST 1048576: true; the input reads as it did. -/
def pathQueryUptoRow : OpenClaim := { program := "ytkmhaijefpgfiaadoor", sum := "8013e7fcf100f2e6149d4ac2f3303bd6c15e72e0484b3b0487ecf1668414293c", func := "gatepost/gatepostlaw08.PathQuery", spec := "pathQuery", inPlace := ["internal/bytealg.IndexByteString", "internal/bytealg.IndexString", "internal/abi.NoEscape", "internal/bytealg.MakeNoZero"], unfollowed := true, recurses := true, named := ["internal/bytealg.MaxLen", "unicode/utf8.first", "unicode/utf8.acceptRanges"], apart := false, laid := [("unicode/utf8.acceptRanges", laid_unicode_utf8_acceptRanges), ("unicode/utf8.first", laid_unicode_utf8_first)], narrowed := true }
def PathQueryUptoSaid : Prop := pathQueryUptoRow.holds Tryd.pinned (OpenSpec.upto pathQuerySpec)

/-- 'gatepostlaw08.PathNormal', WHERE WHAT IT READS IS OF BULK AT MOST 1048576: true; the input reads as it did. -/
def pathNormalUptoRow : OpenClaim := { program := "ytkmhaijefpgfiaadoor", sum := "8013e7fcf100f2e6149d4ac2f3303bd6c15e72e0484b3b0487ecf1668414293c", func := "gatepost/gatepostlaw08.PathNormal", spec := "pathNormal", inPlace := ["internal/bytealg.IndexByteString", "internal/bytealg.IndexString", "internal/abi.NoEscape", "internal/bytealg.MakeNoZero"], unfollowed := true, recurses := true, named := ["internal/bytealg.MaxLen", "unicode/utf8.first", "unicode/utf8.acceptRanges"], apart := false, laid := [("unicode/utf8.acceptRanges", laid_unicode_utf8_acceptRanges), ("unicode/utf8.first", laid_unicode_utf8_first)], narrowed := true }
def PathNormalUptoSaid : Prop := pathNormalUptoRow.holds Tryd.pinned (OpenSpec.upto pathNormalSpec)

/-- 'gatepostlaw08.PathJoin', WHERE WHAT IT READS IS OF BULK AT MOST 1048576: true; the input reads as it did. -/
def pathJoinUptoRow : OpenClaim := { program := "ytkmhaijefpgfiaadoor", sum := "8013e7fcf100f2e6149d4ac2f3303bd6c15e72e0484b3b0487ecf1668414293c", func := "gatepost/gatepostlaw08.PathJoin", spec := "pathJoin", inPlace := ["internal/bytealg.IndexByteString", "internal/bytealg.IndexString", "internal/abi.NoEscape", "internal/bytealg.MakeNoZero"], unfollowed := true, recurses := true, named := ["internal/bytealg.MaxLen", "unicode/utf8.first", "unicode/utf8.acceptRanges"], apart := false, laid := [("unicode/utf8.acceptRanges", laid_unicode_utf8_acceptRanges), ("unicode/utf8.first", laid_unicode_utf8_first)], narrowed := true }
def PathJoinUptoSaid : Prop := pathJoinUptoRow.holds Tryd.pinned (OpenSpec.upto pathJoinSpec)

end Rows
end Go.Proofs.YtkmhaijefpgfiaaDoor
