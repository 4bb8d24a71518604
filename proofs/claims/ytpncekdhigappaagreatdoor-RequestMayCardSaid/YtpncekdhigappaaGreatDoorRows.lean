/-
  NARROWER THAN 'FOR EVERY INPUT', by the rows' own cells (each row's printed sentence says how): AnswerOf: laid · AnswerMay: laid · RequestReads: laid · RequestOne: laid · RequestPieces: laid · RequestAlone: laid · RequestOf: laid · RequestMay: laid · RequestBack: laid · RequestBare: laid · RequestRows: laid · AnswerBack: laid.
  DERIVED. THE GIVEN ROWS OF THIS SEAT. 12 by the template 'for every input the law returns true; each argument reads behind the call as it read before'; 0 by the template 'total and deterministic' (their statements: YtpncekdhigappaaGreatDoorTotals.lean).
  GIVEN WITH THE SEED: the statements are not yours to turn. If you find one false, say at which input.
  Laid BY PROGRAM, IN A SANDBOX (cutbox-rows.mjs): the forced cells as the released guide's own fill.sh prints them over the translation f28af2c6f31bc38e… (all of the seat's roots in one cut). By AI agents, Wed Nov 11 2026. No macro, syntax, notation, axiom, sorry.
-/
import Derived.Test.YtpncekdhigappaaGreatDoorChecked
import GoSem.PinnedTables
import GoSem.Claim
import GoSem.ClaimJoined
import GoSem.ClaimMapViews
import Derived.JoinedTies
import Derived.KernelRfl
namespace Go.Proofs.YtpncekdhigappaaGreatDoor
/- THE CELL 'sum', in the pinned program and in every row, IS THE sha256 OF THE DUMP (.gsa) THAT YtpncekdhigappaaGreatDoorProg.lean LOADS. Nothing in Lean hashes anything: it is a label: what it is worth is what the hold of that sum in a sandbox is worth. -/
noncomputable def Tryz.pinned : Pinned := { name := "ytpncekdhigappaagreatdoor", sum := "f28af2c6f31bc38ee3dc33c78a02f8926872d49ecfd2bd8a6336073155600e9d", checked := Tryz.checked }
namespace Rows
def none {H : Type} : Left H := { results := [], args := [] }

/- WHAT THE LISTED PACKAGE-LEVEL VARIABLES READ AS WHEN THE CALL BEGINS. Each datum BY PROGRAM (the guide's laid-datum.mjs) off the statement by which the dump's own 'gosem.cut.vars' lays the variable. In a bare row this is a premise. The card (YtpncekdhigappaaGreatDoorCards.lean) ties it to the program's text. -/
def laid_unicode_utf8_acceptRanges {H : Type} : DataW H := .agg [.agg [.lit (.int .u8 128), .lit (.int .u8 191)], .agg [.lit (.int .u8 160), .lit (.int .u8 191)], .agg [.lit (.int .u8 128), .lit (.int .u8 159)], .agg [.lit (.int .u8 144), .lit (.int .u8 191)], .agg [.lit (.int .u8 128), .lit (.int .u8 143)], .agg [.lit (.int .u8 0), .lit (.int .u8 0)], .agg [.lit (.int .u8 0), .lit (.int .u8 0)], .agg [.lit (.int .u8 0), .lit (.int .u8 0)], .agg [.lit (.int .u8 0), .lit (.int .u8 0)], .agg [.lit (.int .u8 0), .lit (.int .u8 0)], .agg [.lit (.int .u8 0), .lit (.int .u8 0)], .agg [.lit (.int .u8 0), .lit (.int .u8 0)], .agg [.lit (.int .u8 0), .lit (.int .u8 0)], .agg [.lit (.int .u8 0), .lit (.int .u8 0)], .agg [.lit (.int .u8 0), .lit (.int .u8 0)], .agg [.lit (.int .u8 0), .lit (.int .u8 0)]]
/-- One of Go's own tables, pinned by name: the form's constant. -/
def laid_unicode_utf8_first : DataW Unit := Go.Pinned.utf8First

/-- 'gatepostlaw11.AnswerOf': WHATEVER THE INPUT: true; the input reads as it did. -/
def answerOfSpec : ChangeSpec := { name := "answerOf", fn := fun _ => fun
  | [d1, d2] => { results := [.lit (.bool true)], args := [d1, d2] }
  | _ => none }
def answerOfRow : OpenClaim := { program := "ytpncekdhigappaagreatdoor", sum := "f28af2c6f31bc38ee3dc33c78a02f8926872d49ecfd2bd8a6336073155600e9d", func := "gatepost/gatepostlaw11.AnswerOf", spec := "answerOf", inPlace := ["internal/bytealg.IndexByteString", "internal/bytealg.IndexString"], unfollowed := true, recurses := true, named := ["internal/bytealg.MaxLen", "unicode/utf8.first", "unicode/utf8.acceptRanges"], apart := false, laid := [("unicode/utf8.acceptRanges", laid_unicode_utf8_acceptRanges), ("unicode/utf8.first", laid_unicode_utf8_first)] }
def AnswerOfSaid : Prop := answerOfRow.holds Tryz.pinned (OpenSpec.ofChange answerOfSpec)

/-- ITS FALSE NEIGHBOUR: 'it returns false'. Refute it at one input. -/
def answerOfWrong : ChangeSpec := { name := "answerOf", fn := fun _ => fun
  | [d1, d2] => { results := [.lit (.bool false)], args := [d1, d2] }
  | _ => none }
def AnswerOfWrongFalsely : Prop := answerOfRow.holds Tryz.pinned (OpenSpec.ofChange answerOfWrong)

/-- 'gatepostlaw11.AnswerMay': WHATEVER THE INPUT: true; the input reads as it did. -/
def answerMaySpec : ChangeSpec := { name := "answerMay", fn := fun _ => fun
  | [d1, d2] => { results := [.lit (.bool true)], args := [d1, d2] }
  | _ => none }
def answerMayRow : OpenClaim := { program := "ytpncekdhigappaagreatdoor", sum := "f28af2c6f31bc38ee3dc33c78a02f8926872d49ecfd2bd8a6336073155600e9d", func := "gatepost/gatepostlaw11.AnswerMay", spec := "answerMay", inPlace := ["internal/bytealg.IndexByteString", "internal/bytealg.IndexString"], unfollowed := true, recurses := true, named := ["internal/bytealg.MaxLen", "unicode/utf8.first", "unicode/utf8.acceptRanges"], apart := false, laid := [("unicode/utf8.acceptRanges", laid_unicode_utf8_acceptRanges), ("unicode/utf8.first", laid_unicode_utf8_first)] }
def AnswerMaySaid : Prop := answerMayRow.holds Tryz.pinned (OpenSpec.ofChange answerMaySpec)

/-- ITS FALSE NEIGHBOUR: 'it returns false'. Refute it at one input. -/
def answerMayWrong : ChangeSpec := { name := "answerMay", fn := fun _ => fun
  | [d1, d2] => { results := [.lit (.bool false)], args := [d1, d2] }
  | _ => none }
def AnswerMayWrongFalsely : Prop := answerMayRow.holds Tryz.pinned (OpenSpec.ofChange answerMayWrong)

/-- 'gatepostlaw10.RequestReads': WHATEVER THE INPUT: true; the input reads as it did. -/
def requestReadsSpec : ChangeSpec := { name := "requestReads", fn := fun _ => fun
  | [d1, d2] => { results := [.lit (.bool true)], args := [d1, d2] }
  | _ => none }
def requestReadsRow : OpenClaim := { program := "ytpncekdhigappaagreatdoor", sum := "f28af2c6f31bc38ee3dc33c78a02f8926872d49ecfd2bd8a6336073155600e9d", func := "gatepost/gatepostlaw10.RequestReads", spec := "requestReads", inPlace := ["internal/bytealg.IndexByteString", "internal/bytealg.IndexString", "internal/bytealg.CountString", "internal/abi.NoEscape", "internal/bytealg.MakeNoZero"], unfollowed := true, recurses := true, named := ["internal/bytealg.MaxLen", "unicode/utf8.first", "unicode/utf8.acceptRanges"], apart := false, laid := [("unicode/utf8.acceptRanges", laid_unicode_utf8_acceptRanges), ("unicode/utf8.first", laid_unicode_utf8_first)] }
def RequestReadsSaid : Prop := requestReadsRow.holds Tryz.pinned (OpenSpec.ofChange requestReadsSpec)

/-- ITS FALSE NEIGHBOUR: 'it returns false'. Refute it at one input. -/
def requestReadsWrong : ChangeSpec := { name := "requestReads", fn := fun _ => fun
  | [d1, d2] => { results := [.lit (.bool false)], args := [d1, d2] }
  | _ => none }
def RequestReadsWrongFalsely : Prop := requestReadsRow.holds Tryz.pinned (OpenSpec.ofChange requestReadsWrong)

/-- 'gatepostlaw10.RequestOne': WHATEVER THE INPUT: true; the input reads as it did. -/
def requestOneSpec : ChangeSpec := { name := "requestOne", fn := fun _ => fun
  | [d] => { results := [.lit (.bool true)], args := [d] }
  | _ => none }
def requestOneRow : OpenClaim := { program := "ytpncekdhigappaagreatdoor", sum := "f28af2c6f31bc38ee3dc33c78a02f8926872d49ecfd2bd8a6336073155600e9d", func := "gatepost/gatepostlaw10.RequestOne", spec := "requestOne", inPlace := ["internal/bytealg.IndexByteString", "internal/bytealg.IndexString", "internal/bytealg.CountString", "internal/abi.NoEscape", "internal/bytealg.MakeNoZero"], unfollowed := true, recurses := true, named := ["internal/bytealg.MaxLen", "unicode/utf8.first", "unicode/utf8.acceptRanges"], apart := false, laid := [("unicode/utf8.acceptRanges", laid_unicode_utf8_acceptRanges), ("unicode/utf8.first", laid_unicode_utf8_first)] }
def RequestOneSaid : Prop := requestOneRow.holds Tryz.pinned (OpenSpec.ofChange requestOneSpec)

/-- ITS FALSE NEIGHBOUR: 'it returns false'. Refute it at one input. -/
def requestOneWrong : ChangeSpec := { name := "requestOne", fn := fun _ => fun
  | [d] => { results := [.lit (.bool false)], args := [d] }
  | _ => none }
def RequestOneWrongFalsely : Prop := requestOneRow.holds Tryz.pinned (OpenSpec.ofChange requestOneWrong)

/-- 'gatepostlaw10.RequestPieces': WHATEVER THE INPUT: true; the input reads as it did. -/
def requestPiecesSpec : ChangeSpec := { name := "requestPieces", fn := fun _ => fun
  | [d1, d2, d3] => { results := [.lit (.bool true)], args := [d1, d2, d3] }
  | _ => none }
def requestPiecesRow : OpenClaim := { program := "ytpncekdhigappaagreatdoor", sum := "f28af2c6f31bc38ee3dc33c78a02f8926872d49ecfd2bd8a6336073155600e9d", func := "gatepost/gatepostlaw10.RequestPieces", spec := "requestPieces", inPlace := ["internal/bytealg.IndexByteString", "internal/bytealg.IndexString", "internal/bytealg.CountString", "internal/abi.NoEscape", "internal/bytealg.MakeNoZero"], unfollowed := true, recurses := true, named := ["internal/bytealg.MaxLen", "unicode/utf8.first", "unicode/utf8.acceptRanges"], apart := false, laid := [("unicode/utf8.acceptRanges", laid_unicode_utf8_acceptRanges), ("unicode/utf8.first", laid_unicode_utf8_first)] }
def RequestPiecesSaid : Prop := requestPiecesRow.holds Tryz.pinned (OpenSpec.ofChange requestPiecesSpec)

/-- ITS FALSE NEIGHBOUR: 'it returns false'. Refute it at one input. -/
def requestPiecesWrong : ChangeSpec := { name := "requestPieces", fn := fun _ => fun
  | [d1, d2, d3] => { results := [.lit (.bool false)], args := [d1, d2, d3] }
  | _ => none }
def RequestPiecesWrongFalsely : Prop := requestPiecesRow.holds Tryz.pinned (OpenSpec.ofChange requestPiecesWrong)

/-- 'gatepostlaw10.RequestAlone': WHATEVER THE INPUT: true; the input reads as it did. -/
def requestAloneSpec : ChangeSpec := { name := "requestAlone", fn := fun _ => fun
  | [d1, d2, d3] => { results := [.lit (.bool true)], args := [d1, d2, d3] }
  | _ => none }
def requestAloneRow : OpenClaim := { program := "ytpncekdhigappaagreatdoor", sum := "f28af2c6f31bc38ee3dc33c78a02f8926872d49ecfd2bd8a6336073155600e9d", func := "gatepost/gatepostlaw10.RequestAlone", spec := "requestAlone", inPlace := ["internal/bytealg.IndexByteString", "internal/bytealg.IndexString", "internal/bytealg.CountString", "internal/abi.NoEscape", "internal/bytealg.MakeNoZero"], unfollowed := true, recurses := true, named := ["internal/bytealg.MaxLen", "unicode/utf8.first", "unicode/utf8.acceptRanges"], apart := false, laid := [("unicode/utf8.acceptRanges", laid_unicode_utf8_acceptRanges), ("unicode/utf8.first", laid_unicode_utf8_first)] }
def RequestAloneSaid : Prop := requestAloneRow.holds Tryz.pinned (OpenSpec.ofChange requestAloneSpec)

/-- ITS FALSE NEIGHBOUR: 'it returns false'. Refute it at one input. -/
def requestAloneWrong : ChangeSpec := { name := "requestAlone", fn := fun _ => fun
  | [d1, d2, d3] => { results := [.lit (.bool false)], args := [d1, d2, d3] }
  | _ => none }
def RequestAloneWrongFalsely : Prop := requestAloneRow.holds Tryz.pinned (OpenSpec.ofChange requestAloneWrong)

/-- 'gatepostlaw10.RequestOf': WHATEVER THE INPUT: true; the input reads as it did. -/
def requestOfSpec : ChangeSpec := { name := "requestOf", fn := fun _ => fun
  | [d] => { results := [.lit (.bool true)], args := [d] }
  | _ => none }
def requestOfRow : OpenClaim := { program := "ytpncekdhigappaagreatdoor", sum := "f28af2c6f31bc38ee3dc33c78a02f8926872d49ecfd2bd8a6336073155600e9d", func := "gatepost/gatepostlaw10.RequestOf", spec := "requestOf", inPlace := ["internal/bytealg.IndexByteString", "internal/bytealg.IndexString", "internal/bytealg.CountString", "internal/abi.NoEscape", "internal/bytealg.MakeNoZero"], unfollowed := true, recurses := true, named := ["internal/bytealg.MaxLen", "unicode/utf8.first", "unicode/utf8.acceptRanges"], apart := false, laid := [("unicode/utf8.acceptRanges", laid_unicode_utf8_acceptRanges), ("unicode/utf8.first", laid_unicode_utf8_first)] }
def RequestOfSaid : Prop := requestOfRow.holds Tryz.pinned (OpenSpec.ofChange requestOfSpec)

/-- ITS FALSE NEIGHBOUR: 'it returns false'. Refute it at one input. -/
def requestOfWrong : ChangeSpec := { name := "requestOf", fn := fun _ => fun
  | [d] => { results := [.lit (.bool false)], args := [d] }
  | _ => none }
def RequestOfWrongFalsely : Prop := requestOfRow.holds Tryz.pinned (OpenSpec.ofChange requestOfWrong)

/-- 'gatepostlaw10.RequestMay': WHATEVER THE INPUT: true; the input reads as it did. -/
def requestMaySpec : ChangeSpec := { name := "requestMay", fn := fun _ => fun
  | [d1, d2, d3] => { results := [.lit (.bool true)], args := [d1, d2, d3] }
  | _ => none }
def requestMayRow : OpenClaim := { program := "ytpncekdhigappaagreatdoor", sum := "f28af2c6f31bc38ee3dc33c78a02f8926872d49ecfd2bd8a6336073155600e9d", func := "gatepost/gatepostlaw10.RequestMay", spec := "requestMay", inPlace := ["internal/bytealg.IndexByteString", "internal/bytealg.IndexString", "internal/bytealg.CountString", "internal/abi.NoEscape", "internal/bytealg.MakeNoZero"], unfollowed := true, recurses := true, named := ["internal/bytealg.MaxLen", "unicode/utf8.first", "unicode/utf8.acceptRanges"], apart := false, laid := [("unicode/utf8.acceptRanges", laid_unicode_utf8_acceptRanges), ("unicode/utf8.first", laid_unicode_utf8_first)] }
def RequestMaySaid : Prop := requestMayRow.holds Tryz.pinned (OpenSpec.ofChange requestMaySpec)

/-- ITS FALSE NEIGHBOUR: 'it returns false'. Refute it at one input. -/
def requestMayWrong : ChangeSpec := { name := "requestMay", fn := fun _ => fun
  | [d1, d2, d3] => { results := [.lit (.bool false)], args := [d1, d2, d3] }
  | _ => none }
def RequestMayWrongFalsely : Prop := requestMayRow.holds Tryz.pinned (OpenSpec.ofChange requestMayWrong)

/-- 'gatepostlaw10.RequestBack': WHATEVER THE INPUT: true; the input reads as it did. -/
def requestBackSpec : ChangeSpec := { name := "requestBack", fn := fun _ => fun
  | [d1, d2] => { results := [.lit (.bool true)], args := [d1, d2] }
  | _ => none }
def requestBackRow : OpenClaim := { program := "ytpncekdhigappaagreatdoor", sum := "f28af2c6f31bc38ee3dc33c78a02f8926872d49ecfd2bd8a6336073155600e9d", func := "gatepost/gatepostlaw10.RequestBack", spec := "requestBack", inPlace := ["internal/bytealg.IndexByteString", "internal/bytealg.IndexString", "internal/bytealg.CountString", "internal/abi.NoEscape", "internal/bytealg.MakeNoZero"], unfollowed := true, recurses := true, named := ["internal/bytealg.MaxLen", "unicode/utf8.first", "unicode/utf8.acceptRanges"], apart := false, laid := [("unicode/utf8.acceptRanges", laid_unicode_utf8_acceptRanges), ("unicode/utf8.first", laid_unicode_utf8_first)] }
def RequestBackSaid : Prop := requestBackRow.holds Tryz.pinned (OpenSpec.ofChange requestBackSpec)

/-- ITS FALSE NEIGHBOUR: 'it returns false'. Refute it at one input. -/
def requestBackWrong : ChangeSpec := { name := "requestBack", fn := fun _ => fun
  | [d1, d2] => { results := [.lit (.bool false)], args := [d1, d2] }
  | _ => none }
def RequestBackWrongFalsely : Prop := requestBackRow.holds Tryz.pinned (OpenSpec.ofChange requestBackWrong)

/-- 'gatepostlaw10.RequestBare': WHATEVER THE INPUT: true; the input reads as it did. -/
def requestBareSpec : ChangeSpec := { name := "requestBare", fn := fun _ => fun
  | [d1, d2, d3] => { results := [.lit (.bool true)], args := [d1, d2, d3] }
  | _ => none }
def requestBareRow : OpenClaim := { program := "ytpncekdhigappaagreatdoor", sum := "f28af2c6f31bc38ee3dc33c78a02f8926872d49ecfd2bd8a6336073155600e9d", func := "gatepost/gatepostlaw10.RequestBare", spec := "requestBare", inPlace := ["internal/bytealg.IndexByteString", "internal/bytealg.IndexString", "internal/bytealg.CountString", "internal/abi.NoEscape", "internal/bytealg.MakeNoZero"], unfollowed := true, recurses := true, named := ["internal/bytealg.MaxLen", "unicode/utf8.first", "unicode/utf8.acceptRanges"], apart := false, laid := [("unicode/utf8.acceptRanges", laid_unicode_utf8_acceptRanges), ("unicode/utf8.first", laid_unicode_utf8_first)] }
def RequestBareSaid : Prop := requestBareRow.holds Tryz.pinned (OpenSpec.ofChange requestBareSpec)

/-- ITS FALSE NEIGHBOUR: 'it returns false'. Refute it at one input. -/
def requestBareWrong : ChangeSpec := { name := "requestBare", fn := fun _ => fun
  | [d1, d2, d3] => { results := [.lit (.bool false)], args := [d1, d2, d3] }
  | _ => none }
def RequestBareWrongFalsely : Prop := requestBareRow.holds Tryz.pinned (OpenSpec.ofChange requestBareWrong)

/-- 'gatepostlaw10.RequestRows': WHATEVER THE INPUT: true; the input reads as it did. -/
def requestRowsSpec : ChangeSpec := { name := "requestRows", fn := fun _ => fun
  | [d] => { results := [.lit (.bool true)], args := [d] }
  | _ => none }
def requestRowsRow : OpenClaim := { program := "ytpncekdhigappaagreatdoor", sum := "f28af2c6f31bc38ee3dc33c78a02f8926872d49ecfd2bd8a6336073155600e9d", func := "gatepost/gatepostlaw10.RequestRows", spec := "requestRows", inPlace := ["internal/bytealg.IndexByteString", "internal/bytealg.IndexString", "internal/bytealg.CountString", "internal/abi.NoEscape", "internal/bytealg.MakeNoZero"], unfollowed := true, recurses := true, named := ["internal/bytealg.MaxLen", "unicode/utf8.first", "unicode/utf8.acceptRanges"], apart := false, laid := [("unicode/utf8.acceptRanges", laid_unicode_utf8_acceptRanges), ("unicode/utf8.first", laid_unicode_utf8_first)] }
def RequestRowsSaid : Prop := requestRowsRow.holds Tryz.pinned (OpenSpec.ofChange requestRowsSpec)

/-- ITS FALSE NEIGHBOUR: 'it returns false'. Refute it at one input. -/
def requestRowsWrong : ChangeSpec := { name := "requestRows", fn := fun _ => fun
  | [d] => { results := [.lit (.bool false)], args := [d] }
  | _ => none }
def RequestRowsWrongFalsely : Prop := requestRowsRow.holds Tryz.pinned (OpenSpec.ofChange requestRowsWrong)

/-- 'gatepostlaw11.AnswerBack': WHATEVER THE INPUT: true; the input reads as it did. -/
def answerBackSpec : ChangeSpec := { name := "answerBack", fn := fun _ => fun
  | [d1, d2] => { results := [.lit (.bool true)], args := [d1, d2] }
  | _ => none }
def answerBackRow : OpenClaim := { program := "ytpncekdhigappaagreatdoor", sum := "f28af2c6f31bc38ee3dc33c78a02f8926872d49ecfd2bd8a6336073155600e9d", func := "gatepost/gatepostlaw11.AnswerBack", spec := "answerBack", inPlace := ["internal/bytealg.IndexByteString", "internal/bytealg.IndexString", "internal/bytealg.CountString", "internal/abi.NoEscape", "internal/bytealg.MakeNoZero"], unfollowed := true, recurses := true, named := ["internal/bytealg.MaxLen", "unicode/utf8.first", "unicode/utf8.acceptRanges"], apart := false, laid := [("unicode/utf8.acceptRanges", laid_unicode_utf8_acceptRanges), ("unicode/utf8.first", laid_unicode_utf8_first)] }
def AnswerBackSaid : Prop := answerBackRow.holds Tryz.pinned (OpenSpec.ofChange answerBackSpec)

/-- ITS FALSE NEIGHBOUR: 'it returns false'. Refute it at one input. -/
def answerBackWrong : ChangeSpec := { name := "answerBack", fn := fun _ => fun
  | [d1, d2] => { results := [.lit (.bool false)], args := [d1, d2] }
  | _ => none }
def AnswerBackWrongFalsely : Prop := answerBackRow.holds Tryz.pinned (OpenSpec.ofChange answerBackWrong)

/- THE SECOND FORM. 'bulk': how many values and letters a reading holds, each counted each time it is reached (what is shared counts as often as it is met; a slice's spare places count too). A statement '..UptoSaid' is the law's where the arguments, and the package variables that the reading takes, are together of bulk at most 1048576: NARROWER than '..Said'. Prove '..Said' where nothing that the law and all that it calls make is longer than what came in: it says more and counts as full. Else prove '..UptoSaid'. A law counts once. -/
mutual
def uptoBulk {H : Type} : DataW H → Nat
  | .lit (.string bytes) => bytes.length + 1
  | .lit _ => 1
  | .nil => 1
  | .ptr d => uptoBulk d + 1
  | .slice elems spare => uptoBulkAll elems + uptoBulkAll spare + 1
  | .agg parts => uptoBulkAll parts + 1
  | .iface _ d => uptoBulk d + 1
  | .map entries => uptoBulkEntries entries + 1
  | .held _ => 1
def uptoBulkAll {H : Type} : List (DataW H) → Nat
  | [] => 0
  | d :: r => uptoBulk d + uptoBulkAll r
def uptoBulkEntries {H : Type} : List (Lit × DataW H) → Nat
  | [] => 0
  | x :: r => uptoBulkEntry x + uptoBulkEntries r
def uptoBulkEntry {H : Type} : Lit × DataW H → Nat
  | (.string bytes, d) => bytes.length + uptoBulk d + 1
  | (_, d) => uptoBulk d + 1
 end
def uptoSmall : (H : Type) → List (DataW H) → Bool := fun _ ds => decide (uptoBulkAll ds ≤ 1048576)
def OpenSpec.upto (s : _root_.Go.ChangeSpec) : _root_.Go.OpenSpec := { _root_.Go.OpenSpec.ofChange s with cond := some uptoSmall }

/-- 'gatepostlaw11.AnswerOf', WHERE WHAT IT READS IS OF BULK AT MOST 1048576: true; the input reads as it did. -/
def answerOfUptoRow : OpenClaim := { program := "ytpncekdhigappaagreatdoor", sum := "f28af2c6f31bc38ee3dc33c78a02f8926872d49ecfd2bd8a6336073155600e9d", func := "gatepost/gatepostlaw11.AnswerOf", spec := "answerOf", inPlace := ["internal/bytealg.IndexByteString", "internal/bytealg.IndexString"], unfollowed := true, recurses := true, named := ["internal/bytealg.MaxLen", "unicode/utf8.first", "unicode/utf8.acceptRanges"], apart := false, laid := [("unicode/utf8.acceptRanges", laid_unicode_utf8_acceptRanges), ("unicode/utf8.first", laid_unicode_utf8_first)], narrowed := true }
def AnswerOfUptoSaid : Prop := answerOfUptoRow.holds Tryz.pinned (OpenSpec.upto answerOfSpec)

/-- 'gatepostlaw11.AnswerMay', WHERE WHAT IT READS IS OF BULK AT MOST 1048576: true; the input reads as it did. -/
def answerMayUptoRow : OpenClaim := { program := "ytpncekdhigappaagreatdoor", sum := "f28af2c6f31bc38ee3dc33c78a02f8926872d49ecfd2bd8a6336073155600e9d", func := "gatepost/gatepostlaw11.AnswerMay", spec := "answerMay", inPlace := ["internal/bytealg.IndexByteString", "internal/bytealg.IndexString"], unfollowed := true, recurses := true, named := ["internal/bytealg.MaxLen", "unicode/utf8.first", "unicode/utf8.acceptRanges"], apart := false, laid := [("unicode/utf8.acceptRanges", laid_unicode_utf8_acceptRanges), ("unicode/utf8.first", laid_unicode_utf8_first)], narrowed := true }
def AnswerMayUptoSaid : Prop := answerMayUptoRow.holds Tryz.pinned (OpenSpec.upto answerMaySpec)

/-- 'gatepostlaw10.RequestReads', WHERE WHAT IT READS IS OF BULK AT MOST 1048576: true; the input reads as it did. -/
def requestReadsUptoRow : OpenClaim := { program := "ytpncekdhigappaagreatdoor", sum := "f28af2c6f31bc38ee3dc33c78a02f8926872d49ecfd2bd8a6336073155600e9d", func := "gatepost/gatepostlaw10.RequestReads", spec := "requestReads", inPlace := ["internal/bytealg.IndexByteString", "internal/bytealg.IndexString", "internal/bytealg.CountString", "internal/abi.NoEscape", "internal/bytealg.MakeNoZero"], unfollowed := true, recurses := true, named := ["internal/bytealg.MaxLen", "unicode/utf8.first", "unicode/utf8.acceptRanges"], apart := false, laid := [("unicode/utf8.acceptRanges", laid_unicode_utf8_acceptRanges), ("unicode/utf8.first", laid_unicode_utf8_first)], narrowed := true }
def RequestReadsUptoSaid : Prop := requestReadsUptoRow.holds Tryz.pinned (OpenSpec.upto requestReadsSpec)

/-- 'gatepostlaw10.RequestOne', WHERE WHAT IT READS IS OF BULK AT MOST 1048576: true; the input reads as it did. -/
def requestOneUptoRow : OpenClaim := { program := "ytpncekdhigappaagreatdoor", sum := "f28af2c6f31bc38ee3dc33c78a02f8926872d49ecfd2bd8a6336073155600e9d", func := "gatepost/gatepostlaw10.RequestOne", spec := "requestOne", inPlace := ["internal/bytealg.IndexByteString", "internal/bytealg.IndexString", "internal/bytealg.CountString", "internal/abi.NoEscape", "internal/bytealg.MakeNoZero"], unfollowed := true, recurses := true, named := ["internal/bytealg.MaxLen", "unicode/utf8.first", "unicode/utf8.acceptRanges"], apart := false, laid := [("unicode/utf8.acceptRanges", laid_unicode_utf8_acceptRanges), ("unicode/utf8.first", laid_unicode_utf8_first)], narrowed := true }
def RequestOneUptoSaid : Prop := requestOneUptoRow.holds Tryz.pinned (OpenSpec.upto requestOneSpec)

/-- 'gatepostlaw10.RequestPieces', WHERE WHAT IT READS IS OF BULK AT MOST 1048576: true; the input reads as it did. -/
def requestPiecesUptoRow : OpenClaim := { program := "ytpncekdhigappaagreatdoor", sum := "f28af2c6f31bc38ee3dc33c78a02f8926872d49ecfd2bd8a6336073155600e9d", func := "gatepost/gatepostlaw10.RequestPieces", spec := "requestPieces", inPlace := ["internal/bytealg.IndexByteString", "internal/bytealg.IndexString", "internal/bytealg.CountString", "internal/abi.NoEscape", "internal/bytealg.MakeNoZero"], unfollowed := true, recurses := true, named := ["internal/bytealg.MaxLen", "unicode/utf8.first", "unicode/utf8.acceptRanges"], apart := false, laid := [("unicode/utf8.acceptRanges", laid_unicode_utf8_acceptRanges), ("unicode/utf8.first", laid_unicode_utf8_first)], narrowed := true }
def RequestPiecesUptoSaid : Prop := requestPiecesUptoRow.holds Tryz.pinned (OpenSpec.upto requestPiecesSpec)

/-- 'gatepostlaw10.RequestAlone', WHERE WHAT IT READS IS OF BULK AT MOST 1048576: true; the input reads as it did. -/
def requestAloneUptoRow : OpenClaim := { program := "ytpncekdhigappaagreatdoor", sum := "f28af2c6f31bc38ee3dc33c78a02f8926872d49ecfd2bd8a6336073155600e9d", func := "gatepost/gatepostlaw10.RequestAlone", spec := "requestAlone", inPlace := ["internal/bytealg.IndexByteString", "internal/bytealg.IndexString", "internal/bytealg.CountString", "internal/abi.NoEscape", "internal/bytealg.MakeNoZero"], unfollowed := true, recurses := true, named := ["internal/bytealg.MaxLen", "unicode/utf8.first", "unicode/utf8.acceptRanges"], apart := false, laid := [("unicode/utf8.acceptRanges", laid_unicode_utf8_acceptRanges), ("unicode/utf8.first", laid_unicode_utf8_first)], narrowed := true }
def RequestAloneUptoSaid : Prop := requestAloneUptoRow.holds Tryz.pinned (OpenSpec.upto requestAloneSpec)

/-- 'gatepostlaw10.RequestOf', WHERE WHAT IT READS IS OF BULK AT MOST 1048576: true; the input reads as it did. -/
def requestOfUptoRow : OpenClaim := { program := "ytpncekdhigappaagreatdoor", sum := "f28af2c6f31bc38ee3dc33c78a02f8926872d49ecfd2bd8a6336073155600e9d", func := "gatepost/gatepostlaw10.RequestOf", spec := "requestOf", inPlace := ["internal/bytealg.IndexByteString", "internal/bytealg.IndexString", "internal/bytealg.CountString", "internal/abi.NoEscape", "internal/bytealg.MakeNoZero"], unfollowed := true, recurses := true, named := ["internal/bytealg.MaxLen", "unicode/utf8.first", "unicode/utf8.acceptRanges"], apart := false, laid := [("unicode/utf8.acceptRanges", laid_unicode_utf8_acceptRanges), ("unicode/utf8.first", laid_unicode_utf8_first)], narrowed := true }
def RequestOfUptoSaid : Prop := requestOfUptoRow.holds Tryz.pinned (OpenSpec.upto requestOfSpec)

/-- 'gatepostlaw10.RequestMay', WHERE WHAT IT READS IS OF BULK AT MOST 1048576: true; the input reads as it did. -/
def requestMayUptoRow : OpenClaim := { program := "ytpncekdhigappaagreatdoor", sum := "f28af2c6f31bc38ee3dc33c78a02f8926872d49ecfd2bd8a6336073155600e9d", func := "gatepost/gatepostlaw10.RequestMay", spec := "requestMay", inPlace := ["internal/bytealg.IndexByteString", "internal/bytealg.IndexString", "internal/bytealg.CountString", "internal/abi.NoEscape", "internal/bytealg.MakeNoZero"], unfollowed := true, recurses := true, named := ["internal/bytealg.MaxLen", "unicode/utf8.first", "unicode/utf8.acceptRanges"], apart := false, laid := [("unicode/utf8.acceptRanges", laid_unicode_utf8_acceptRanges), ("unicode/utf8.first", laid_unicode_utf8_first)], narrowed := true }
def RequestMayUptoSaid : Prop := requestMayUptoRow.holds Tryz.pinned (OpenSpec.upto requestMaySpec)

/-- 'gatepostlaw10.RequestBack', WHERE WHAT IT READS IS OF BULK AT MOST 1048576: true; the input reads as it did. -/
def requestBackUptoRow : OpenClaim := { program := "ytpncekdhigappaagreatdoor", sum := "f28af2c6f31bc38ee3dc33c78a02f8926872d49ecfd2bd8a6336073155600e9d", func := "gatepost/gatepostlaw10.RequestBack", spec := "requestBack", inPlace := ["internal/bytealg.IndexByteString", "internal/bytealg.IndexString", "internal/bytealg.CountString", "internal/abi.NoEscape", "internal/bytealg.MakeNoZero"], unfollowed := true, recurses := true, named := ["internal/bytealg.MaxLen", "unicode/utf8.first", "unicode/utf8.acceptRanges"], apart := false, laid := [("unicode/utf8.acceptRanges", laid_unicode_utf8_acceptRanges), ("unicode/utf8.first", laid_unicode_utf8_first)], narrowed := true }
def RequestBackUptoSaid : Prop := requestBackUptoRow.holds Tryz.pinned (OpenSpec.upto requestBackSpec)

/-- 'gatepostlaw10.RequestBare', WHERE WHAT IT READS IS OF BULK AT MOST 1048576: true; the input reads as it did. -/
def requestBareUptoRow : OpenClaim := { program := "ytpncekdhigappaagreatdoor", sum := "f28af2c6f31bc38ee3dc33c78a02f8926872d49ecfd2bd8a6336073155600e9d", func := "gatepost/gatepostlaw10.RequestBare", spec := "requestBare", inPlace := ["internal/bytealg.IndexByteString", "internal/bytealg.IndexString", "internal/bytealg.CountString", "internal/abi.NoEscape", "internal/bytealg.MakeNoZero"], unfollowed := true, recurses := true, named := ["internal/bytealg.MaxLen", "unicode/utf8.first", "unicode/utf8.acceptRanges"], apart := false, laid := [("unicode/utf8.acceptRanges", laid_unicode_utf8_acceptRanges), ("unicode/utf8.first", laid_unicode_utf8_first)], narrowed := true }
def RequestBareUptoSaid : Prop := requestBareUptoRow.holds Tryz.pinned (OpenSpec.upto requestBareSpec)

/-- 'gatepostlaw10.RequestRows', WHERE WHAT IT READS IS OF BULK AT MOST 1048576: true; the input reads as it did. -/
def requestRowsUptoRow : OpenClaim := { program := "ytpncekdhigappaagreatdoor", sum := "f28af2c6f31bc38ee3dc33c78a02f8926872d49ecfd2bd8a6336073155600e9d", func := "gatepost/gatepostlaw10.RequestRows", spec := "requestRows", inPlace := ["internal/bytealg.IndexByteString", "internal/bytealg.IndexString", "internal/bytealg.CountString", "internal/abi.NoEscape", "internal/bytealg.MakeNoZero"], unfollowed := true, recurses := true, named := ["internal/bytealg.MaxLen", "unicode/utf8.first", "unicode/utf8.acceptRanges"], apart := false, laid := [("unicode/utf8.acceptRanges", laid_unicode_utf8_acceptRanges), ("unicode/utf8.first", laid_unicode_utf8_first)], narrowed := true }
def RequestRowsUptoSaid : Prop := requestRowsUptoRow.holds Tryz.pinned (OpenSpec.upto requestRowsSpec)

/-- 'gatepostlaw11.AnswerBack', WHERE WHAT IT READS IS OF BULK AT MOST 1048576: true; the input reads as it did. -/
def answerBackUptoRow : OpenClaim := { program := "ytpncekdhigappaagreatdoor", sum := "f28af2c6f31bc38ee3dc33c78a02f8926872d49ecfd2bd8a6336073155600e9d", func := "gatepost/gatepostlaw11.AnswerBack", spec := "answerBack", inPlace := ["internal/bytealg.IndexByteString", "internal/bytealg.IndexString", "internal/bytealg.CountString", "internal/abi.NoEscape", "internal/bytealg.MakeNoZero"], unfollowed := true, recurses := true, named := ["internal/bytealg.MaxLen", "unicode/utf8.first", "unicode/utf8.acceptRanges"], apart := false, laid := [("unicode/utf8.acceptRanges", laid_unicode_utf8_acceptRanges), ("unicode/utf8.first", laid_unicode_utf8_first)], narrowed := true }
def AnswerBackUptoSaid : Prop := answerBackUptoRow.holds Tryz.pinned (OpenSpec.upto answerBackSpec)

end Rows
end Go.Proofs.YtpncekdhigappaaGreatDoor
