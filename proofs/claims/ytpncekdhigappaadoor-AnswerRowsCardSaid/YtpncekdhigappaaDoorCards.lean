/-
  DERIVED. GIVEN WITH THE SEED: THE CARDS: each row of YtpncekdhigappaaDoorRows.lean that lists a variable, with what it lists TIED to the program's text (the seventh form; the later family's looks); each row that meets fmt, with fmt's text TOLD by the authors' own Lean function (tested against real Go, not proved from fmt's source: count such statements apart). THE CARD IS WHAT COUNTS. Prove the row's statement (the work); the ties are given (YtpncekdhigappaaDoorTie.lean); close each card by the builder's one call (the guide's Derived/Test/ToyasCard.lean, 'card_holds'). Laid BY PROGRAM, IN A SANDBOX (cutbox-door.mjs). By AI agents, Wed Nov 11 2026. No macro, syntax, notation, axiom, sorry.
-/
import Derived.Test.YtpncekdhigappaaDoorRows
import GoSem.ClaimSeven
namespace Go.Proofs.YtpncekdhigappaaDoor
namespace Rows

/-- THE TIED CARD OF 'gatepostlaw11.AnswerSimple'. -/
def answerSimpleCard : Claim7 := { stood := { row := answerSimpleRow, standIns := [], harness := (true, "22b56e51bfc5a329761288bbedf0e132be17edbca34c9278b3da47521a819130"), looks := false }, kinds := [], alts := [], laidByText := true, laidKinds := [.data, .pinned], laidTests := true, laidLooks := .later }
def AnswerSimpleCardSaid : Prop := Claim7.holds Tryd.pinned (.plain (OpenSpec.ofChange answerSimpleSpec)) answerSimpleCard

/-- THE TIED CARD OF 'gatepostlaw11.AnswerRows'. -/
def answerRowsCard : Claim7 := { stood := { row := answerRowsRow, standIns := [], harness := (true, "22b56e51bfc5a329761288bbedf0e132be17edbca34c9278b3da47521a819130"), looks := false }, kinds := [], alts := [], laidByText := true, laidKinds := [.data, .pinned], laidTests := true, laidLooks := .later }
def AnswerRowsCardSaid : Prop := Claim7.holds Tryd.pinned (.plain (OpenSpec.ofChange answerRowsSpec)) answerRowsCard

/-- THE SECOND FORM's CARD OF 'gatepostlaw11.AnswerSimple'. -/
def answerSimpleUptoCard : Claim7 := { stood := { row := answerSimpleUptoRow, standIns := [], harness := (true, "22b56e51bfc5a329761288bbedf0e132be17edbca34c9278b3da47521a819130"), looks := false }, kinds := [], alts := [], laidByText := true, laidKinds := [.data, .pinned], laidTests := true, laidLooks := .later }
def AnswerSimpleUptoCardSaid : Prop := Claim7.holds Tryd.pinned (.plain (OpenSpec.upto answerSimpleSpec)) answerSimpleUptoCard

/-- THE SECOND FORM's CARD OF 'gatepostlaw11.AnswerRows'. -/
def answerRowsUptoCard : Claim7 := { stood := { row := answerRowsUptoRow, standIns := [], harness := (true, "22b56e51bfc5a329761288bbedf0e132be17edbca34c9278b3da47521a819130"), looks := false }, kinds := [], alts := [], laidByText := true, laidKinds := [.data, .pinned], laidTests := true, laidLooks := .later }
def AnswerRowsUptoCardSaid : Prop := Claim7.holds Tryd.pinned (.plain (OpenSpec.upto answerRowsSpec)) answerRowsUptoCard
end Rows
end Go.Proofs.YtpncekdhigappaaDoor
