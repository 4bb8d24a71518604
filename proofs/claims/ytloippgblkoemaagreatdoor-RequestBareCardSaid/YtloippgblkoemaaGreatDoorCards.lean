/-
  DERIVED. GIVEN WITH THE SEED: THE CARDS: each row of YtloippgblkoemaaGreatDoorRows.lean that lists a variable, with what it lists TIED to the program's text (the seventh form; the later family's looks); each row that meets fmt, with fmt's text TOLD by the authors' own Lean function (tested against real Go, not proved from fmt's source: count such statements apart). THE CARD IS WHAT COUNTS. Prove the row's statement (the work); the ties are given (YtloippgblkoemaaGreatDoorTie.lean); close each card by the builder's one call (the guide's Derived/Test/ToyasCard.lean, 'card_holds'). Laid BY PROGRAM, IN A SANDBOX (cutbox-door.mjs). By AI agents, Wed Nov 11 2026. No macro, syntax, notation, axiom, sorry.
-/
import Derived.Test.YtloippgblkoemaaGreatDoorRows
import GoSem.ClaimSeven
namespace Go.Proofs.YtloippgblkoemaaGreatDoor
namespace Rows

/-- THE TIED CARD OF 'gatepostlaw11.AnswerOf'. -/
def answerOfCard : Claim7 := { stood := { row := answerOfRow, standIns := [], harness := (true, "686bf398f2a0908182a28a1de9ffbf15619a3c0d16e7f4dbef0dd4082a1cbf71"), looks := false }, kinds := [], alts := [], laidByText := true, laidKinds := [.data, .pinned], laidTests := true, laidLooks := .later }
def AnswerOfCardSaid : Prop := Claim7.holds Tryz.pinned (.plain (OpenSpec.ofChange answerOfSpec)) answerOfCard

/-- THE TIED CARD OF 'gatepostlaw10.RequestBack'. -/
def requestBackCard : Claim7 := { stood := { row := requestBackRow, standIns := [], harness := (true, "686bf398f2a0908182a28a1de9ffbf15619a3c0d16e7f4dbef0dd4082a1cbf71"), looks := false }, kinds := [], alts := [], laidByText := true, laidKinds := [.data, .pinned], laidTests := true, laidLooks := .later }
def RequestBackCardSaid : Prop := Claim7.holds Tryz.pinned (.plain (OpenSpec.ofChange requestBackSpec)) requestBackCard

/-- THE TIED CARD OF 'gatepostlaw10.RequestBare'. -/
def requestBareCard : Claim7 := { stood := { row := requestBareRow, standIns := [], harness := (true, "686bf398f2a0908182a28a1de9ffbf15619a3c0d16e7f4dbef0dd4082a1cbf71"), looks := false }, kinds := [], alts := [], laidByText := true, laidKinds := [.data, .pinned], laidTests := true, laidLooks := .later }
def RequestBareCardSaid : Prop := Claim7.holds Tryz.pinned (.plain (OpenSpec.ofChange requestBareSpec)) requestBareCard

/-- THE SECOND FORM's CARD OF 'gatepostlaw11.AnswerOf'. -/
def answerOfUptoCard : Claim7 := { stood := { row := answerOfUptoRow, standIns := [], harness := (true, "686bf398f2a0908182a28a1de9ffbf15619a3c0d16e7f4dbef0dd4082a1cbf71"), looks := false }, kinds := [], alts := [], laidByText := true, laidKinds := [.data, .pinned], laidTests := true, laidLooks := .later }
def AnswerOfUptoCardSaid : Prop := Claim7.holds Tryz.pinned (.plain (OpenSpec.upto answerOfSpec)) answerOfUptoCard

/-- THE SECOND FORM's CARD OF 'gatepostlaw10.RequestBack'. -/
def requestBackUptoCard : Claim7 := { stood := { row := requestBackUptoRow, standIns := [], harness := (true, "686bf398f2a0908182a28a1de9ffbf15619a3c0d16e7f4dbef0dd4082a1cbf71"), looks := false }, kinds := [], alts := [], laidByText := true, laidKinds := [.data, .pinned], laidTests := true, laidLooks := .later }
def RequestBackUptoCardSaid : Prop := Claim7.holds Tryz.pinned (.plain (OpenSpec.upto requestBackSpec)) requestBackUptoCard

/-- THE SECOND FORM's CARD OF 'gatepostlaw10.RequestBare'. -/
def requestBareUptoCard : Claim7 := { stood := { row := requestBareUptoRow, standIns := [], harness := (true, "686bf398f2a0908182a28a1de9ffbf15619a3c0d16e7f4dbef0dd4082a1cbf71"), looks := false }, kinds := [], alts := [], laidByText := true, laidKinds := [.data, .pinned], laidTests := true, laidLooks := .later }
def RequestBareUptoCardSaid : Prop := Claim7.holds Tryz.pinned (.plain (OpenSpec.upto requestBareSpec)) requestBareUptoCard
end Rows
end Go.Proofs.YtloippgblkoemaaGreatDoor
