/-
  DERIVED. GIVEN WITH THE SEED: THE CARDS: each row of YtcpbdcamfhoiaaaDoorRows.lean that lists a variable, with what it lists TIED to the program's text (the seventh form; the later family's looks); each row that meets fmt, with fmt's text TOLD by the authors' own Lean function (tested against real Go, not proved from fmt's source: count such statements apart). THE CARD IS WHAT COUNTS. Prove the row's statement (the work); the ties are given (YtcpbdcamfhoiaaaDoorTie.lean); close each card by the builder's one call (the guide's Derived/Test/ToyasCard.lean, 'card_holds'). Laid BY PROGRAM, IN A SANDBOX (cutbox-door.mjs). By AI agents, Wed Nov 11 2026. No macro, syntax, notation, axiom, sorry.
-/
import Derived.Test.YtcpbdcamfhoiaaaDoorRows
import GoSem.ClaimSeven
namespace Go.Proofs.YtcpbdcamfhoiaaaDoor
namespace Rows

/-- THE TIED CARD OF 'gatepostlaw08.PathAlike'. -/
def pathAlikeCard : Claim7 := { stood := { row := pathAlikeRow, standIns := [], harness := (true, "defea27eaf92f32353f7bc314719e9ce7403796c8a97746a2fcad94a8eb3e525"), looks := false }, kinds := [], alts := [], laidByText := true, laidKinds := [.data, .pinned], laidTests := true, laidLooks := .later }
def PathAlikeCardSaid : Prop := Claim7.holds Tryd.pinned (.plain (OpenSpec.ofChange pathAlikeSpec)) pathAlikeCard

/-- THE TIED CARD OF 'gatepostlaw08.PathQuery'. -/
def pathQueryCard : Claim7 := { stood := { row := pathQueryRow, standIns := [], harness := (true, "defea27eaf92f32353f7bc314719e9ce7403796c8a97746a2fcad94a8eb3e525"), looks := false }, kinds := [], alts := [], laidByText := true, laidKinds := [.data, .pinned], laidTests := true, laidLooks := .later }
def PathQueryCardSaid : Prop := Claim7.holds Tryd.pinned (.plain (OpenSpec.ofChange pathQuerySpec)) pathQueryCard

/-- THE TIED CARD OF 'gatepostlaw08.PathNormal'. -/
def pathNormalCard : Claim7 := { stood := { row := pathNormalRow, standIns := [], harness := (true, "defea27eaf92f32353f7bc314719e9ce7403796c8a97746a2fcad94a8eb3e525"), looks := false }, kinds := [], alts := [], laidByText := true, laidKinds := [.data, .pinned], laidTests := true, laidLooks := .later }
def PathNormalCardSaid : Prop := Claim7.holds Tryd.pinned (.plain (OpenSpec.ofChange pathNormalSpec)) pathNormalCard

/-- THE TIED CARD OF 'gatepostlaw08.PathJoin'. -/
def pathJoinCard : Claim7 := { stood := { row := pathJoinRow, standIns := [], harness := (true, "defea27eaf92f32353f7bc314719e9ce7403796c8a97746a2fcad94a8eb3e525"), looks := false }, kinds := [], alts := [], laidByText := true, laidKinds := [.data, .pinned], laidTests := true, laidLooks := .later }
def PathJoinCardSaid : Prop := Claim7.holds Tryd.pinned (.plain (OpenSpec.ofChange pathJoinSpec)) pathJoinCard

/-- THE TIED CARD OF 'gatepostlaw09.HeadsFraming'. -/
def headsFramingCard : Claim7 := { stood := { row := headsFramingRow, standIns := [], harness := (true, "defea27eaf92f32353f7bc314719e9ce7403796c8a97746a2fcad94a8eb3e525"), looks := false }, kinds := [], alts := [], laidByText := true, laidKinds := [.data, .pinned], laidTests := true, laidLooks := .later }
def HeadsFramingCardSaid : Prop := Claim7.holds Tryd.pinned (.plain (OpenSpec.ofChange headsFramingSpec)) headsFramingCard

/-- THE TIED CARD OF 'gatepostlaw09.HeadsOne'. -/
def headsOneCard : Claim7 := { stood := { row := headsOneRow, standIns := [], harness := (true, "defea27eaf92f32353f7bc314719e9ce7403796c8a97746a2fcad94a8eb3e525"), looks := false }, kinds := [], alts := [], laidByText := true, laidKinds := [.data, .pinned], laidTests := true, laidLooks := .later }
def HeadsOneCardSaid : Prop := Claim7.holds Tryd.pinned (.plain (OpenSpec.ofChange headsOneSpec)) headsOneCard

/-- THE TIED CARD OF 'gatepostlaw09.HeadsBack'. -/
def headsBackCard : Claim7 := { stood := { row := headsBackRow, standIns := [], harness := (true, "defea27eaf92f32353f7bc314719e9ce7403796c8a97746a2fcad94a8eb3e525"), looks := false }, kinds := [], alts := [], laidByText := true, laidKinds := [.data, .pinned], laidTests := true, laidLooks := .later }
def HeadsBackCardSaid : Prop := Claim7.holds Tryd.pinned (.plain (OpenSpec.ofChange headsBackSpec)) headsBackCard

/-- THE TIED CARD OF 'gatepostlaw09.HeadsMay'. -/
def headsMayCard : Claim7 := { stood := { row := headsMayRow, standIns := [], harness := (true, "defea27eaf92f32353f7bc314719e9ce7403796c8a97746a2fcad94a8eb3e525"), looks := false }, kinds := [], alts := [], laidByText := true, laidKinds := [.data, .pinned], laidTests := true, laidLooks := .later }
def HeadsMayCardSaid : Prop := Claim7.holds Tryd.pinned (.plain (OpenSpec.ofChange headsMaySpec)) headsMayCard

/-- THE TIED CARD OF 'gatepostlaw09.HeadsTable'. -/
def headsTableCard : Claim7 := { stood := { row := headsTableRow, standIns := [], harness := (true, "defea27eaf92f32353f7bc314719e9ce7403796c8a97746a2fcad94a8eb3e525"), looks := false }, kinds := [], alts := [], laidByText := true, laidKinds := [.data, .pinned], laidTests := true, laidLooks := .later }
def HeadsTableCardSaid : Prop := Claim7.holds Tryd.pinned (.plain (OpenSpec.ofChange headsTableSpec)) headsTableCard

/-- THE TIED CARD OF 'gatepostlaw09.HeadsAdded'. -/
def headsAddedCard : Claim7 := { stood := { row := headsAddedRow, standIns := [], harness := (true, "defea27eaf92f32353f7bc314719e9ce7403796c8a97746a2fcad94a8eb3e525"), looks := false }, kinds := [], alts := [], laidByText := true, laidKinds := [.data, .pinned], laidTests := true, laidLooks := .later }
def HeadsAddedCardSaid : Prop := Claim7.holds Tryd.pinned (.plain (OpenSpec.ofChange headsAddedSpec)) headsAddedCard

/-- THE SECOND FORM's CARD OF 'gatepostlaw08.PathAlike'. -/
def pathAlikeUptoCard : Claim7 := { stood := { row := pathAlikeUptoRow, standIns := [], harness := (true, "defea27eaf92f32353f7bc314719e9ce7403796c8a97746a2fcad94a8eb3e525"), looks := false }, kinds := [], alts := [], laidByText := true, laidKinds := [.data, .pinned], laidTests := true, laidLooks := .later }
def PathAlikeUptoCardSaid : Prop := Claim7.holds Tryd.pinned (.plain (OpenSpec.upto pathAlikeSpec)) pathAlikeUptoCard

/-- THE SECOND FORM's CARD OF 'gatepostlaw08.PathQuery'. -/
def pathQueryUptoCard : Claim7 := { stood := { row := pathQueryUptoRow, standIns := [], harness := (true, "defea27eaf92f32353f7bc314719e9ce7403796c8a97746a2fcad94a8eb3e525"), looks := false }, kinds := [], alts := [], laidByText := true, laidKinds := [.data, .pinned], laidTests := true, laidLooks := .later }
def PathQueryUptoCardSaid : Prop := Claim7.holds Tryd.pinned (.plain (OpenSpec.upto pathQuerySpec)) pathQueryUptoCard

/-- THE SECOND FORM's CARD OF 'gatepostlaw08.PathNormal'. -/
def pathNormalUptoCard : Claim7 := { stood := { row := pathNormalUptoRow, standIns := [], harness := (true, "defea27eaf92f32353f7bc314719e9ce7403796c8a97746a2fcad94a8eb3e525"), looks := false }, kinds := [], alts := [], laidByText := true, laidKinds := [.data, .pinned], laidTests := true, laidLooks := .later }
def PathNormalUptoCardSaid : Prop := Claim7.holds Tryd.pinned (.plain (OpenSpec.upto pathNormalSpec)) pathNormalUptoCard

/-- THE SECOND FORM's CARD OF 'gatepostlaw08.PathJoin'. -/
def pathJoinUptoCard : Claim7 := { stood := { row := pathJoinUptoRow, standIns := [], harness := (true, "defea27eaf92f32353f7bc314719e9ce7403796c8a97746a2fcad94a8eb3e525"), looks := false }, kinds := [], alts := [], laidByText := true, laidKinds := [.data, .pinned], laidTests := true, laidLooks := .later }
def PathJoinUptoCardSaid : Prop := Claim7.holds Tryd.pinned (.plain (OpenSpec.upto pathJoinSpec)) pathJoinUptoCard

/-- THE SECOND FORM's CARD OF 'gatepostlaw09.HeadsFraming'. -/
def headsFramingUptoCard : Claim7 := { stood := { row := headsFramingUptoRow, standIns := [], harness := (true, "defea27eaf92f32353f7bc314719e9ce7403796c8a97746a2fcad94a8eb3e525"), looks := false }, kinds := [], alts := [], laidByText := true, laidKinds := [.data, .pinned], laidTests := true, laidLooks := .later }
def HeadsFramingUptoCardSaid : Prop := Claim7.holds Tryd.pinned (.plain (OpenSpec.upto headsFramingSpec)) headsFramingUptoCard

/-- THE SECOND FORM's CARD OF 'gatepostlaw09.HeadsOne'. -/
def headsOneUptoCard : Claim7 := { stood := { row := headsOneUptoRow, standIns := [], harness := (true, "defea27eaf92f32353f7bc314719e9ce7403796c8a97746a2fcad94a8eb3e525"), looks := false }, kinds := [], alts := [], laidByText := true, laidKinds := [.data, .pinned], laidTests := true, laidLooks := .later }
def HeadsOneUptoCardSaid : Prop := Claim7.holds Tryd.pinned (.plain (OpenSpec.upto headsOneSpec)) headsOneUptoCard

/-- THE SECOND FORM's CARD OF 'gatepostlaw09.HeadsBack'. -/
def headsBackUptoCard : Claim7 := { stood := { row := headsBackUptoRow, standIns := [], harness := (true, "defea27eaf92f32353f7bc314719e9ce7403796c8a97746a2fcad94a8eb3e525"), looks := false }, kinds := [], alts := [], laidByText := true, laidKinds := [.data, .pinned], laidTests := true, laidLooks := .later }
def HeadsBackUptoCardSaid : Prop := Claim7.holds Tryd.pinned (.plain (OpenSpec.upto headsBackSpec)) headsBackUptoCard

/-- THE SECOND FORM's CARD OF 'gatepostlaw09.HeadsMay'. -/
def headsMayUptoCard : Claim7 := { stood := { row := headsMayUptoRow, standIns := [], harness := (true, "defea27eaf92f32353f7bc314719e9ce7403796c8a97746a2fcad94a8eb3e525"), looks := false }, kinds := [], alts := [], laidByText := true, laidKinds := [.data, .pinned], laidTests := true, laidLooks := .later }
def HeadsMayUptoCardSaid : Prop := Claim7.holds Tryd.pinned (.plain (OpenSpec.upto headsMaySpec)) headsMayUptoCard

/-- THE SECOND FORM's CARD OF 'gatepostlaw09.HeadsTable'. -/
def headsTableUptoCard : Claim7 := { stood := { row := headsTableUptoRow, standIns := [], harness := (true, "defea27eaf92f32353f7bc314719e9ce7403796c8a97746a2fcad94a8eb3e525"), looks := false }, kinds := [], alts := [], laidByText := true, laidKinds := [.data, .pinned], laidTests := true, laidLooks := .later }
def HeadsTableUptoCardSaid : Prop := Claim7.holds Tryd.pinned (.plain (OpenSpec.upto headsTableSpec)) headsTableUptoCard

/-- THE SECOND FORM's CARD OF 'gatepostlaw09.HeadsAdded'. -/
def headsAddedUptoCard : Claim7 := { stood := { row := headsAddedUptoRow, standIns := [], harness := (true, "defea27eaf92f32353f7bc314719e9ce7403796c8a97746a2fcad94a8eb3e525"), looks := false }, kinds := [], alts := [], laidByText := true, laidKinds := [.data, .pinned], laidTests := true, laidLooks := .later }
def HeadsAddedUptoCardSaid : Prop := Claim7.holds Tryd.pinned (.plain (OpenSpec.upto headsAddedSpec)) headsAddedUptoCard
end Rows
end Go.Proofs.YtcpbdcamfhoiaaaDoor
