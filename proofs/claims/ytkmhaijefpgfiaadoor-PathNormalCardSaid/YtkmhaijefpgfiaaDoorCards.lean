/-
  DERIVED. GIVEN WITH THE SEED: THE CARDS: each row of YtkmhaijefpgfiaaDoorRows.lean that lists a variable, with what it lists TIED to the program's text (the seventh form; the later family's looks); each row that meets fmt, with fmt's text TOLD by the authors' own Lean function (tested against real Go, not proved from fmt's source: count such statements apart). THE CARD IS WHAT COUNTS. Prove the row's statement (the work); the ties are given (YtkmhaijefpgfiaaDoorTie.lean); close each card by the builder's one call (the guide's Derived/Test/ToyasCard.lean, 'card_holds'). Laid BY PROGRAM, IN A SANDBOX (cutbox-door.mjs). By AI agents, Wed Nov 11 2026. No macro, syntax, notation, axiom, sorry.
-/
import Derived.Test.YtkmhaijefpgfiaaDoorRows
import GoSem.ClaimSeven
namespace Go.Proofs.YtkmhaijefpgfiaaDoor
namespace Rows

/-- THE TIED CARD OF 'gatepostlaw08.PathAlike'. -/
def pathAlikeCard : Claim7 := { stood := { row := pathAlikeRow, standIns := [], harness := (true, "840cfb984efeca37e02ee87148495e47c12c7576be4627c17d097ea5110fac46"), looks := false }, kinds := [], alts := [], laidByText := true, laidKinds := [.data, .pinned], laidTests := true, laidLooks := .later }
def PathAlikeCardSaid : Prop := Claim7.holds Tryd.pinned (.plain (OpenSpec.ofChange pathAlikeSpec)) pathAlikeCard

/-- THE TIED CARD OF 'gatepostlaw08.PathQuery'. -/
def pathQueryCard : Claim7 := { stood := { row := pathQueryRow, standIns := [], harness := (true, "840cfb984efeca37e02ee87148495e47c12c7576be4627c17d097ea5110fac46"), looks := false }, kinds := [], alts := [], laidByText := true, laidKinds := [.data, .pinned], laidTests := true, laidLooks := .later }
def PathQueryCardSaid : Prop := Claim7.holds Tryd.pinned (.plain (OpenSpec.ofChange pathQuerySpec)) pathQueryCard

/-- THE TIED CARD OF 'gatepostlaw08.PathNormal'. -/
def pathNormalCard : Claim7 := { stood := { row := pathNormalRow, standIns := [], harness := (true, "840cfb984efeca37e02ee87148495e47c12c7576be4627c17d097ea5110fac46"), looks := false }, kinds := [], alts := [], laidByText := true, laidKinds := [.data, .pinned], laidTests := true, laidLooks := .later }
def PathNormalCardSaid : Prop := Claim7.holds Tryd.pinned (.plain (OpenSpec.ofChange pathNormalSpec)) pathNormalCard

/-- THE TIED CARD OF 'gatepostlaw08.PathJoin'. -/
def pathJoinCard : Claim7 := { stood := { row := pathJoinRow, standIns := [], harness := (true, "840cfb984efeca37e02ee87148495e47c12c7576be4627c17d097ea5110fac46"), looks := false }, kinds := [], alts := [], laidByText := true, laidKinds := [.data, .pinned], laidTests := true, laidLooks := .later }
def PathJoinCardSaid : Prop := Claim7.holds Tryd.pinned (.plain (OpenSpec.ofChange pathJoinSpec)) pathJoinCard

/-- THE SECOND FORM's CARD OF 'gatepostlaw08.PathAlike'. -/
def pathAlikeUptoCard : Claim7 := { stood := { row := pathAlikeUptoRow, standIns := [], harness := (true, "840cfb984efeca37e02ee87148495e47c12c7576be4627c17d097ea5110fac46"), looks := false }, kinds := [], alts := [], laidByText := true, laidKinds := [.data, .pinned], laidTests := true, laidLooks := .later }
def PathAlikeUptoCardSaid : Prop := Claim7.holds Tryd.pinned (.plain (OpenSpec.upto pathAlikeSpec)) pathAlikeUptoCard

/-- THE SECOND FORM's CARD OF 'gatepostlaw08.PathQuery'. -/
def pathQueryUptoCard : Claim7 := { stood := { row := pathQueryUptoRow, standIns := [], harness := (true, "840cfb984efeca37e02ee87148495e47c12c7576be4627c17d097ea5110fac46"), looks := false }, kinds := [], alts := [], laidByText := true, laidKinds := [.data, .pinned], laidTests := true, laidLooks := .later }
def PathQueryUptoCardSaid : Prop := Claim7.holds Tryd.pinned (.plain (OpenSpec.upto pathQuerySpec)) pathQueryUptoCard

/-- THE SECOND FORM's CARD OF 'gatepostlaw08.PathNormal'. -/
def pathNormalUptoCard : Claim7 := { stood := { row := pathNormalUptoRow, standIns := [], harness := (true, "840cfb984efeca37e02ee87148495e47c12c7576be4627c17d097ea5110fac46"), looks := false }, kinds := [], alts := [], laidByText := true, laidKinds := [.data, .pinned], laidTests := true, laidLooks := .later }
def PathNormalUptoCardSaid : Prop := Claim7.holds Tryd.pinned (.plain (OpenSpec.upto pathNormalSpec)) pathNormalUptoCard

/-- THE SECOND FORM's CARD OF 'gatepostlaw08.PathJoin'. -/
def pathJoinUptoCard : Claim7 := { stood := { row := pathJoinUptoRow, standIns := [], harness := (true, "840cfb984efeca37e02ee87148495e47c12c7576be4627c17d097ea5110fac46"), looks := false }, kinds := [], alts := [], laidByText := true, laidKinds := [.data, .pinned], laidTests := true, laidLooks := .later }
def PathJoinUptoCardSaid : Prop := Claim7.holds Tryd.pinned (.plain (OpenSpec.upto pathJoinSpec)) pathJoinUptoCard
end Rows
end Go.Proofs.YtkmhaijefpgfiaaDoor
