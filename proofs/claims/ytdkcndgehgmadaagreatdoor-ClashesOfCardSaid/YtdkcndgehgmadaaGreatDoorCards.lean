/-
  DERIVED. GIVEN WITH THE SEED: THE CARDS: each row of YtdkcndgehgmadaaGreatDoorRows.lean that lists a variable, with what it lists TIED to the program's text (the seventh form; the later family's looks); each row that meets fmt, with fmt's text TOLD by the authors' own Lean function (tested against real Go, not proved from fmt's source: count such statements apart). THE CARD IS WHAT COUNTS. Prove the row's statement (the work); the ties are given (YtdkcndgehgmadaaGreatDoorTie.lean); close each card by the builder's one call (the guide's Derived/Test/ToyasCard.lean, 'card_holds'). Laid BY PROGRAM, IN A SANDBOX (cutbox-door.mjs). By AI agents, Wed Nov 11 2026. No macro, syntax, notation, axiom, sorry.
-/
import Derived.Test.YtdkcndgehgmadaaGreatDoorRows
import GoSem.ClaimSeven
namespace Go.Proofs.YtdkcndgehgmadaaGreatDoor
namespace Rows

/-- THE TIED CARD OF 'almonerlaw10.PathsOf'. -/
def pathsOfCard : Claim7 := { stood := { row := pathsOfRow, standIns := [], harness := (true, "d58ff3fd76a6e4071fe52bde4eec3e5d32701c1edbcf6848dccb1da957ee63ca"), looks := true }, kinds := [], alts := [], laidByText := true, laidKinds := [.data, .data, .data], laidTests := true, laidLooks := .later }
def PathsOfCardSaid : Prop := Claim7.holds Tryz.pinned (.plain (OpenSpec.ofChange pathsOfSpec)) pathsOfCard

/-- THE TIED CARD OF 'almonerlaw09.FrontsPlay'. -/
def frontsPlayCard : Claim7 := { stood := { row := frontsPlayRow, standIns := [], harness := (true, "d58ff3fd76a6e4071fe52bde4eec3e5d32701c1edbcf6848dccb1da957ee63ca"), looks := true }, kinds := [], alts := [], laidByText := true, laidKinds := [.data, .data, .data], laidTests := true, laidLooks := .later }
def FrontsPlayCardSaid : Prop := Claim7.holds Tryz.pinned (.plain (OpenSpec.ofChange frontsPlaySpec)) frontsPlayCard

/-- THE TIED CARD OF 'almonerlaw11.LinksOf'. -/
def linksOfCard : Claim7 := { stood := { row := linksOfRow, standIns := [], harness := (true, "d58ff3fd76a6e4071fe52bde4eec3e5d32701c1edbcf6848dccb1da957ee63ca"), looks := true }, kinds := [], alts := [], laidByText := true, laidKinds := [.data, .data, .data], laidTests := true, laidLooks := .later }
def LinksOfCardSaid : Prop := Claim7.holds Tryz.pinned (.plain (OpenSpec.ofChange linksOfSpec)) linksOfCard

/-- THE TIED CARD OF 'almonerlaw12.ChainsPlay'. -/
def chainsPlayCard : Claim7 := { stood := { row := chainsPlayRow, standIns := [], harness := (true, "d58ff3fd76a6e4071fe52bde4eec3e5d32701c1edbcf6848dccb1da957ee63ca"), looks := true }, kinds := [], alts := [], laidByText := true, laidKinds := [.data, .data, .data], laidTests := true, laidLooks := .later }
def ChainsPlayCardSaid : Prop := Claim7.holds Tryz.pinned (.plain (OpenSpec.ofChange chainsPlaySpec)) chainsPlayCard

/-- THE TIED CARD OF 'almonerlaw13.ClashesOf'. -/
def clashesOfCard : Claim7 := { stood := { row := clashesOfRow, standIns := [], harness := (true, "d58ff3fd76a6e4071fe52bde4eec3e5d32701c1edbcf6848dccb1da957ee63ca"), looks := true }, kinds := [], alts := [], laidByText := true, laidKinds := [.data, .data, .data], laidTests := true, laidLooks := .later }
def ClashesOfCardSaid : Prop := Claim7.holds Tryz.pinned (.plain (OpenSpec.ofChange clashesOfSpec)) clashesOfCard

/-- THE SECOND FORM's CARD OF 'almonerlaw10.PathsOf'. -/
def pathsOfUptoCard : Claim7 := { stood := { row := pathsOfUptoRow, standIns := [], harness := (true, "d58ff3fd76a6e4071fe52bde4eec3e5d32701c1edbcf6848dccb1da957ee63ca"), looks := true }, kinds := [], alts := [], laidByText := true, laidKinds := [.data, .data, .data], laidTests := true, laidLooks := .later }
def PathsOfUptoCardSaid : Prop := Claim7.holds Tryz.pinned (.plain (OpenSpec.upto pathsOfSpec)) pathsOfUptoCard

/-- THE SECOND FORM's CARD OF 'almonerlaw09.FrontsPlay'. -/
def frontsPlayUptoCard : Claim7 := { stood := { row := frontsPlayUptoRow, standIns := [], harness := (true, "d58ff3fd76a6e4071fe52bde4eec3e5d32701c1edbcf6848dccb1da957ee63ca"), looks := true }, kinds := [], alts := [], laidByText := true, laidKinds := [.data, .data, .data], laidTests := true, laidLooks := .later }
def FrontsPlayUptoCardSaid : Prop := Claim7.holds Tryz.pinned (.plain (OpenSpec.upto frontsPlaySpec)) frontsPlayUptoCard

/-- THE SECOND FORM's CARD OF 'almonerlaw11.LinksOf'. -/
def linksOfUptoCard : Claim7 := { stood := { row := linksOfUptoRow, standIns := [], harness := (true, "d58ff3fd76a6e4071fe52bde4eec3e5d32701c1edbcf6848dccb1da957ee63ca"), looks := true }, kinds := [], alts := [], laidByText := true, laidKinds := [.data, .data, .data], laidTests := true, laidLooks := .later }
def LinksOfUptoCardSaid : Prop := Claim7.holds Tryz.pinned (.plain (OpenSpec.upto linksOfSpec)) linksOfUptoCard

/-- THE SECOND FORM's CARD OF 'almonerlaw12.ChainsPlay'. -/
def chainsPlayUptoCard : Claim7 := { stood := { row := chainsPlayUptoRow, standIns := [], harness := (true, "d58ff3fd76a6e4071fe52bde4eec3e5d32701c1edbcf6848dccb1da957ee63ca"), looks := true }, kinds := [], alts := [], laidByText := true, laidKinds := [.data, .data, .data], laidTests := true, laidLooks := .later }
def ChainsPlayUptoCardSaid : Prop := Claim7.holds Tryz.pinned (.plain (OpenSpec.upto chainsPlaySpec)) chainsPlayUptoCard

/-- THE SECOND FORM's CARD OF 'almonerlaw13.ClashesOf'. -/
def clashesOfUptoCard : Claim7 := { stood := { row := clashesOfUptoRow, standIns := [], harness := (true, "d58ff3fd76a6e4071fe52bde4eec3e5d32701c1edbcf6848dccb1da957ee63ca"), looks := true }, kinds := [], alts := [], laidByText := true, laidKinds := [.data, .data, .data], laidTests := true, laidLooks := .later }
def ClashesOfUptoCardSaid : Prop := Claim7.holds Tryz.pinned (.plain (OpenSpec.upto clashesOfSpec)) clashesOfUptoCard
end Rows
end Go.Proofs.YtdkcndgehgmadaaGreatDoor
