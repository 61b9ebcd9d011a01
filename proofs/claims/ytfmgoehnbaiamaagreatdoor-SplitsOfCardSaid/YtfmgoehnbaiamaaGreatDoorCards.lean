/-
  DERIVED. GIVEN WITH THE SEED: THE CARDS: each row of YtfmgoehnbaiamaaGreatDoorRows.lean that lists a variable, with what it lists TIED to the program's text (the seventh form; the later family's looks); each row that meets fmt, with fmt's text TOLD by the authors' own Lean function (tested against real Go, not proved from fmt's source: count such statements apart). THE CARD IS WHAT COUNTS. Prove the row's statement (the work); the ties are given (YtfmgoehnbaiamaaGreatDoorTie.lean); close each card by the builder's one call (the guide's Derived/Test/ToyasCard.lean, 'card_holds'). Laid BY PROGRAM, IN A SANDBOX (cutbox-door.mjs). By AI agents, Wed Nov 11 2026. No macro, syntax, notation, axiom, sorry.
-/
import Derived.Test.YtfmgoehnbaiamaaGreatDoorRows
import GoSem.ClaimSeven
namespace Go.Proofs.YtfmgoehnbaiamaaGreatDoor
namespace Rows

/-- THE TIED CARD OF 'almonerlaw15.MapsPlay'. -/
def mapsPlayCard : Claim7 := { stood := { row := mapsPlayRow, standIns := [], harness := (true, "4a764a831af17988628a9ac017173b5404936858b58defbc9a39f84c5df9977b"), looks := false }, kinds := [], alts := [], laidByText := true, laidKinds := [.data, .data, .data], laidTests := true, laidLooks := .later }
def MapsPlayCardSaid : Prop := Claim7.holds Tryz.pinned (.plain (OpenSpec.ofChange mapsPlaySpec)) mapsPlayCard

/-- THE TIED CARD OF 'almonerlaw16.ShowsOf'. -/
def showsOfCard : Claim7 := { stood := { row := showsOfRow, standIns := [], harness := (true, "4a764a831af17988628a9ac017173b5404936858b58defbc9a39f84c5df9977b"), looks := false }, kinds := [], alts := [], laidByText := true, laidKinds := [.data, .data, .data], laidTests := true, laidLooks := .later }
def ShowsOfCardSaid : Prop := Claim7.holds Tryz.pinned (.plain (OpenSpec.ofChange showsOfSpec)) showsOfCard

/-- THE TIED CARD OF 'almonerlaw17.SplitsOf'. -/
def splitsOfCard : Claim7 := { stood := { row := splitsOfRow, standIns := [], harness := (true, "4a764a831af17988628a9ac017173b5404936858b58defbc9a39f84c5df9977b"), looks := false }, kinds := [], alts := [], laidByText := true, laidKinds := [.data, .data, .data], laidTests := true, laidLooks := .later }
def SplitsOfCardSaid : Prop := Claim7.holds Tryz.pinned (.plain (OpenSpec.ofChange splitsOfSpec)) splitsOfCard

/-- THE SECOND FORM's CARD OF 'almonerlaw15.MapsPlay'. -/
def mapsPlayUptoCard : Claim7 := { stood := { row := mapsPlayUptoRow, standIns := [], harness := (true, "4a764a831af17988628a9ac017173b5404936858b58defbc9a39f84c5df9977b"), looks := false }, kinds := [], alts := [], laidByText := true, laidKinds := [.data, .data, .data], laidTests := true, laidLooks := .later }
def MapsPlayUptoCardSaid : Prop := Claim7.holds Tryz.pinned (.plain (OpenSpec.upto mapsPlaySpec)) mapsPlayUptoCard

/-- THE SECOND FORM's CARD OF 'almonerlaw16.ShowsOf'. -/
def showsOfUptoCard : Claim7 := { stood := { row := showsOfUptoRow, standIns := [], harness := (true, "4a764a831af17988628a9ac017173b5404936858b58defbc9a39f84c5df9977b"), looks := false }, kinds := [], alts := [], laidByText := true, laidKinds := [.data, .data, .data], laidTests := true, laidLooks := .later }
def ShowsOfUptoCardSaid : Prop := Claim7.holds Tryz.pinned (.plain (OpenSpec.upto showsOfSpec)) showsOfUptoCard

/-- THE SECOND FORM's CARD OF 'almonerlaw17.SplitsOf'. -/
def splitsOfUptoCard : Claim7 := { stood := { row := splitsOfUptoRow, standIns := [], harness := (true, "4a764a831af17988628a9ac017173b5404936858b58defbc9a39f84c5df9977b"), looks := false }, kinds := [], alts := [], laidByText := true, laidKinds := [.data, .data, .data], laidTests := true, laidLooks := .later }
def SplitsOfUptoCardSaid : Prop := Claim7.holds Tryz.pinned (.plain (OpenSpec.upto splitsOfSpec)) splitsOfUptoCard
end Rows
end Go.Proofs.YtfmgoehnbaiamaaGreatDoor
