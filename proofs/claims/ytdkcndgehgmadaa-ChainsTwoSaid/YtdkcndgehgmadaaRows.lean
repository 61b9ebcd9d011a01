/-
  No cell of these rows narrows 'for every input' (looked for: loops, veiled, ifaces, maps, wideKeys, modest, calm, conditions, laid).
  DERIVED. THE GIVEN ROWS OF THIS SEAT. 20 by the template 'for every input the law returns true; each argument reads behind the call as it read before'; 0 by the template 'total and deterministic' (their statements: YtdkcndgehgmadaaTotals.lean).
  GIVEN WITH THE SEED: the statements are not yours to turn. If you find one false, say at which input.
  Laid BY PROGRAM, IN A SANDBOX (cutbox-rows.mjs): the forced cells as the released guide's own fill.sh prints them over the translation 61348333c7cbae3e… (all of the seat's roots in one cut). By AI agents, Wed Nov 11 2026. No macro, syntax, notation, axiom, sorry.
-/
import Derived.Test.YtdkcndgehgmadaaChecked
import GoSem.Claim
import GoSem.ClaimJoined
import GoSem.ClaimMapViews
import Derived.JoinedTies
import Derived.KernelRfl
namespace Go.Proofs.Ytdkcndgehgmadaa
/- THE CELL 'sum', in the pinned program and in every row, IS THE sha256 OF THE DUMP (.gsa) THAT YtdkcndgehgmadaaProg.lean LOADS. Nothing in Lean hashes anything: it is a label: what it is worth is what the hold of that sum in a sandbox is worth. -/
noncomputable def Try.pinned : Pinned := { name := "ytdkcndgehgmadaa", sum := "61348333c7cbae3e213cb61d8b6020096385f531c6d95169d0b703d183ef1b00", checked := Try.checked }
namespace Rows
def none {H : Type} : Left H := { results := [], args := [] }

/-- 'almonerlaw10.PathsBack': WHATEVER THE INPUT: true; the input reads as it did. -/
def pathsBackSpec : ChangeSpec := { name := "pathsBack", fn := fun _ => fun
  | [d1, d2, d3] => { results := [.lit (.bool true)], args := [d1, d2, d3] }
  | _ => none }
def pathsBackRow : OpenClaim := { program := "ytdkcndgehgmadaa", sum := "61348333c7cbae3e213cb61d8b6020096385f531c6d95169d0b703d183ef1b00", func := "almoner/almonerlaw10.PathsBack", spec := "pathsBack", unfollowed := true, recurses := true, apart := false }
def PathsBackSaid : Prop := pathsBackRow.holds Try.pinned (OpenSpec.ofChange pathsBackSpec)

/-- ITS FALSE NEIGHBOUR: 'it returns false'. Refute it at one input. -/
def pathsBackWrong : ChangeSpec := { name := "pathsBack", fn := fun _ => fun
  | [d1, d2, d3] => { results := [.lit (.bool false)], args := [d1, d2, d3] }
  | _ => none }
def PathsBackWrongFalsely : Prop := pathsBackRow.holds Try.pinned (OpenSpec.ofChange pathsBackWrong)

/-- 'almonerlaw10.PathsEnds': WHATEVER THE INPUT: true; the input reads as it did. -/
def pathsEndsSpec : ChangeSpec := { name := "pathsEnds", fn := fun _ => fun
  | [d] => { results := [.lit (.bool true)], args := [d] }
  | _ => none }
def pathsEndsRow : OpenClaim := { program := "ytdkcndgehgmadaa", sum := "61348333c7cbae3e213cb61d8b6020096385f531c6d95169d0b703d183ef1b00", func := "almoner/almonerlaw10.PathsEnds", spec := "pathsEnds", unfollowed := true, recurses := true, apart := false }
def PathsEndsSaid : Prop := pathsEndsRow.holds Try.pinned (OpenSpec.ofChange pathsEndsSpec)

/-- ITS FALSE NEIGHBOUR: 'it returns false'. Refute it at one input. -/
def pathsEndsWrong : ChangeSpec := { name := "pathsEnds", fn := fun _ => fun
  | [d] => { results := [.lit (.bool false)], args := [d] }
  | _ => none }
def PathsEndsWrongFalsely : Prop := pathsEndsRow.holds Try.pinned (OpenSpec.ofChange pathsEndsWrong)

/-- 'almonerlaw10.PathsBoth': WHATEVER THE INPUT: true; the input reads as it did. -/
def pathsBothSpec : ChangeSpec := { name := "pathsBoth", fn := fun _ => fun
  | [d1, d2, d3] => { results := [.lit (.bool true)], args := [d1, d2, d3] }
  | _ => none }
def pathsBothRow : OpenClaim := { program := "ytdkcndgehgmadaa", sum := "61348333c7cbae3e213cb61d8b6020096385f531c6d95169d0b703d183ef1b00", func := "almoner/almonerlaw10.PathsBoth", spec := "pathsBoth", unfollowed := true, recurses := true, apart := false }
def PathsBothSaid : Prop := pathsBothRow.holds Try.pinned (OpenSpec.ofChange pathsBothSpec)

/-- ITS FALSE NEIGHBOUR: 'it returns false'. Refute it at one input. -/
def pathsBothWrong : ChangeSpec := { name := "pathsBoth", fn := fun _ => fun
  | [d1, d2, d3] => { results := [.lit (.bool false)], args := [d1, d2, d3] }
  | _ => none }
def PathsBothWrongFalsely : Prop := pathsBothRow.holds Try.pinned (OpenSpec.ofChange pathsBothWrong)

/-- 'almonerlaw09.FrontsRoot': WHATEVER THE INPUT: true; the input reads as it did. -/
def frontsRootSpec : ChangeSpec := { name := "frontsRoot", fn := fun _ => fun
  | [d1, d2] => { results := [.lit (.bool true)], args := [d1, d2] }
  | _ => none }
def frontsRootRow : OpenClaim := { program := "ytdkcndgehgmadaa", sum := "61348333c7cbae3e213cb61d8b6020096385f531c6d95169d0b703d183ef1b00", func := "almoner/almonerlaw09.FrontsRoot", spec := "frontsRoot", unfollowed := true, recurses := true, apart := false }
def FrontsRootSaid : Prop := frontsRootRow.holds Try.pinned (OpenSpec.ofChange frontsRootSpec)

/-- ITS FALSE NEIGHBOUR: 'it returns false'. Refute it at one input. -/
def frontsRootWrong : ChangeSpec := { name := "frontsRoot", fn := fun _ => fun
  | [d1, d2] => { results := [.lit (.bool false)], args := [d1, d2] }
  | _ => none }
def FrontsRootWrongFalsely : Prop := frontsRootRow.holds Try.pinned (OpenSpec.ofChange frontsRootWrong)

/-- 'almonerlaw09.FrontsBits': WHATEVER THE INPUT: true; the input reads as it did. -/
def frontsBitsSpec : ChangeSpec := { name := "frontsBits", fn := fun _ => fun
  | [d] => { results := [.lit (.bool true)], args := [d] }
  | _ => none }
def frontsBitsRow : OpenClaim := { program := "ytdkcndgehgmadaa", sum := "61348333c7cbae3e213cb61d8b6020096385f531c6d95169d0b703d183ef1b00", func := "almoner/almonerlaw09.FrontsBits", spec := "frontsBits", unfollowed := true, recurses := true, apart := false }
def FrontsBitsSaid : Prop := frontsBitsRow.holds Try.pinned (OpenSpec.ofChange frontsBitsSpec)

/-- ITS FALSE NEIGHBOUR: 'it returns false'. Refute it at one input. -/
def frontsBitsWrong : ChangeSpec := { name := "frontsBits", fn := fun _ => fun
  | [d] => { results := [.lit (.bool false)], args := [d] }
  | _ => none }
def FrontsBitsWrongFalsely : Prop := frontsBitsRow.holds Try.pinned (OpenSpec.ofChange frontsBitsWrong)

/-- 'almonerlaw09.FrontsTwo': WHATEVER THE INPUT: true; the input reads as it did. -/
def frontsTwoSpec : ChangeSpec := { name := "frontsTwo", fn := fun _ => fun
  | [d1, d2] => { results := [.lit (.bool true)], args := [d1, d2] }
  | _ => none }
def frontsTwoRow : OpenClaim := { program := "ytdkcndgehgmadaa", sum := "61348333c7cbae3e213cb61d8b6020096385f531c6d95169d0b703d183ef1b00", func := "almoner/almonerlaw09.FrontsTwo", spec := "frontsTwo", unfollowed := true, recurses := true, apart := false }
def FrontsTwoSaid : Prop := frontsTwoRow.holds Try.pinned (OpenSpec.ofChange frontsTwoSpec)

/-- ITS FALSE NEIGHBOUR: 'it returns false'. Refute it at one input. -/
def frontsTwoWrong : ChangeSpec := { name := "frontsTwo", fn := fun _ => fun
  | [d1, d2] => { results := [.lit (.bool false)], args := [d1, d2] }
  | _ => none }
def FrontsTwoWrongFalsely : Prop := frontsTwoRow.holds Try.pinned (OpenSpec.ofChange frontsTwoWrong)

/-- 'almonerlaw11.LinksBack': WHATEVER THE INPUT: true; the input reads as it did. -/
def linksBackSpec : ChangeSpec := { name := "linksBack", fn := fun _ => fun
  | [d1, d2, d3] => { results := [.lit (.bool true)], args := [d1, d2, d3] }
  | _ => none }
def linksBackRow : OpenClaim := { program := "ytdkcndgehgmadaa", sum := "61348333c7cbae3e213cb61d8b6020096385f531c6d95169d0b703d183ef1b00", func := "almoner/almonerlaw11.LinksBack", spec := "linksBack", inPlace := ["internal/reflectlite.TypeOf"], unfollowed := true, recurses := true, apart := false }
def LinksBackSaid : Prop := linksBackRow.holds Try.pinned (OpenSpec.ofChange linksBackSpec)

/-- ITS FALSE NEIGHBOUR: 'it returns false'. Refute it at one input. -/
def linksBackWrong : ChangeSpec := { name := "linksBack", fn := fun _ => fun
  | [d1, d2, d3] => { results := [.lit (.bool false)], args := [d1, d2, d3] }
  | _ => none }
def LinksBackWrongFalsely : Prop := linksBackRow.holds Try.pinned (OpenSpec.ofChange linksBackWrong)

/-- 'almonerlaw11.LinksChain': WHATEVER THE INPUT: true; the input reads as it did. -/
def linksChainSpec : ChangeSpec := { name := "linksChain", fn := fun _ => fun
  | [d1, d2] => { results := [.lit (.bool true)], args := [d1, d2] }
  | _ => none }
def linksChainRow : OpenClaim := { program := "ytdkcndgehgmadaa", sum := "61348333c7cbae3e213cb61d8b6020096385f531c6d95169d0b703d183ef1b00", func := "almoner/almonerlaw11.LinksChain", spec := "linksChain", inPlace := ["internal/reflectlite.TypeOf"], unfollowed := true, recurses := true, apart := false }
def LinksChainSaid : Prop := linksChainRow.holds Try.pinned (OpenSpec.ofChange linksChainSpec)

/-- ITS FALSE NEIGHBOUR: 'it returns false'. Refute it at one input. -/
def linksChainWrong : ChangeSpec := { name := "linksChain", fn := fun _ => fun
  | [d1, d2] => { results := [.lit (.bool false)], args := [d1, d2] }
  | _ => none }
def LinksChainWrongFalsely : Prop := linksChainRow.holds Try.pinned (OpenSpec.ofChange linksChainWrong)

/-- 'almonerlaw11.LinksEnds': WHATEVER THE INPUT: true; the input reads as it did. -/
def linksEndsSpec : ChangeSpec := { name := "linksEnds", fn := fun _ => fun
  | [d] => { results := [.lit (.bool true)], args := [d] }
  | _ => none }
def linksEndsRow : OpenClaim := { program := "ytdkcndgehgmadaa", sum := "61348333c7cbae3e213cb61d8b6020096385f531c6d95169d0b703d183ef1b00", func := "almoner/almonerlaw11.LinksEnds", spec := "linksEnds", inPlace := ["internal/reflectlite.TypeOf"], unfollowed := true, recurses := true, apart := false }
def LinksEndsSaid : Prop := linksEndsRow.holds Try.pinned (OpenSpec.ofChange linksEndsSpec)

/-- ITS FALSE NEIGHBOUR: 'it returns false'. Refute it at one input. -/
def linksEndsWrong : ChangeSpec := { name := "linksEnds", fn := fun _ => fun
  | [d] => { results := [.lit (.bool false)], args := [d] }
  | _ => none }
def LinksEndsWrongFalsely : Prop := linksEndsRow.holds Try.pinned (OpenSpec.ofChange linksEndsWrong)

/-- 'almonerlaw11.LinksPower': WHATEVER THE INPUT: true; the input reads as it did. -/
def linksPowerSpec : ChangeSpec := { name := "linksPower", fn := fun _ => fun
  | [d1, d2] => { results := [.lit (.bool true)], args := [d1, d2] }
  | _ => none }
def linksPowerRow : OpenClaim := { program := "ytdkcndgehgmadaa", sum := "61348333c7cbae3e213cb61d8b6020096385f531c6d95169d0b703d183ef1b00", func := "almoner/almonerlaw11.LinksPower", spec := "linksPower", inPlace := ["internal/reflectlite.TypeOf"], unfollowed := true, recurses := true, apart := false }
def LinksPowerSaid : Prop := linksPowerRow.holds Try.pinned (OpenSpec.ofChange linksPowerSpec)

/-- ITS FALSE NEIGHBOUR: 'it returns false'. Refute it at one input. -/
def linksPowerWrong : ChangeSpec := { name := "linksPower", fn := fun _ => fun
  | [d1, d2] => { results := [.lit (.bool false)], args := [d1, d2] }
  | _ => none }
def LinksPowerWrongFalsely : Prop := linksPowerRow.holds Try.pinned (OpenSpec.ofChange linksPowerWrong)

/-- 'almonerlaw12.ChainsNone': WHATEVER THE INPUT: true; the input reads as it did. -/
def chainsNoneSpec : ChangeSpec := { name := "chainsNone", fn := fun _ => fun
  | [d1, d2, d3] => { results := [.lit (.bool true)], args := [d1, d2, d3] }
  | _ => none }
def chainsNoneRow : OpenClaim := { program := "ytdkcndgehgmadaa", sum := "61348333c7cbae3e213cb61d8b6020096385f531c6d95169d0b703d183ef1b00", func := "almoner/almonerlaw12.ChainsNone", spec := "chainsNone", unfollowed := true, recurses := true, apart := false }
def ChainsNoneSaid : Prop := chainsNoneRow.holds Try.pinned (OpenSpec.ofChange chainsNoneSpec)

/-- ITS FALSE NEIGHBOUR: 'it returns false'. Refute it at one input. -/
def chainsNoneWrong : ChangeSpec := { name := "chainsNone", fn := fun _ => fun
  | [d1, d2, d3] => { results := [.lit (.bool false)], args := [d1, d2, d3] }
  | _ => none }
def ChainsNoneWrongFalsely : Prop := chainsNoneRow.holds Try.pinned (OpenSpec.ofChange chainsNoneWrong)

/-- 'almonerlaw12.ChainsGrow': WHATEVER THE INPUT: true; the input reads as it did. -/
def chainsGrowSpec : ChangeSpec := { name := "chainsGrow", fn := fun _ => fun
  | [d1, d2, d3] => { results := [.lit (.bool true)], args := [d1, d2, d3] }
  | _ => none }
def chainsGrowRow : OpenClaim := { program := "ytdkcndgehgmadaa", sum := "61348333c7cbae3e213cb61d8b6020096385f531c6d95169d0b703d183ef1b00", func := "almoner/almonerlaw12.ChainsGrow", spec := "chainsGrow", unfollowed := true, recurses := true, apart := false }
def ChainsGrowSaid : Prop := chainsGrowRow.holds Try.pinned (OpenSpec.ofChange chainsGrowSpec)

/-- ITS FALSE NEIGHBOUR: 'it returns false'. Refute it at one input. -/
def chainsGrowWrong : ChangeSpec := { name := "chainsGrow", fn := fun _ => fun
  | [d1, d2, d3] => { results := [.lit (.bool false)], args := [d1, d2, d3] }
  | _ => none }
def ChainsGrowWrongFalsely : Prop := chainsGrowRow.holds Try.pinned (OpenSpec.ofChange chainsGrowWrong)

/-- 'almonerlaw12.ChainsMarks': WHATEVER THE INPUT: true; the input reads as it did. -/
def chainsMarksSpec : ChangeSpec := { name := "chainsMarks", fn := fun _ => fun
  | [d] => { results := [.lit (.bool true)], args := [d] }
  | _ => none }
def chainsMarksRow : OpenClaim := { program := "ytdkcndgehgmadaa", sum := "61348333c7cbae3e213cb61d8b6020096385f531c6d95169d0b703d183ef1b00", func := "almoner/almonerlaw12.ChainsMarks", spec := "chainsMarks", unfollowed := true, recurses := true, apart := false }
def ChainsMarksSaid : Prop := chainsMarksRow.holds Try.pinned (OpenSpec.ofChange chainsMarksSpec)

/-- ITS FALSE NEIGHBOUR: 'it returns false'. Refute it at one input. -/
def chainsMarksWrong : ChangeSpec := { name := "chainsMarks", fn := fun _ => fun
  | [d] => { results := [.lit (.bool false)], args := [d] }
  | _ => none }
def ChainsMarksWrongFalsely : Prop := chainsMarksRow.holds Try.pinned (OpenSpec.ofChange chainsMarksWrong)

/-- 'almonerlaw12.ChainsTwo': WHATEVER THE INPUT: true; the input reads as it did. -/
def chainsTwoSpec : ChangeSpec := { name := "chainsTwo", fn := fun _ => fun
  | [d1, d2, d3] => { results := [.lit (.bool true)], args := [d1, d2, d3] }
  | _ => none }
def chainsTwoRow : OpenClaim := { program := "ytdkcndgehgmadaa", sum := "61348333c7cbae3e213cb61d8b6020096385f531c6d95169d0b703d183ef1b00", func := "almoner/almonerlaw12.ChainsTwo", spec := "chainsTwo", inPlace := ["internal/reflectlite.TypeOf"], unfollowed := true, recurses := true, apart := false }
def ChainsTwoSaid : Prop := chainsTwoRow.holds Try.pinned (OpenSpec.ofChange chainsTwoSpec)

/-- ITS FALSE NEIGHBOUR: 'it returns false'. Refute it at one input. -/
def chainsTwoWrong : ChangeSpec := { name := "chainsTwo", fn := fun _ => fun
  | [d1, d2, d3] => { results := [.lit (.bool false)], args := [d1, d2, d3] }
  | _ => none }
def ChainsTwoWrongFalsely : Prop := chainsTwoRow.holds Try.pinned (OpenSpec.ofChange chainsTwoWrong)

/-- 'almonerlaw13.ClashesIs': WHATEVER THE INPUT: true; the input reads as it did. -/
def clashesIsSpec : ChangeSpec := { name := "clashesIs", fn := fun _ => fun
  | [d] => { results := [.lit (.bool true)], args := [d] }
  | _ => none }
def clashesIsRow : OpenClaim := { program := "ytdkcndgehgmadaa", sum := "61348333c7cbae3e213cb61d8b6020096385f531c6d95169d0b703d183ef1b00", func := "almoner/almonerlaw13.ClashesIs", spec := "clashesIs", inPlace := ["internal/reflectlite.TypeOf"], unfollowed := true, recurses := true, apart := false }
def ClashesIsSaid : Prop := clashesIsRow.holds Try.pinned (OpenSpec.ofChange clashesIsSpec)

/-- ITS FALSE NEIGHBOUR: 'it returns false'. Refute it at one input. -/
def clashesIsWrong : ChangeSpec := { name := "clashesIs", fn := fun _ => fun
  | [d] => { results := [.lit (.bool false)], args := [d] }
  | _ => none }
def ClashesIsWrongFalsely : Prop := clashesIsRow.holds Try.pinned (OpenSpec.ofChange clashesIsWrong)

/-- 'almonerlaw13.ClashesLists': WHATEVER THE INPUT: true; the input reads as it did. -/
def clashesListsSpec : ChangeSpec := { name := "clashesLists", fn := fun _ => fun
  | [d1, d2] => { results := [.lit (.bool true)], args := [d1, d2] }
  | _ => none }
def clashesListsRow : OpenClaim := { program := "ytdkcndgehgmadaa", sum := "61348333c7cbae3e213cb61d8b6020096385f531c6d95169d0b703d183ef1b00", func := "almoner/almonerlaw13.ClashesLists", spec := "clashesLists", inPlace := ["internal/reflectlite.TypeOf"], unfollowed := true, recurses := true, apart := false }
def ClashesListsSaid : Prop := clashesListsRow.holds Try.pinned (OpenSpec.ofChange clashesListsSpec)

/-- ITS FALSE NEIGHBOUR: 'it returns false'. Refute it at one input. -/
def clashesListsWrong : ChangeSpec := { name := "clashesLists", fn := fun _ => fun
  | [d1, d2] => { results := [.lit (.bool false)], args := [d1, d2] }
  | _ => none }
def ClashesListsWrongFalsely : Prop := clashesListsRow.holds Try.pinned (OpenSpec.ofChange clashesListsWrong)

/-- 'almonerlaw13.ClashesPath': WHATEVER THE INPUT: true; the input reads as it did. -/
def clashesPathSpec : ChangeSpec := { name := "clashesPath", fn := fun _ => fun
  | [d] => { results := [.lit (.bool true)], args := [d] }
  | _ => none }
def clashesPathRow : OpenClaim := { program := "ytdkcndgehgmadaa", sum := "61348333c7cbae3e213cb61d8b6020096385f531c6d95169d0b703d183ef1b00", func := "almoner/almonerlaw13.ClashesPath", spec := "clashesPath", inPlace := ["internal/reflectlite.TypeOf"], unfollowed := true, recurses := true, apart := false }
def ClashesPathSaid : Prop := clashesPathRow.holds Try.pinned (OpenSpec.ofChange clashesPathSpec)

/-- ITS FALSE NEIGHBOUR: 'it returns false'. Refute it at one input. -/
def clashesPathWrong : ChangeSpec := { name := "clashesPath", fn := fun _ => fun
  | [d] => { results := [.lit (.bool false)], args := [d] }
  | _ => none }
def ClashesPathWrongFalsely : Prop := clashesPathRow.holds Try.pinned (OpenSpec.ofChange clashesPathWrong)

/-- 'almonerlaw13.ClashesLink': WHATEVER THE INPUT: true; the input reads as it did. -/
def clashesLinkSpec : ChangeSpec := { name := "clashesLink", fn := fun _ => fun
  | [d] => { results := [.lit (.bool true)], args := [d] }
  | _ => none }
def clashesLinkRow : OpenClaim := { program := "ytdkcndgehgmadaa", sum := "61348333c7cbae3e213cb61d8b6020096385f531c6d95169d0b703d183ef1b00", func := "almoner/almonerlaw13.ClashesLink", spec := "clashesLink", inPlace := ["internal/reflectlite.TypeOf"], unfollowed := true, recurses := true, apart := false }
def ClashesLinkSaid : Prop := clashesLinkRow.holds Try.pinned (OpenSpec.ofChange clashesLinkSpec)

/-- ITS FALSE NEIGHBOUR: 'it returns false'. Refute it at one input. -/
def clashesLinkWrong : ChangeSpec := { name := "clashesLink", fn := fun _ => fun
  | [d] => { results := [.lit (.bool false)], args := [d] }
  | _ => none }
def ClashesLinkWrongFalsely : Prop := clashesLinkRow.holds Try.pinned (OpenSpec.ofChange clashesLinkWrong)

/-- 'almonerlaw12.ChainsProved': WHATEVER THE INPUT: true; the input reads as it did. -/
def chainsProvedSpec : ChangeSpec := { name := "chainsProved", fn := fun _ => fun
  | [d1, d2] => { results := [.lit (.bool true)], args := [d1, d2] }
  | _ => none }
def chainsProvedRow : OpenClaim := { program := "ytdkcndgehgmadaa", sum := "61348333c7cbae3e213cb61d8b6020096385f531c6d95169d0b703d183ef1b00", func := "almoner/almonerlaw12.ChainsProved", spec := "chainsProved", inPlace := ["internal/reflectlite.TypeOf"], unfollowed := true, recurses := true, apart := false }
def ChainsProvedSaid : Prop := chainsProvedRow.holds Try.pinned (OpenSpec.ofChange chainsProvedSpec)

/-- ITS FALSE NEIGHBOUR: 'it returns false'. Refute it at one input. -/
def chainsProvedWrong : ChangeSpec := { name := "chainsProved", fn := fun _ => fun
  | [d1, d2] => { results := [.lit (.bool false)], args := [d1, d2] }
  | _ => none }
def ChainsProvedWrongFalsely : Prop := chainsProvedRow.holds Try.pinned (OpenSpec.ofChange chainsProvedWrong)

/-- 'almonerlaw13.ClashesOwn': WHATEVER THE INPUT: true; the input reads as it did. -/
def clashesOwnSpec : ChangeSpec := { name := "clashesOwn", fn := fun _ => fun
  | [d1, d2, d3] => { results := [.lit (.bool true)], args := [d1, d2, d3] }
  | _ => none }
def clashesOwnRow : OpenClaim := { program := "ytdkcndgehgmadaa", sum := "61348333c7cbae3e213cb61d8b6020096385f531c6d95169d0b703d183ef1b00", func := "almoner/almonerlaw13.ClashesOwn", spec := "clashesOwn", inPlace := ["internal/reflectlite.TypeOf"], unfollowed := true, recurses := true, apart := false }
def ClashesOwnSaid : Prop := clashesOwnRow.holds Try.pinned (OpenSpec.ofChange clashesOwnSpec)

/-- ITS FALSE NEIGHBOUR: 'it returns false'. Refute it at one input. -/
def clashesOwnWrong : ChangeSpec := { name := "clashesOwn", fn := fun _ => fun
  | [d1, d2, d3] => { results := [.lit (.bool false)], args := [d1, d2, d3] }
  | _ => none }
def ClashesOwnWrongFalsely : Prop := clashesOwnRow.holds Try.pinned (OpenSpec.ofChange clashesOwnWrong)

/- THE SECOND FORM. 'bulk': how many values and letters a reading holds, each counted each time it is reached (what is shared counts as often as it is met; a slice's spare places count too). A statement '..UptoSaid' is the law's where the arguments, and the package variables that the reading takes, are together of bulk at most 1048576: NARROWER than '..Said'. Prove '..Said' where nothing that the law and all that it calls make is longer than what came in: it says more and counts as full. Else prove '..UptoSaid'. A law counts once. -/
mutual
def uptoBulk {H : Type} : DataW H → Nat
  | .lit (.string bytes) => bytes.length + 1
  | .lit _ => 1
  | .nil => 1
  | .ptr d => uptoBulk d + 1
  | .slice elems spare => uptoBulkAll elems + uptoBulkAll spare + 1
  | .agg parts => uptoBulkAll parts + 1
  | .iface _ d => uptoBulk d + 1
  | .map entries => uptoBulkEntries entries + 1
  | .held _ => 1
def uptoBulkAll {H : Type} : List (DataW H) → Nat
  | [] => 0
  | d :: r => uptoBulk d + uptoBulkAll r
def uptoBulkEntries {H : Type} : List (Lit × DataW H) → Nat
  | [] => 0
  | x :: r => uptoBulkEntry x + uptoBulkEntries r
def uptoBulkEntry {H : Type} : Lit × DataW H → Nat
  | (.string bytes, d) => bytes.length + uptoBulk d + 1
  | (_, d) => uptoBulk d + 1
 end
def uptoSmall : (H : Type) → List (DataW H) → Bool := fun _ ds => decide (uptoBulkAll ds ≤ 1048576)
def OpenSpec.upto (s : _root_.Go.ChangeSpec) : _root_.Go.OpenSpec := { _root_.Go.OpenSpec.ofChange s with cond := some uptoSmall }

/-- 'almonerlaw10.PathsBack', WHERE WHAT IT READS IS OF BULK AT MOST 1048576: true; the input reads as it did. -/
def pathsBackUptoRow : OpenClaim := { program := "ytdkcndgehgmadaa", sum := "61348333c7cbae3e213cb61d8b6020096385f531c6d95169d0b703d183ef1b00", func := "almoner/almonerlaw10.PathsBack", spec := "pathsBack", unfollowed := true, recurses := true, apart := false, narrowed := true }
def PathsBackUptoSaid : Prop := pathsBackUptoRow.holds Try.pinned (OpenSpec.upto pathsBackSpec)

/-- 'almonerlaw10.PathsEnds', WHERE WHAT IT READS IS OF BULK AT MOST 1048576: true; the input reads as it did. -/
def pathsEndsUptoRow : OpenClaim := { program := "ytdkcndgehgmadaa", sum := "61348333c7cbae3e213cb61d8b6020096385f531c6d95169d0b703d183ef1b00", func := "almoner/almonerlaw10.PathsEnds", spec := "pathsEnds", unfollowed := true, recurses := true, apart := false, narrowed := true }
def PathsEndsUptoSaid : Prop := pathsEndsUptoRow.holds Try.pinned (OpenSpec.upto pathsEndsSpec)

/-- 'almonerlaw10.PathsBoth', WHERE WHAT IT READS IS OF BULK AT MOST 1048576: true; the input reads as it did. -/
def pathsBothUptoRow : OpenClaim := { program := "ytdkcndgehgmadaa", sum := "61348333c7cbae3e213cb61d8b6020096385f531c6d95169d0b703d183ef1b00", func := "almoner/almonerlaw10.PathsBoth", spec := "pathsBoth", unfollowed := true, recurses := true, apart := false, narrowed := true }
def PathsBothUptoSaid : Prop := pathsBothUptoRow.holds Try.pinned (OpenSpec.upto pathsBothSpec)

/-- 'almonerlaw09.FrontsRoot', WHERE WHAT IT READS IS OF BULK AT MOST 1048576: true; the input reads as it did. -/
def frontsRootUptoRow : OpenClaim := { program := "ytdkcndgehgmadaa", sum := "61348333c7cbae3e213cb61d8b6020096385f531c6d95169d0b703d183ef1b00", func := "almoner/almonerlaw09.FrontsRoot", spec := "frontsRoot", unfollowed := true, recurses := true, apart := false, narrowed := true }
def FrontsRootUptoSaid : Prop := frontsRootUptoRow.holds Try.pinned (OpenSpec.upto frontsRootSpec)

/-- 'almonerlaw09.FrontsBits', WHERE WHAT IT READS IS OF BULK AT MOST 1048576: true; the input reads as it did. -/
def frontsBitsUptoRow : OpenClaim := { program := "ytdkcndgehgmadaa", sum := "61348333c7cbae3e213cb61d8b6020096385f531c6d95169d0b703d183ef1b00", func := "almoner/almonerlaw09.FrontsBits", spec := "frontsBits", unfollowed := true, recurses := true, apart := false, narrowed := true }
def FrontsBitsUptoSaid : Prop := frontsBitsUptoRow.holds Try.pinned (OpenSpec.upto frontsBitsSpec)

/-- 'almonerlaw09.FrontsTwo', WHERE WHAT IT READS IS OF BULK AT MOST 1048576: true; the input reads as it did. -/
def frontsTwoUptoRow : OpenClaim := { program := "ytdkcndgehgmadaa", sum := "61348333c7cbae3e213cb61d8b6020096385f531c6d95169d0b703d183ef1b00", func := "almoner/almonerlaw09.FrontsTwo", spec := "frontsTwo", unfollowed := true, recurses := true, apart := false, narrowed := true }
def FrontsTwoUptoSaid : Prop := frontsTwoUptoRow.holds Try.pinned (OpenSpec.upto frontsTwoSpec)

/-- 'almonerlaw11.LinksBack', WHERE WHAT IT READS IS OF BULK AT MOST 1048576: true; the input reads as it did. -/
def linksBackUptoRow : OpenClaim := { program := "ytdkcndgehgmadaa", sum := "61348333c7cbae3e213cb61d8b6020096385f531c6d95169d0b703d183ef1b00", func := "almoner/almonerlaw11.LinksBack", spec := "linksBack", inPlace := ["internal/reflectlite.TypeOf"], unfollowed := true, recurses := true, apart := false, narrowed := true }
def LinksBackUptoSaid : Prop := linksBackUptoRow.holds Try.pinned (OpenSpec.upto linksBackSpec)

/-- 'almonerlaw11.LinksChain', WHERE WHAT IT READS IS OF BULK AT MOST 1048576: true; the input reads as it did. -/
def linksChainUptoRow : OpenClaim := { program := "ytdkcndgehgmadaa", sum := "61348333c7cbae3e213cb61d8b6020096385f531c6d95169d0b703d183ef1b00", func := "almoner/almonerlaw11.LinksChain", spec := "linksChain", inPlace := ["internal/reflectlite.TypeOf"], unfollowed := true, recurses := true, apart := false, narrowed := true }
def LinksChainUptoSaid : Prop := linksChainUptoRow.holds Try.pinned (OpenSpec.upto linksChainSpec)

/-- 'almonerlaw11.LinksEnds', WHERE WHAT IT READS IS OF BULK AT MOST 1048576: true; the input reads as it did. -/
def linksEndsUptoRow : OpenClaim := { program := "ytdkcndgehgmadaa", sum := "61348333c7cbae3e213cb61d8b6020096385f531c6d95169d0b703d183ef1b00", func := "almoner/almonerlaw11.LinksEnds", spec := "linksEnds", inPlace := ["internal/reflectlite.TypeOf"], unfollowed := true, recurses := true, apart := false, narrowed := true }
def LinksEndsUptoSaid : Prop := linksEndsUptoRow.holds Try.pinned (OpenSpec.upto linksEndsSpec)

/-- 'almonerlaw11.LinksPower', WHERE WHAT IT READS IS OF BULK AT MOST 1048576: true; the input reads as it did. -/
def linksPowerUptoRow : OpenClaim := { program := "ytdkcndgehgmadaa", sum := "61348333c7cbae3e213cb61d8b6020096385f531c6d95169d0b703d183ef1b00", func := "almoner/almonerlaw11.LinksPower", spec := "linksPower", inPlace := ["internal/reflectlite.TypeOf"], unfollowed := true, recurses := true, apart := false, narrowed := true }
def LinksPowerUptoSaid : Prop := linksPowerUptoRow.holds Try.pinned (OpenSpec.upto linksPowerSpec)

/-- 'almonerlaw12.ChainsNone', WHERE WHAT IT READS IS OF BULK AT MOST 1048576: true; the input reads as it did. -/
def chainsNoneUptoRow : OpenClaim := { program := "ytdkcndgehgmadaa", sum := "61348333c7cbae3e213cb61d8b6020096385f531c6d95169d0b703d183ef1b00", func := "almoner/almonerlaw12.ChainsNone", spec := "chainsNone", unfollowed := true, recurses := true, apart := false, narrowed := true }
def ChainsNoneUptoSaid : Prop := chainsNoneUptoRow.holds Try.pinned (OpenSpec.upto chainsNoneSpec)

/-- 'almonerlaw12.ChainsGrow', WHERE WHAT IT READS IS OF BULK AT MOST 1048576: true; the input reads as it did. -/
def chainsGrowUptoRow : OpenClaim := { program := "ytdkcndgehgmadaa", sum := "61348333c7cbae3e213cb61d8b6020096385f531c6d95169d0b703d183ef1b00", func := "almoner/almonerlaw12.ChainsGrow", spec := "chainsGrow", unfollowed := true, recurses := true, apart := false, narrowed := true }
def ChainsGrowUptoSaid : Prop := chainsGrowUptoRow.holds Try.pinned (OpenSpec.upto chainsGrowSpec)

/-- 'almonerlaw12.ChainsMarks', WHERE WHAT IT READS IS OF BULK AT MOST 1048576: true; the input reads as it did. -/
def chainsMarksUptoRow : OpenClaim := { program := "ytdkcndgehgmadaa", sum := "61348333c7cbae3e213cb61d8b6020096385f531c6d95169d0b703d183ef1b00", func := "almoner/almonerlaw12.ChainsMarks", spec := "chainsMarks", unfollowed := true, recurses := true, apart := false, narrowed := true }
def ChainsMarksUptoSaid : Prop := chainsMarksUptoRow.holds Try.pinned (OpenSpec.upto chainsMarksSpec)

/-- 'almonerlaw12.ChainsTwo', WHERE WHAT IT READS IS OF BULK AT MOST 1048576: true; the input reads as it did. -/
def chainsTwoUptoRow : OpenClaim := { program := "ytdkcndgehgmadaa", sum := "61348333c7cbae3e213cb61d8b6020096385f531c6d95169d0b703d183ef1b00", func := "almoner/almonerlaw12.ChainsTwo", spec := "chainsTwo", inPlace := ["internal/reflectlite.TypeOf"], unfollowed := true, recurses := true, apart := false, narrowed := true }
def ChainsTwoUptoSaid : Prop := chainsTwoUptoRow.holds Try.pinned (OpenSpec.upto chainsTwoSpec)

/-- 'almonerlaw13.ClashesIs', WHERE WHAT IT READS IS OF BULK AT MOST 1048576: true; the input reads as it did. -/
def clashesIsUptoRow : OpenClaim := { program := "ytdkcndgehgmadaa", sum := "61348333c7cbae3e213cb61d8b6020096385f531c6d95169d0b703d183ef1b00", func := "almoner/almonerlaw13.ClashesIs", spec := "clashesIs", inPlace := ["internal/reflectlite.TypeOf"], unfollowed := true, recurses := true, apart := false, narrowed := true }
def ClashesIsUptoSaid : Prop := clashesIsUptoRow.holds Try.pinned (OpenSpec.upto clashesIsSpec)

/-- 'almonerlaw13.ClashesLists', WHERE WHAT IT READS IS OF BULK AT MOST 1048576: true; the input reads as it did. -/
def clashesListsUptoRow : OpenClaim := { program := "ytdkcndgehgmadaa", sum := "61348333c7cbae3e213cb61d8b6020096385f531c6d95169d0b703d183ef1b00", func := "almoner/almonerlaw13.ClashesLists", spec := "clashesLists", inPlace := ["internal/reflectlite.TypeOf"], unfollowed := true, recurses := true, apart := false, narrowed := true }
def ClashesListsUptoSaid : Prop := clashesListsUptoRow.holds Try.pinned (OpenSpec.upto clashesListsSpec)

/-- 'almonerlaw13.ClashesPath', WHERE WHAT IT READS IS OF BULK AT MOST 1048576: true; the input reads as it did. -/
def clashesPathUptoRow : OpenClaim := { program := "ytdkcndgehgmadaa", sum := "61348333c7cbae3e213cb61d8b6020096385f531c6d95169d0b703d183ef1b00", func := "almoner/almonerlaw13.ClashesPath", spec := "clashesPath", inPlace := ["internal/reflectlite.TypeOf"], unfollowed := true, recurses := true, apart := false, narrowed := true }
def ClashesPathUptoSaid : Prop := clashesPathUptoRow.holds Try.pinned (OpenSpec.upto clashesPathSpec)

/-- 'almonerlaw13.ClashesLink', WHERE WHAT IT READS IS OF BULK AT MOST 1048576: true; the input reads as it did. -/
def clashesLinkUptoRow : OpenClaim := { program := "ytdkcndgehgmadaa", sum := "61348333c7cbae3e213cb61d8b6020096385f531c6d95169d0b703d183ef1b00", func := "almoner/almonerlaw13.ClashesLink", spec := "clashesLink", inPlace := ["internal/reflectlite.TypeOf"], unfollowed := true, recurses := true, apart := false, narrowed := true }
def ClashesLinkUptoSaid : Prop := clashesLinkUptoRow.holds Try.pinned (OpenSpec.upto clashesLinkSpec)

/-- 'almonerlaw12.ChainsProved', WHERE WHAT IT READS IS OF BULK AT MOST 1048576: true; the input reads as it did. -/
def chainsProvedUptoRow : OpenClaim := { program := "ytdkcndgehgmadaa", sum := "61348333c7cbae3e213cb61d8b6020096385f531c6d95169d0b703d183ef1b00", func := "almoner/almonerlaw12.ChainsProved", spec := "chainsProved", inPlace := ["internal/reflectlite.TypeOf"], unfollowed := true, recurses := true, apart := false, narrowed := true }
def ChainsProvedUptoSaid : Prop := chainsProvedUptoRow.holds Try.pinned (OpenSpec.upto chainsProvedSpec)

/-- 'almonerlaw13.ClashesOwn', WHERE WHAT IT READS IS OF BULK AT MOST 1048576: true; the input reads as it did. -/
def clashesOwnUptoRow : OpenClaim := { program := "ytdkcndgehgmadaa", sum := "61348333c7cbae3e213cb61d8b6020096385f531c6d95169d0b703d183ef1b00", func := "almoner/almonerlaw13.ClashesOwn", spec := "clashesOwn", inPlace := ["internal/reflectlite.TypeOf"], unfollowed := true, recurses := true, apart := false, narrowed := true }
def ClashesOwnUptoSaid : Prop := clashesOwnUptoRow.holds Try.pinned (OpenSpec.upto clashesOwnSpec)

end Rows
end Go.Proofs.Ytdkcndgehgmadaa
