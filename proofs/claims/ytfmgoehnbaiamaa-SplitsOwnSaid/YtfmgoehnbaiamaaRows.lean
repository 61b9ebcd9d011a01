/-
  No cell of these rows narrows 'for every input' (looked for: loops, veiled, ifaces, maps, wideKeys, modest, calm, conditions, laid).
  DERIVED. THE GIVEN ROWS OF THIS SEAT. 16 by the template 'for every input the law returns true; each argument reads behind the call as it read before'; 0 by the template 'total and deterministic' (their statements: YtfmgoehnbaiamaaTotals.lean).
  GIVEN WITH THE SEED: the statements are not yours to turn. If you find one false, say at which input.
  Laid BY PROGRAM, IN A SANDBOX (cutbox-rows.mjs): the forced cells as the released guide's own fill.sh prints them over the translation 2994f8b835ee0465… (all of the seat's roots in one cut). By AI agents, Wed Nov 11 2026. No macro, syntax, notation, axiom, sorry.
-/
import Derived.Test.YtfmgoehnbaiamaaChecked
import GoSem.Claim
import GoSem.ClaimJoined
import GoSem.ClaimMapViews
import Derived.JoinedTies
import Derived.KernelRfl
namespace Go.Proofs.Ytfmgoehnbaiamaa
/- THE CELL 'sum', in the pinned program and in every row, IS THE sha256 OF THE DUMP (.gsa) THAT YtfmgoehnbaiamaaProg.lean LOADS. Nothing in Lean hashes anything: it is a label: what it is worth is what the hold of that sum in a sandbox is worth. -/
noncomputable def Try.pinned : Pinned := { name := "ytfmgoehnbaiamaa", sum := "2994f8b835ee04656cd05ff1c5c8de25d48459e4444aed8f6d31157cb8711f1f", checked := Try.checked }
namespace Rows
def none {H : Type} : Left H := { results := [], args := [] }

/-- 'almonerlaw15.MapsOrder': WHATEVER THE INPUT: true; the input reads as it did. -/
def mapsOrderSpec : ChangeSpec := { name := "mapsOrder", fn := fun _ => fun
  | [d1, d2, d3] => { results := [.lit (.bool true)], args := [d1, d2, d3] }
  | _ => none }
def mapsOrderRow : OpenClaim := { program := "ytfmgoehnbaiamaa", sum := "2994f8b835ee04656cd05ff1c5c8de25d48459e4444aed8f6d31157cb8711f1f", func := "almoner/almonerlaw15.MapsOrder", spec := "mapsOrder", inPlace := ["internal/bytealg.Compare"], unfollowed := true, recurses := true, plainKeys := false, apart := false }
def MapsOrderSaid : Prop := mapsOrderRow.holds Try.pinned (OpenSpec.ofChange mapsOrderSpec)

/-- ITS FALSE NEIGHBOUR: 'it returns false'. Refute it at one input. -/
def mapsOrderWrong : ChangeSpec := { name := "mapsOrder", fn := fun _ => fun
  | [d1, d2, d3] => { results := [.lit (.bool false)], args := [d1, d2, d3] }
  | _ => none }
def MapsOrderWrongFalsely : Prop := mapsOrderRow.holds Try.pinned (OpenSpec.ofChange mapsOrderWrong)

/-- 'almonerlaw15.MapsGet': WHATEVER THE INPUT: true; the input reads as it did. -/
def mapsGetSpec : ChangeSpec := { name := "mapsGet", fn := fun _ => fun
  | [d1, d2] => { results := [.lit (.bool true)], args := [d1, d2] }
  | _ => none }
def mapsGetRow : OpenClaim := { program := "ytfmgoehnbaiamaa", sum := "2994f8b835ee04656cd05ff1c5c8de25d48459e4444aed8f6d31157cb8711f1f", func := "almoner/almonerlaw15.MapsGet", spec := "mapsGet", inPlace := ["internal/bytealg.Compare"], unfollowed := true, recurses := true, plainKeys := false, apart := false }
def MapsGetSaid : Prop := mapsGetRow.holds Try.pinned (OpenSpec.ofChange mapsGetSpec)

/-- ITS FALSE NEIGHBOUR: 'it returns false'. Refute it at one input. -/
def mapsGetWrong : ChangeSpec := { name := "mapsGet", fn := fun _ => fun
  | [d1, d2] => { results := [.lit (.bool false)], args := [d1, d2] }
  | _ => none }
def MapsGetWrongFalsely : Prop := mapsGetRow.holds Try.pinned (OpenSpec.ofChange mapsGetWrong)

/-- 'almonerlaw15.MapsOne': WHATEVER THE INPUT: true; the input reads as it did. -/
def mapsOneSpec : ChangeSpec := { name := "mapsOne", fn := fun _ => fun
  | [d1, d2] => { results := [.lit (.bool true)], args := [d1, d2] }
  | _ => none }
def mapsOneRow : OpenClaim := { program := "ytfmgoehnbaiamaa", sum := "2994f8b835ee04656cd05ff1c5c8de25d48459e4444aed8f6d31157cb8711f1f", func := "almoner/almonerlaw15.MapsOne", spec := "mapsOne", inPlace := ["internal/bytealg.Compare"], unfollowed := true, recurses := true, plainKeys := false, apart := false }
def MapsOneSaid : Prop := mapsOneRow.holds Try.pinned (OpenSpec.ofChange mapsOneSpec)

/-- ITS FALSE NEIGHBOUR: 'it returns false'. Refute it at one input. -/
def mapsOneWrong : ChangeSpec := { name := "mapsOne", fn := fun _ => fun
  | [d1, d2] => { results := [.lit (.bool false)], args := [d1, d2] }
  | _ => none }
def MapsOneWrongFalsely : Prop := mapsOneRow.holds Try.pinned (OpenSpec.ofChange mapsOneWrong)

/-- 'almonerlaw15.MapsHalves': WHATEVER THE INPUT: true; the input reads as it did. -/
def mapsHalvesSpec : ChangeSpec := { name := "mapsHalves", fn := fun _ => fun
  | [d1, d2, d3] => { results := [.lit (.bool true)], args := [d1, d2, d3] }
  | _ => none }
def mapsHalvesRow : OpenClaim := { program := "ytfmgoehnbaiamaa", sum := "2994f8b835ee04656cd05ff1c5c8de25d48459e4444aed8f6d31157cb8711f1f", func := "almoner/almonerlaw15.MapsHalves", spec := "mapsHalves", inPlace := ["internal/bytealg.Compare"], unfollowed := true, recurses := true, plainKeys := false, apart := false }
def MapsHalvesSaid : Prop := mapsHalvesRow.holds Try.pinned (OpenSpec.ofChange mapsHalvesSpec)

/-- ITS FALSE NEIGHBOUR: 'it returns false'. Refute it at one input. -/
def mapsHalvesWrong : ChangeSpec := { name := "mapsHalves", fn := fun _ => fun
  | [d1, d2, d3] => { results := [.lit (.bool false)], args := [d1, d2, d3] }
  | _ => none }
def MapsHalvesWrongFalsely : Prop := mapsHalvesRow.holds Try.pinned (OpenSpec.ofChange mapsHalvesWrong)

/-- 'almonerlaw15.MapsNone': WHATEVER THE INPUT: true; the input reads as it did. -/
def mapsNoneSpec : ChangeSpec := { name := "mapsNone", fn := fun _ => fun
  | [d1, d2] => { results := [.lit (.bool true)], args := [d1, d2] }
  | _ => none }
def mapsNoneRow : OpenClaim := { program := "ytfmgoehnbaiamaa", sum := "2994f8b835ee04656cd05ff1c5c8de25d48459e4444aed8f6d31157cb8711f1f", func := "almoner/almonerlaw15.MapsNone", spec := "mapsNone", inPlace := ["internal/bytealg.Compare"], unfollowed := true, recurses := true, plainKeys := false, apart := false }
def MapsNoneSaid : Prop := mapsNoneRow.holds Try.pinned (OpenSpec.ofChange mapsNoneSpec)

/-- ITS FALSE NEIGHBOUR: 'it returns false'. Refute it at one input. -/
def mapsNoneWrong : ChangeSpec := { name := "mapsNone", fn := fun _ => fun
  | [d1, d2] => { results := [.lit (.bool false)], args := [d1, d2] }
  | _ => none }
def MapsNoneWrongFalsely : Prop := mapsNoneRow.holds Try.pinned (OpenSpec.ofChange mapsNoneWrong)

/-- 'almonerlaw15.MapsCopy': WHATEVER THE INPUT: true; the input reads as it did. -/
def mapsCopySpec : ChangeSpec := { name := "mapsCopy", fn := fun _ => fun
  | [d1, d2, d3] => { results := [.lit (.bool true)], args := [d1, d2, d3] }
  | _ => none }
def mapsCopyRow : OpenClaim := { program := "ytfmgoehnbaiamaa", sum := "2994f8b835ee04656cd05ff1c5c8de25d48459e4444aed8f6d31157cb8711f1f", func := "almoner/almonerlaw15.MapsCopy", spec := "mapsCopy", inPlace := ["internal/bytealg.Compare"], unfollowed := true, recurses := true, plainKeys := false, apart := false }
def MapsCopySaid : Prop := mapsCopyRow.holds Try.pinned (OpenSpec.ofChange mapsCopySpec)

/-- ITS FALSE NEIGHBOUR: 'it returns false'. Refute it at one input. -/
def mapsCopyWrong : ChangeSpec := { name := "mapsCopy", fn := fun _ => fun
  | [d1, d2, d3] => { results := [.lit (.bool false)], args := [d1, d2, d3] }
  | _ => none }
def MapsCopyWrongFalsely : Prop := mapsCopyRow.holds Try.pinned (OpenSpec.ofChange mapsCopyWrong)

/-- 'almonerlaw16.ShowsNone': WHATEVER THE INPUT: true; the input reads as it did. -/
def showsNoneSpec : ChangeSpec := { name := "showsNone", fn := fun _ => fun
  | [d] => { results := [.lit (.bool true)], args := [d] }
  | _ => none }
def showsNoneRow : OpenClaim := { program := "ytfmgoehnbaiamaa", sum := "2994f8b835ee04656cd05ff1c5c8de25d48459e4444aed8f6d31157cb8711f1f", func := "almoner/almonerlaw16.ShowsNone", spec := "showsNone", inPlace := ["internal/bytealg.Compare"], unfollowed := true, recurses := true, plainKeys := false, apart := false }
def ShowsNoneSaid : Prop := showsNoneRow.holds Try.pinned (OpenSpec.ofChange showsNoneSpec)

/-- ITS FALSE NEIGHBOUR: 'it returns false'. Refute it at one input. -/
def showsNoneWrong : ChangeSpec := { name := "showsNone", fn := fun _ => fun
  | [d] => { results := [.lit (.bool false)], args := [d] }
  | _ => none }
def ShowsNoneWrongFalsely : Prop := showsNoneRow.holds Try.pinned (OpenSpec.ofChange showsNoneWrong)

/-- 'almonerlaw16.ShowsBack': WHATEVER THE INPUT: true; the input reads as it did. -/
def showsBackSpec : ChangeSpec := { name := "showsBack", fn := fun _ => fun
  | [d1, d2] => { results := [.lit (.bool true)], args := [d1, d2] }
  | _ => none }
def showsBackRow : OpenClaim := { program := "ytfmgoehnbaiamaa", sum := "2994f8b835ee04656cd05ff1c5c8de25d48459e4444aed8f6d31157cb8711f1f", func := "almoner/almonerlaw16.ShowsBack", spec := "showsBack", inPlace := ["internal/bytealg.Compare"], unfollowed := true, recurses := true, plainKeys := false, apart := false }
def ShowsBackSaid : Prop := showsBackRow.holds Try.pinned (OpenSpec.ofChange showsBackSpec)

/-- ITS FALSE NEIGHBOUR: 'it returns false'. Refute it at one input. -/
def showsBackWrong : ChangeSpec := { name := "showsBack", fn := fun _ => fun
  | [d1, d2] => { results := [.lit (.bool false)], args := [d1, d2] }
  | _ => none }
def ShowsBackWrongFalsely : Prop := showsBackRow.holds Try.pinned (OpenSpec.ofChange showsBackWrong)

/-- 'almonerlaw16.ShowsCount': WHATEVER THE INPUT: true; the input reads as it did. -/
def showsCountSpec : ChangeSpec := { name := "showsCount", fn := fun _ => fun
  | [d1, d2, d3] => { results := [.lit (.bool true)], args := [d1, d2, d3] }
  | _ => none }
def showsCountRow : OpenClaim := { program := "ytfmgoehnbaiamaa", sum := "2994f8b835ee04656cd05ff1c5c8de25d48459e4444aed8f6d31157cb8711f1f", func := "almoner/almonerlaw16.ShowsCount", spec := "showsCount", inPlace := ["internal/bytealg.Compare"], unfollowed := true, recurses := true, plainKeys := false, apart := false }
def ShowsCountSaid : Prop := showsCountRow.holds Try.pinned (OpenSpec.ofChange showsCountSpec)

/-- ITS FALSE NEIGHBOUR: 'it returns false'. Refute it at one input. -/
def showsCountWrong : ChangeSpec := { name := "showsCount", fn := fun _ => fun
  | [d1, d2, d3] => { results := [.lit (.bool false)], args := [d1, d2, d3] }
  | _ => none }
def ShowsCountWrongFalsely : Prop := showsCountRow.holds Try.pinned (OpenSpec.ofChange showsCountWrong)

/-- 'almonerlaw16.ShowsFull': WHATEVER THE INPUT: true; the input reads as it did. -/
def showsFullSpec : ChangeSpec := { name := "showsFull", fn := fun _ => fun
  | [d1, d2, d3] => { results := [.lit (.bool true)], args := [d1, d2, d3] }
  | _ => none }
def showsFullRow : OpenClaim := { program := "ytfmgoehnbaiamaa", sum := "2994f8b835ee04656cd05ff1c5c8de25d48459e4444aed8f6d31157cb8711f1f", func := "almoner/almonerlaw16.ShowsFull", spec := "showsFull", inPlace := ["internal/bytealg.Compare"], unfollowed := true, recurses := true, plainKeys := false, apart := false }
def ShowsFullSaid : Prop := showsFullRow.holds Try.pinned (OpenSpec.ofChange showsFullSpec)

/-- ITS FALSE NEIGHBOUR: 'it returns false'. Refute it at one input. -/
def showsFullWrong : ChangeSpec := { name := "showsFull", fn := fun _ => fun
  | [d1, d2, d3] => { results := [.lit (.bool false)], args := [d1, d2, d3] }
  | _ => none }
def ShowsFullWrongFalsely : Prop := showsFullRow.holds Try.pinned (OpenSpec.ofChange showsFullWrong)

/-- 'almonerlaw16.ShowsPut': WHATEVER THE INPUT: true; the input reads as it did. -/
def showsPutSpec : ChangeSpec := { name := "showsPut", fn := fun _ => fun
  | [d1, d2, d3] => { results := [.lit (.bool true)], args := [d1, d2, d3] }
  | _ => none }
def showsPutRow : OpenClaim := { program := "ytfmgoehnbaiamaa", sum := "2994f8b835ee04656cd05ff1c5c8de25d48459e4444aed8f6d31157cb8711f1f", func := "almoner/almonerlaw16.ShowsPut", spec := "showsPut", inPlace := ["internal/bytealg.Compare"], unfollowed := true, recurses := true, plainKeys := false, apart := false }
def ShowsPutSaid : Prop := showsPutRow.holds Try.pinned (OpenSpec.ofChange showsPutSpec)

/-- ITS FALSE NEIGHBOUR: 'it returns false'. Refute it at one input. -/
def showsPutWrong : ChangeSpec := { name := "showsPut", fn := fun _ => fun
  | [d1, d2, d3] => { results := [.lit (.bool false)], args := [d1, d2, d3] }
  | _ => none }
def ShowsPutWrongFalsely : Prop := showsPutRow.holds Try.pinned (OpenSpec.ofChange showsPutWrong)

/-- 'almonerlaw16.ShowsNear': WHATEVER THE INPUT: true; the input reads as it did. -/
def showsNearSpec : ChangeSpec := { name := "showsNear", fn := fun _ => fun
  | [d1, d2, d3] => { results := [.lit (.bool true)], args := [d1, d2, d3] }
  | _ => none }
def showsNearRow : OpenClaim := { program := "ytfmgoehnbaiamaa", sum := "2994f8b835ee04656cd05ff1c5c8de25d48459e4444aed8f6d31157cb8711f1f", func := "almoner/almonerlaw16.ShowsNear", spec := "showsNear", inPlace := ["internal/bytealg.Compare"], unfollowed := true, recurses := true, plainKeys := false, apart := false }
def ShowsNearSaid : Prop := showsNearRow.holds Try.pinned (OpenSpec.ofChange showsNearSpec)

/-- ITS FALSE NEIGHBOUR: 'it returns false'. Refute it at one input. -/
def showsNearWrong : ChangeSpec := { name := "showsNear", fn := fun _ => fun
  | [d1, d2, d3] => { results := [.lit (.bool false)], args := [d1, d2, d3] }
  | _ => none }
def ShowsNearWrongFalsely : Prop := showsNearRow.holds Try.pinned (OpenSpec.ofChange showsNearWrong)

/-- 'almonerlaw17.SplitsMaps': WHATEVER THE INPUT: true; the input reads as it did. -/
def splitsMapsSpec : ChangeSpec := { name := "splitsMaps", fn := fun _ => fun
  | [d1, d2] => { results := [.lit (.bool true)], args := [d1, d2] }
  | _ => none }
def splitsMapsRow : OpenClaim := { program := "ytfmgoehnbaiamaa", sum := "2994f8b835ee04656cd05ff1c5c8de25d48459e4444aed8f6d31157cb8711f1f", func := "almoner/almonerlaw17.SplitsMaps", spec := "splitsMaps", inPlace := ["internal/bytealg.Compare"], unfollowed := true, recurses := true, plainKeys := false, apart := false }
def SplitsMapsSaid : Prop := splitsMapsRow.holds Try.pinned (OpenSpec.ofChange splitsMapsSpec)

/-- ITS FALSE NEIGHBOUR: 'it returns false'. Refute it at one input. -/
def splitsMapsWrong : ChangeSpec := { name := "splitsMaps", fn := fun _ => fun
  | [d1, d2] => { results := [.lit (.bool false)], args := [d1, d2] }
  | _ => none }
def SplitsMapsWrongFalsely : Prop := splitsMapsRow.holds Try.pinned (OpenSpec.ofChange splitsMapsWrong)

/-- 'almonerlaw17.SplitsShow': WHATEVER THE INPUT: true; the input reads as it did. -/
def splitsShowSpec : ChangeSpec := { name := "splitsShow", fn := fun _ => fun
  | [d1, d2] => { results := [.lit (.bool true)], args := [d1, d2] }
  | _ => none }
def splitsShowRow : OpenClaim := { program := "ytfmgoehnbaiamaa", sum := "2994f8b835ee04656cd05ff1c5c8de25d48459e4444aed8f6d31157cb8711f1f", func := "almoner/almonerlaw17.SplitsShow", spec := "splitsShow", inPlace := ["internal/bytealg.Compare"], unfollowed := true, recurses := true, plainKeys := false, apart := false }
def SplitsShowSaid : Prop := splitsShowRow.holds Try.pinned (OpenSpec.ofChange splitsShowSpec)

/-- ITS FALSE NEIGHBOUR: 'it returns false'. Refute it at one input. -/
def splitsShowWrong : ChangeSpec := { name := "splitsShow", fn := fun _ => fun
  | [d1, d2] => { results := [.lit (.bool false)], args := [d1, d2] }
  | _ => none }
def SplitsShowWrongFalsely : Prop := splitsShowRow.holds Try.pinned (OpenSpec.ofChange splitsShowWrong)

/-- 'almonerlaw17.SplitsTwo': WHATEVER THE INPUT: true; the input reads as it did. -/
def splitsTwoSpec : ChangeSpec := { name := "splitsTwo", fn := fun _ => fun
  | [d1, d2] => { results := [.lit (.bool true)], args := [d1, d2] }
  | _ => none }
def splitsTwoRow : OpenClaim := { program := "ytfmgoehnbaiamaa", sum := "2994f8b835ee04656cd05ff1c5c8de25d48459e4444aed8f6d31157cb8711f1f", func := "almoner/almonerlaw17.SplitsTwo", spec := "splitsTwo", inPlace := ["internal/bytealg.Compare"], unfollowed := true, recurses := true, plainKeys := false, apart := false }
def SplitsTwoSaid : Prop := splitsTwoRow.holds Try.pinned (OpenSpec.ofChange splitsTwoSpec)

/-- ITS FALSE NEIGHBOUR: 'it returns false'. Refute it at one input. -/
def splitsTwoWrong : ChangeSpec := { name := "splitsTwo", fn := fun _ => fun
  | [d1, d2] => { results := [.lit (.bool false)], args := [d1, d2] }
  | _ => none }
def SplitsTwoWrongFalsely : Prop := splitsTwoRow.holds Try.pinned (OpenSpec.ofChange splitsTwoWrong)

/-- 'almonerlaw17.SplitsOwn': WHATEVER THE INPUT: true; the input reads as it did. -/
def splitsOwnSpec : ChangeSpec := { name := "splitsOwn", fn := fun _ => fun
  | [d1, d2] => { results := [.lit (.bool true)], args := [d1, d2] }
  | _ => none }
def splitsOwnRow : OpenClaim := { program := "ytfmgoehnbaiamaa", sum := "2994f8b835ee04656cd05ff1c5c8de25d48459e4444aed8f6d31157cb8711f1f", func := "almoner/almonerlaw17.SplitsOwn", spec := "splitsOwn", inPlace := ["internal/bytealg.Compare"], unfollowed := true, recurses := true, plainKeys := false, apart := false }
def SplitsOwnSaid : Prop := splitsOwnRow.holds Try.pinned (OpenSpec.ofChange splitsOwnSpec)

/-- ITS FALSE NEIGHBOUR: 'it returns false'. Refute it at one input. -/
def splitsOwnWrong : ChangeSpec := { name := "splitsOwn", fn := fun _ => fun
  | [d1, d2] => { results := [.lit (.bool false)], args := [d1, d2] }
  | _ => none }
def SplitsOwnWrongFalsely : Prop := splitsOwnRow.holds Try.pinned (OpenSpec.ofChange splitsOwnWrong)

/- THE SECOND FORM. 'bulk': how many values and letters a reading holds, each counted each time it is reached (what is shared counts as often as it is met; a slice's spare places count too). A statement '..UptoSaid' is the law's where the arguments, and the package variables that the reading takes, are together of bulk at most 1048576: NARROWER than '..Said'. Prove '..Said' where nothing that the law and all that it calls make is longer than what came in: it says more and counts as full. Else prove '..UptoSaid'. A law counts once. -/
mutual
def uptoBulk {H : Type} : DataW H → Nat
  | .lit (.string bytes) => bytes.length + 1
  | .lit _ => 1
  | .nil => 1
  | .ptr d => uptoBulk d + 1
  | .slice elems spare => uptoBulkAll elems + uptoBulkAll spare + 1
  | .agg parts => uptoBulkAll parts + 1
  | .iface _ d => uptoBulk d + 1
  | .map entries => uptoBulkEntries entries + 1
  | .held _ => 1
def uptoBulkAll {H : Type} : List (DataW H) → Nat
  | [] => 0
  | d :: r => uptoBulk d + uptoBulkAll r
def uptoBulkEntries {H : Type} : List (Lit × DataW H) → Nat
  | [] => 0
  | x :: r => uptoBulkEntry x + uptoBulkEntries r
def uptoBulkEntry {H : Type} : Lit × DataW H → Nat
  | (.string bytes, d) => bytes.length + uptoBulk d + 1
  | (_, d) => uptoBulk d + 1
 end
def uptoSmall : (H : Type) → List (DataW H) → Bool := fun _ ds => decide (uptoBulkAll ds ≤ 1048576)
def OpenSpec.upto (s : _root_.Go.ChangeSpec) : _root_.Go.OpenSpec := { _root_.Go.OpenSpec.ofChange s with cond := some uptoSmall }

/-- 'almonerlaw15.MapsOrder', WHERE WHAT IT READS IS OF BULK AT MOST 1048576: true; the input reads as it did. -/
def mapsOrderUptoRow : OpenClaim := { program := "ytfmgoehnbaiamaa", sum := "2994f8b835ee04656cd05ff1c5c8de25d48459e4444aed8f6d31157cb8711f1f", func := "almoner/almonerlaw15.MapsOrder", spec := "mapsOrder", inPlace := ["internal/bytealg.Compare"], unfollowed := true, recurses := true, plainKeys := false, apart := false, narrowed := true }
def MapsOrderUptoSaid : Prop := mapsOrderUptoRow.holds Try.pinned (OpenSpec.upto mapsOrderSpec)

/-- 'almonerlaw15.MapsGet', WHERE WHAT IT READS IS OF BULK AT MOST 1048576: true; the input reads as it did. -/
def mapsGetUptoRow : OpenClaim := { program := "ytfmgoehnbaiamaa", sum := "2994f8b835ee04656cd05ff1c5c8de25d48459e4444aed8f6d31157cb8711f1f", func := "almoner/almonerlaw15.MapsGet", spec := "mapsGet", inPlace := ["internal/bytealg.Compare"], unfollowed := true, recurses := true, plainKeys := false, apart := false, narrowed := true }
def MapsGetUptoSaid : Prop := mapsGetUptoRow.holds Try.pinned (OpenSpec.upto mapsGetSpec)

/-- 'almonerlaw15.MapsOne', WHERE WHAT IT READS IS OF BULK AT MOST 1048576: true; the input reads as it did. -/
def mapsOneUptoRow : OpenClaim := { program := "ytfmgoehnbaiamaa", sum := "2994f8b835ee04656cd05ff1c5c8de25d48459e4444aed8f6d31157cb8711f1f", func := "almoner/almonerlaw15.MapsOne", spec := "mapsOne", inPlace := ["internal/bytealg.Compare"], unfollowed := true, recurses := true, plainKeys := false, apart := false, narrowed := true }
def MapsOneUptoSaid : Prop := mapsOneUptoRow.holds Try.pinned (OpenSpec.upto mapsOneSpec)

/-- 'almonerlaw15.MapsHalves', WHERE WHAT IT READS IS OF BULK AT MOST 1048576: true; the input reads as it did. -/
def mapsHalvesUptoRow : OpenClaim := { program := "ytfmgoehnbaiamaa", sum := "2994f8b835ee04656cd05ff1c5c8de25d48459e4444aed8f6d31157cb8711f1f", func := "almoner/almonerlaw15.MapsHalves", spec := "mapsHalves", inPlace := ["internal/bytealg.Compare"], unfollowed := true, recurses := true, plainKeys := false, apart := false, narrowed := true }
def MapsHalvesUptoSaid : Prop := mapsHalvesUptoRow.holds Try.pinned (OpenSpec.upto mapsHalvesSpec)

/-- 'almonerlaw15.MapsNone', WHERE WHAT IT READS IS OF BULK AT MOST 1048576: true; the input reads as it did. -/
def mapsNoneUptoRow : OpenClaim := { program := "ytfmgoehnbaiamaa", sum := "2994f8b835ee04656cd05ff1c5c8de25d48459e4444aed8f6d31157cb8711f1f", func := "almoner/almonerlaw15.MapsNone", spec := "mapsNone", inPlace := ["internal/bytealg.Compare"], unfollowed := true, recurses := true, plainKeys := false, apart := false, narrowed := true }
def MapsNoneUptoSaid : Prop := mapsNoneUptoRow.holds Try.pinned (OpenSpec.upto mapsNoneSpec)

/-- 'almonerlaw15.MapsCopy', WHERE WHAT IT READS IS OF BULK AT MOST 1048576: true; the input reads as it did. -/
def mapsCopyUptoRow : OpenClaim := { program := "ytfmgoehnbaiamaa", sum := "2994f8b835ee04656cd05ff1c5c8de25d48459e4444aed8f6d31157cb8711f1f", func := "almoner/almonerlaw15.MapsCopy", spec := "mapsCopy", inPlace := ["internal/bytealg.Compare"], unfollowed := true, recurses := true, plainKeys := false, apart := false, narrowed := true }
def MapsCopyUptoSaid : Prop := mapsCopyUptoRow.holds Try.pinned (OpenSpec.upto mapsCopySpec)

/-- 'almonerlaw16.ShowsNone', WHERE WHAT IT READS IS OF BULK AT MOST 1048576: true; the input reads as it did. -/
def showsNoneUptoRow : OpenClaim := { program := "ytfmgoehnbaiamaa", sum := "2994f8b835ee04656cd05ff1c5c8de25d48459e4444aed8f6d31157cb8711f1f", func := "almoner/almonerlaw16.ShowsNone", spec := "showsNone", inPlace := ["internal/bytealg.Compare"], unfollowed := true, recurses := true, plainKeys := false, apart := false, narrowed := true }
def ShowsNoneUptoSaid : Prop := showsNoneUptoRow.holds Try.pinned (OpenSpec.upto showsNoneSpec)

/-- 'almonerlaw16.ShowsBack', WHERE WHAT IT READS IS OF BULK AT MOST 1048576: true; the input reads as it did. -/
def showsBackUptoRow : OpenClaim := { program := "ytfmgoehnbaiamaa", sum := "2994f8b835ee04656cd05ff1c5c8de25d48459e4444aed8f6d31157cb8711f1f", func := "almoner/almonerlaw16.ShowsBack", spec := "showsBack", inPlace := ["internal/bytealg.Compare"], unfollowed := true, recurses := true, plainKeys := false, apart := false, narrowed := true }
def ShowsBackUptoSaid : Prop := showsBackUptoRow.holds Try.pinned (OpenSpec.upto showsBackSpec)

/-- 'almonerlaw16.ShowsCount', WHERE WHAT IT READS IS OF BULK AT MOST 1048576: true; the input reads as it did. -/
def showsCountUptoRow : OpenClaim := { program := "ytfmgoehnbaiamaa", sum := "2994f8b835ee04656cd05ff1c5c8de25d48459e4444aed8f6d31157cb8711f1f", func := "almoner/almonerlaw16.ShowsCount", spec := "showsCount", inPlace := ["internal/bytealg.Compare"], unfollowed := true, recurses := true, plainKeys := false, apart := false, narrowed := true }
def ShowsCountUptoSaid : Prop := showsCountUptoRow.holds Try.pinned (OpenSpec.upto showsCountSpec)

/-- 'almonerlaw16.ShowsFull', WHERE WHAT IT READS IS OF BULK AT MOST 1048576: true; the input reads as it did. -/
def showsFullUptoRow : OpenClaim := { program := "ytfmgoehnbaiamaa", sum := "2994f8b835ee04656cd05ff1c5c8de25d48459e4444aed8f6d31157cb8711f1f", func := "almoner/almonerlaw16.ShowsFull", spec := "showsFull", inPlace := ["internal/bytealg.Compare"], unfollowed := true, recurses := true, plainKeys := false, apart := false, narrowed := true }
def ShowsFullUptoSaid : Prop := showsFullUptoRow.holds Try.pinned (OpenSpec.upto showsFullSpec)

/-- 'almonerlaw16.ShowsPut', WHERE WHAT IT READS IS OF BULK AT MOST 1048576: true; the input reads as it did. -/
def showsPutUptoRow : OpenClaim := { program := "ytfmgoehnbaiamaa", sum := "2994f8b835ee04656cd05ff1c5c8de25d48459e4444aed8f6d31157cb8711f1f", func := "almoner/almonerlaw16.ShowsPut", spec := "showsPut", inPlace := ["internal/bytealg.Compare"], unfollowed := true, recurses := true, plainKeys := false, apart := false, narrowed := true }
def ShowsPutUptoSaid : Prop := showsPutUptoRow.holds Try.pinned (OpenSpec.upto showsPutSpec)

/-- 'almonerlaw16.ShowsNear', WHERE WHAT IT READS IS OF BULK AT MOST 1048576: true; the input reads as it did. -/
def showsNearUptoRow : OpenClaim := { program := "ytfmgoehnbaiamaa", sum := "2994f8b835ee04656cd05ff1c5c8de25d48459e4444aed8f6d31157cb8711f1f", func := "almoner/almonerlaw16.ShowsNear", spec := "showsNear", inPlace := ["internal/bytealg.Compare"], unfollowed := true, recurses := true, plainKeys := false, apart := false, narrowed := true }
def ShowsNearUptoSaid : Prop := showsNearUptoRow.holds Try.pinned (OpenSpec.upto showsNearSpec)

/-- 'almonerlaw17.SplitsMaps', WHERE WHAT IT READS IS OF BULK AT MOST 1048576: true; the input reads as it did. -/
def splitsMapsUptoRow : OpenClaim := { program := "ytfmgoehnbaiamaa", sum := "2994f8b835ee04656cd05ff1c5c8de25d48459e4444aed8f6d31157cb8711f1f", func := "almoner/almonerlaw17.SplitsMaps", spec := "splitsMaps", inPlace := ["internal/bytealg.Compare"], unfollowed := true, recurses := true, plainKeys := false, apart := false, narrowed := true }
def SplitsMapsUptoSaid : Prop := splitsMapsUptoRow.holds Try.pinned (OpenSpec.upto splitsMapsSpec)

/-- 'almonerlaw17.SplitsShow', WHERE WHAT IT READS IS OF BULK AT MOST 1048576: true; the input reads as it did. -/
def splitsShowUptoRow : OpenClaim := { program := "ytfmgoehnbaiamaa", sum := "2994f8b835ee04656cd05ff1c5c8de25d48459e4444aed8f6d31157cb8711f1f", func := "almoner/almonerlaw17.SplitsShow", spec := "splitsShow", inPlace := ["internal/bytealg.Compare"], unfollowed := true, recurses := true, plainKeys := false, apart := false, narrowed := true }
def SplitsShowUptoSaid : Prop := splitsShowUptoRow.holds Try.pinned (OpenSpec.upto splitsShowSpec)

/-- 'almonerlaw17.SplitsTwo', WHERE WHAT IT READS IS OF BULK AT MOST 1048576: true; the input reads as it did. -/
def splitsTwoUptoRow : OpenClaim := { program := "ytfmgoehnbaiamaa", sum := "2994f8b835ee04656cd05ff1c5c8de25d48459e4444aed8f6d31157cb8711f1f", func := "almoner/almonerlaw17.SplitsTwo", spec := "splitsTwo", inPlace := ["internal/bytealg.Compare"], unfollowed := true, recurses := true, plainKeys := false, apart := false, narrowed := true }
def SplitsTwoUptoSaid : Prop := splitsTwoUptoRow.holds Try.pinned (OpenSpec.upto splitsTwoSpec)

/-- 'almonerlaw17.SplitsOwn', WHERE WHAT IT READS IS OF BULK AT MOST 1048576: true; the input reads as it did. -/
def splitsOwnUptoRow : OpenClaim := { program := "ytfmgoehnbaiamaa", sum := "2994f8b835ee04656cd05ff1c5c8de25d48459e4444aed8f6d31157cb8711f1f", func := "almoner/almonerlaw17.SplitsOwn", spec := "splitsOwn", inPlace := ["internal/bytealg.Compare"], unfollowed := true, recurses := true, plainKeys := false, apart := false, narrowed := true }
def SplitsOwnUptoSaid : Prop := splitsOwnUptoRow.holds Try.pinned (OpenSpec.upto splitsOwnSpec)

end Rows
end Go.Proofs.Ytfmgoehnbaiamaa
