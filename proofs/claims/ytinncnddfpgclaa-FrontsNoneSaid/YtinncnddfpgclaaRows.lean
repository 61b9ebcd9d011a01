/-
  No cell of these rows narrows 'for every input' (looked for: loops, veiled, ifaces, maps, wideKeys, modest, calm, conditions, laid).
  DERIVED. THE GIVEN ROWS OF THIS SEAT. 11 by the template 'for every input the law returns true; each argument reads behind the call as it read before'; 0 by the template 'total and deterministic' (their statements: YtinncnddfpgclaaTotals.lean).
  GIVEN WITH THE SEED: the statements are not yours to turn. If you find one false, say at which input.
  Laid BY PROGRAM, IN A SANDBOX (cutbox-rows.mjs): the forced cells as the released guide's own fill.sh prints them over the translation ef33810e7a8b2a89… (all of the seat's roots in one cut). By AI agents, Wed Nov 11 2026. No macro, syntax, notation, axiom, sorry.
-/
import Derived.Test.YtinncnddfpgclaaChecked
import GoSem.Claim
import GoSem.ClaimJoined
import GoSem.ClaimMapViews
import Derived.JoinedTies
import Derived.KernelRfl
namespace Go.Proofs.Ytinncnddfpgclaa
/- THE CELL 'sum', in the pinned program and in every row, IS THE sha256 OF THE DUMP (.gsa) THAT YtinncnddfpgclaaProg.lean LOADS. Nothing in Lean hashes anything: it is a label: what it is worth is what the hold of that sum in a sandbox is worth. -/
noncomputable def Try.pinned : Pinned := { name := "ytinncnddfpgclaa", sum := "ef33810e7a8b2a89d39083bd0255526e2576724ddaa047d87552cf8daa1782a8", checked := Try.checked }
namespace Rows
def none {H : Type} : Left H := { results := [], args := [] }

/-- 'almonerlaw10.PathsBack': WHATEVER THE INPUT: true; the input reads as it did. -/
def pathsBackSpec : ChangeSpec := { name := "pathsBack", fn := fun _ => fun
  | [d1, d2, d3] => { results := [.lit (.bool true)], args := [d1, d2, d3] }
  | _ => none }
def pathsBackRow : OpenClaim := { program := "ytinncnddfpgclaa", sum := "ef33810e7a8b2a89d39083bd0255526e2576724ddaa047d87552cf8daa1782a8", func := "almoner/almonerlaw10.PathsBack", spec := "pathsBack", unfollowed := true, recurses := true, apart := false }
def PathsBackSaid : Prop := pathsBackRow.holds Try.pinned (OpenSpec.ofChange pathsBackSpec)

/-- ITS FALSE NEIGHBOUR: 'it returns false'. Refute it at one input. -/
def pathsBackWrong : ChangeSpec := { name := "pathsBack", fn := fun _ => fun
  | [d1, d2, d3] => { results := [.lit (.bool false)], args := [d1, d2, d3] }
  | _ => none }
def PathsBackWrongFalsely : Prop := pathsBackRow.holds Try.pinned (OpenSpec.ofChange pathsBackWrong)

/-- 'almonerlaw10.PathsEnds': WHATEVER THE INPUT: true; the input reads as it did. -/
def pathsEndsSpec : ChangeSpec := { name := "pathsEnds", fn := fun _ => fun
  | [d] => { results := [.lit (.bool true)], args := [d] }
  | _ => none }
def pathsEndsRow : OpenClaim := { program := "ytinncnddfpgclaa", sum := "ef33810e7a8b2a89d39083bd0255526e2576724ddaa047d87552cf8daa1782a8", func := "almoner/almonerlaw10.PathsEnds", spec := "pathsEnds", unfollowed := true, recurses := true, apart := false }
def PathsEndsSaid : Prop := pathsEndsRow.holds Try.pinned (OpenSpec.ofChange pathsEndsSpec)

/-- ITS FALSE NEIGHBOUR: 'it returns false'. Refute it at one input. -/
def pathsEndsWrong : ChangeSpec := { name := "pathsEnds", fn := fun _ => fun
  | [d] => { results := [.lit (.bool false)], args := [d] }
  | _ => none }
def PathsEndsWrongFalsely : Prop := pathsEndsRow.holds Try.pinned (OpenSpec.ofChange pathsEndsWrong)

/-- 'almonerlaw10.PathsBoth': WHATEVER THE INPUT: true; the input reads as it did. -/
def pathsBothSpec : ChangeSpec := { name := "pathsBoth", fn := fun _ => fun
  | [d1, d2, d3] => { results := [.lit (.bool true)], args := [d1, d2, d3] }
  | _ => none }
def pathsBothRow : OpenClaim := { program := "ytinncnddfpgclaa", sum := "ef33810e7a8b2a89d39083bd0255526e2576724ddaa047d87552cf8daa1782a8", func := "almoner/almonerlaw10.PathsBoth", spec := "pathsBoth", unfollowed := true, recurses := true, apart := false }
def PathsBothSaid : Prop := pathsBothRow.holds Try.pinned (OpenSpec.ofChange pathsBothSpec)

/-- ITS FALSE NEIGHBOUR: 'it returns false'. Refute it at one input. -/
def pathsBothWrong : ChangeSpec := { name := "pathsBoth", fn := fun _ => fun
  | [d1, d2, d3] => { results := [.lit (.bool false)], args := [d1, d2, d3] }
  | _ => none }
def PathsBothWrongFalsely : Prop := pathsBothRow.holds Try.pinned (OpenSpec.ofChange pathsBothWrong)

/-- 'almonerlaw09.FrontsNone': WHATEVER THE INPUT: true; the input reads as it did. -/
def frontsNoneSpec : ChangeSpec := { name := "frontsNone", fn := fun _ => fun
  | [d] => { results := [.lit (.bool true)], args := [d] }
  | _ => none }
def frontsNoneRow : OpenClaim := { program := "ytinncnddfpgclaa", sum := "ef33810e7a8b2a89d39083bd0255526e2576724ddaa047d87552cf8daa1782a8", func := "almoner/almonerlaw09.FrontsNone", spec := "frontsNone", unfollowed := true, recurses := true, apart := false }
def FrontsNoneSaid : Prop := frontsNoneRow.holds Try.pinned (OpenSpec.ofChange frontsNoneSpec)

/-- ITS FALSE NEIGHBOUR: 'it returns false'. Refute it at one input. -/
def frontsNoneWrong : ChangeSpec := { name := "frontsNone", fn := fun _ => fun
  | [d] => { results := [.lit (.bool false)], args := [d] }
  | _ => none }
def FrontsNoneWrongFalsely : Prop := frontsNoneRow.holds Try.pinned (OpenSpec.ofChange frontsNoneWrong)

/-- 'almonerlaw09.FrontsRoot': WHATEVER THE INPUT: true; the input reads as it did. -/
def frontsRootSpec : ChangeSpec := { name := "frontsRoot", fn := fun _ => fun
  | [d1, d2] => { results := [.lit (.bool true)], args := [d1, d2] }
  | _ => none }
def frontsRootRow : OpenClaim := { program := "ytinncnddfpgclaa", sum := "ef33810e7a8b2a89d39083bd0255526e2576724ddaa047d87552cf8daa1782a8", func := "almoner/almonerlaw09.FrontsRoot", spec := "frontsRoot", unfollowed := true, recurses := true, apart := false }
def FrontsRootSaid : Prop := frontsRootRow.holds Try.pinned (OpenSpec.ofChange frontsRootSpec)

/-- ITS FALSE NEIGHBOUR: 'it returns false'. Refute it at one input. -/
def frontsRootWrong : ChangeSpec := { name := "frontsRoot", fn := fun _ => fun
  | [d1, d2] => { results := [.lit (.bool false)], args := [d1, d2] }
  | _ => none }
def FrontsRootWrongFalsely : Prop := frontsRootRow.holds Try.pinned (OpenSpec.ofChange frontsRootWrong)

/-- 'almonerlaw09.FrontsBits': WHATEVER THE INPUT: true; the input reads as it did. -/
def frontsBitsSpec : ChangeSpec := { name := "frontsBits", fn := fun _ => fun
  | [d] => { results := [.lit (.bool true)], args := [d] }
  | _ => none }
def frontsBitsRow : OpenClaim := { program := "ytinncnddfpgclaa", sum := "ef33810e7a8b2a89d39083bd0255526e2576724ddaa047d87552cf8daa1782a8", func := "almoner/almonerlaw09.FrontsBits", spec := "frontsBits", unfollowed := true, recurses := true, apart := false }
def FrontsBitsSaid : Prop := frontsBitsRow.holds Try.pinned (OpenSpec.ofChange frontsBitsSpec)

/-- ITS FALSE NEIGHBOUR: 'it returns false'. Refute it at one input. -/
def frontsBitsWrong : ChangeSpec := { name := "frontsBits", fn := fun _ => fun
  | [d] => { results := [.lit (.bool false)], args := [d] }
  | _ => none }
def FrontsBitsWrongFalsely : Prop := frontsBitsRow.holds Try.pinned (OpenSpec.ofChange frontsBitsWrong)

/-- 'almonerlaw09.FrontsTwo': WHATEVER THE INPUT: true; the input reads as it did. -/
def frontsTwoSpec : ChangeSpec := { name := "frontsTwo", fn := fun _ => fun
  | [d1, d2] => { results := [.lit (.bool true)], args := [d1, d2] }
  | _ => none }
def frontsTwoRow : OpenClaim := { program := "ytinncnddfpgclaa", sum := "ef33810e7a8b2a89d39083bd0255526e2576724ddaa047d87552cf8daa1782a8", func := "almoner/almonerlaw09.FrontsTwo", spec := "frontsTwo", unfollowed := true, recurses := true, apart := false }
def FrontsTwoSaid : Prop := frontsTwoRow.holds Try.pinned (OpenSpec.ofChange frontsTwoSpec)

/-- ITS FALSE NEIGHBOUR: 'it returns false'. Refute it at one input. -/
def frontsTwoWrong : ChangeSpec := { name := "frontsTwo", fn := fun _ => fun
  | [d1, d2] => { results := [.lit (.bool false)], args := [d1, d2] }
  | _ => none }
def FrontsTwoWrongFalsely : Prop := frontsTwoRow.holds Try.pinned (OpenSpec.ofChange frontsTwoWrong)

/-- 'almonerlaw11.LinksBack': WHATEVER THE INPUT: true; the input reads as it did. -/
def linksBackSpec : ChangeSpec := { name := "linksBack", fn := fun _ => fun
  | [d1, d2, d3] => { results := [.lit (.bool true)], args := [d1, d2, d3] }
  | _ => none }
def linksBackRow : OpenClaim := { program := "ytinncnddfpgclaa", sum := "ef33810e7a8b2a89d39083bd0255526e2576724ddaa047d87552cf8daa1782a8", func := "almoner/almonerlaw11.LinksBack", spec := "linksBack", inPlace := ["internal/reflectlite.TypeOf"], unfollowed := true, recurses := true, apart := false }
def LinksBackSaid : Prop := linksBackRow.holds Try.pinned (OpenSpec.ofChange linksBackSpec)

/-- ITS FALSE NEIGHBOUR: 'it returns false'. Refute it at one input. -/
def linksBackWrong : ChangeSpec := { name := "linksBack", fn := fun _ => fun
  | [d1, d2, d3] => { results := [.lit (.bool false)], args := [d1, d2, d3] }
  | _ => none }
def LinksBackWrongFalsely : Prop := linksBackRow.holds Try.pinned (OpenSpec.ofChange linksBackWrong)

/-- 'almonerlaw11.LinksChain': WHATEVER THE INPUT: true; the input reads as it did. -/
def linksChainSpec : ChangeSpec := { name := "linksChain", fn := fun _ => fun
  | [d1, d2] => { results := [.lit (.bool true)], args := [d1, d2] }
  | _ => none }
def linksChainRow : OpenClaim := { program := "ytinncnddfpgclaa", sum := "ef33810e7a8b2a89d39083bd0255526e2576724ddaa047d87552cf8daa1782a8", func := "almoner/almonerlaw11.LinksChain", spec := "linksChain", inPlace := ["internal/reflectlite.TypeOf"], unfollowed := true, recurses := true, apart := false }
def LinksChainSaid : Prop := linksChainRow.holds Try.pinned (OpenSpec.ofChange linksChainSpec)

/-- ITS FALSE NEIGHBOUR: 'it returns false'. Refute it at one input. -/
def linksChainWrong : ChangeSpec := { name := "linksChain", fn := fun _ => fun
  | [d1, d2] => { results := [.lit (.bool false)], args := [d1, d2] }
  | _ => none }
def LinksChainWrongFalsely : Prop := linksChainRow.holds Try.pinned (OpenSpec.ofChange linksChainWrong)

/-- 'almonerlaw11.LinksEnds': WHATEVER THE INPUT: true; the input reads as it did. -/
def linksEndsSpec : ChangeSpec := { name := "linksEnds", fn := fun _ => fun
  | [d] => { results := [.lit (.bool true)], args := [d] }
  | _ => none }
def linksEndsRow : OpenClaim := { program := "ytinncnddfpgclaa", sum := "ef33810e7a8b2a89d39083bd0255526e2576724ddaa047d87552cf8daa1782a8", func := "almoner/almonerlaw11.LinksEnds", spec := "linksEnds", inPlace := ["internal/reflectlite.TypeOf"], unfollowed := true, recurses := true, apart := false }
def LinksEndsSaid : Prop := linksEndsRow.holds Try.pinned (OpenSpec.ofChange linksEndsSpec)

/-- ITS FALSE NEIGHBOUR: 'it returns false'. Refute it at one input. -/
def linksEndsWrong : ChangeSpec := { name := "linksEnds", fn := fun _ => fun
  | [d] => { results := [.lit (.bool false)], args := [d] }
  | _ => none }
def LinksEndsWrongFalsely : Prop := linksEndsRow.holds Try.pinned (OpenSpec.ofChange linksEndsWrong)

/-- 'almonerlaw11.LinksPower': WHATEVER THE INPUT: true; the input reads as it did. -/
def linksPowerSpec : ChangeSpec := { name := "linksPower", fn := fun _ => fun
  | [d1, d2] => { results := [.lit (.bool true)], args := [d1, d2] }
  | _ => none }
def linksPowerRow : OpenClaim := { program := "ytinncnddfpgclaa", sum := "ef33810e7a8b2a89d39083bd0255526e2576724ddaa047d87552cf8daa1782a8", func := "almoner/almonerlaw11.LinksPower", spec := "linksPower", inPlace := ["internal/reflectlite.TypeOf"], unfollowed := true, recurses := true, apart := false }
def LinksPowerSaid : Prop := linksPowerRow.holds Try.pinned (OpenSpec.ofChange linksPowerSpec)

/-- ITS FALSE NEIGHBOUR: 'it returns false'. Refute it at one input. -/
def linksPowerWrong : ChangeSpec := { name := "linksPower", fn := fun _ => fun
  | [d1, d2] => { results := [.lit (.bool false)], args := [d1, d2] }
  | _ => none }
def LinksPowerWrongFalsely : Prop := linksPowerRow.holds Try.pinned (OpenSpec.ofChange linksPowerWrong)

/- THE SECOND FORM. 'bulk': how many values and letters a reading holds, each counted each time it is reached (what is shared counts as often as it is met; a slice's spare places count too). A statement '..UptoSaid' is the law's where the arguments, and the package variables that the reading takes, are together of bulk at most 1048576: NARROWER than '..Said'. Prove '..Said' where nothing that the law and all that it calls make is longer than what came in: it says more and counts as full. Else prove '..UptoSaid'. A law counts once. -/
mutual
def uptoBulk {H : Type} : DataW H → Nat
  | .lit (.string bytes) => bytes.length + 1
  | .lit _ => 1
  | .nil => 1
  | .ptr d => uptoBulk d + 1
  | .slice elems spare => uptoBulkAll elems + uptoBulkAll spare + 1
  | .agg parts => uptoBulkAll parts + 1
  | .iface _ d => uptoBulk d + 1
  | .map entries => uptoBulkEntries entries + 1
  | .held _ => 1
def uptoBulkAll {H : Type} : List (DataW H) → Nat
  | [] => 0
  | d :: r => uptoBulk d + uptoBulkAll r
def uptoBulkEntries {H : Type} : List (Lit × DataW H) → Nat
  | [] => 0
  | x :: r => uptoBulkEntry x + uptoBulkEntries r
def uptoBulkEntry {H : Type} : Lit × DataW H → Nat
  | (.string bytes, d) => bytes.length + uptoBulk d + 1
  | (_, d) => uptoBulk d + 1
 end
def uptoSmall : (H : Type) → List (DataW H) → Bool := fun _ ds => decide (uptoBulkAll ds ≤ 1048576)
def OpenSpec.upto (s : _root_.Go.ChangeSpec) : _root_.Go.OpenSpec := { _root_.Go.OpenSpec.ofChange s with cond := some uptoSmall }

/-- 'almonerlaw10.PathsBack', WHERE WHAT IT READS IS OF BULK AT MOST 1048576: true; the input reads as it did. -/
def pathsBackUptoRow : OpenClaim := { program := "ytinncnddfpgclaa", sum := "ef33810e7a8b2a89d39083bd0255526e2576724ddaa047d87552cf8daa1782a8", func := "almoner/almonerlaw10.PathsBack", spec := "pathsBack", unfollowed := true, recurses := true, apart := false, narrowed := true }
def PathsBackUptoSaid : Prop := pathsBackUptoRow.holds Try.pinned (OpenSpec.upto pathsBackSpec)

/-- 'almonerlaw10.PathsEnds', WHERE WHAT IT READS IS OF BULK AT MOST 1048576: true; the input reads as it did. -/
def pathsEndsUptoRow : OpenClaim := { program := "ytinncnddfpgclaa", sum := "ef33810e7a8b2a89d39083bd0255526e2576724ddaa047d87552cf8daa1782a8", func := "almoner/almonerlaw10.PathsEnds", spec := "pathsEnds", unfollowed := true, recurses := true, apart := false, narrowed := true }
def PathsEndsUptoSaid : Prop := pathsEndsUptoRow.holds Try.pinned (OpenSpec.upto pathsEndsSpec)

/-- 'almonerlaw10.PathsBoth', WHERE WHAT IT READS IS OF BULK AT MOST 1048576: true; the input reads as it did. -/
def pathsBothUptoRow : OpenClaim := { program := "ytinncnddfpgclaa", sum := "ef33810e7a8b2a89d39083bd0255526e2576724ddaa047d87552cf8daa1782a8", func := "almoner/almonerlaw10.PathsBoth", spec := "pathsBoth", unfollowed := true, recurses := true, apart := false, narrowed := true }
def PathsBothUptoSaid : Prop := pathsBothUptoRow.holds Try.pinned (OpenSpec.upto pathsBothSpec)

/-- 'almonerlaw09.FrontsNone', WHERE WHAT IT READS IS OF BULK AT MOST 1048576: true; the input reads as it did. -/
def frontsNoneUptoRow : OpenClaim := { program := "ytinncnddfpgclaa", sum := "ef33810e7a8b2a89d39083bd0255526e2576724ddaa047d87552cf8daa1782a8", func := "almoner/almonerlaw09.FrontsNone", spec := "frontsNone", unfollowed := true, recurses := true, apart := false, narrowed := true }
def FrontsNoneUptoSaid : Prop := frontsNoneUptoRow.holds Try.pinned (OpenSpec.upto frontsNoneSpec)

/-- 'almonerlaw09.FrontsRoot', WHERE WHAT IT READS IS OF BULK AT MOST 1048576: true; the input reads as it did. -/
def frontsRootUptoRow : OpenClaim := { program := "ytinncnddfpgclaa", sum := "ef33810e7a8b2a89d39083bd0255526e2576724ddaa047d87552cf8daa1782a8", func := "almoner/almonerlaw09.FrontsRoot", spec := "frontsRoot", unfollowed := true, recurses := true, apart := false, narrowed := true }
def FrontsRootUptoSaid : Prop := frontsRootUptoRow.holds Try.pinned (OpenSpec.upto frontsRootSpec)

/-- 'almonerlaw09.FrontsBits', WHERE WHAT IT READS IS OF BULK AT MOST 1048576: true; the input reads as it did. -/
def frontsBitsUptoRow : OpenClaim := { program := "ytinncnddfpgclaa", sum := "ef33810e7a8b2a89d39083bd0255526e2576724ddaa047d87552cf8daa1782a8", func := "almoner/almonerlaw09.FrontsBits", spec := "frontsBits", unfollowed := true, recurses := true, apart := false, narrowed := true }
def FrontsBitsUptoSaid : Prop := frontsBitsUptoRow.holds Try.pinned (OpenSpec.upto frontsBitsSpec)

/-- 'almonerlaw09.FrontsTwo', WHERE WHAT IT READS IS OF BULK AT MOST 1048576: true; the input reads as it did. -/
def frontsTwoUptoRow : OpenClaim := { program := "ytinncnddfpgclaa", sum := "ef33810e7a8b2a89d39083bd0255526e2576724ddaa047d87552cf8daa1782a8", func := "almoner/almonerlaw09.FrontsTwo", spec := "frontsTwo", unfollowed := true, recurses := true, apart := false, narrowed := true }
def FrontsTwoUptoSaid : Prop := frontsTwoUptoRow.holds Try.pinned (OpenSpec.upto frontsTwoSpec)

/-- 'almonerlaw11.LinksBack', WHERE WHAT IT READS IS OF BULK AT MOST 1048576: true; the input reads as it did. -/
def linksBackUptoRow : OpenClaim := { program := "ytinncnddfpgclaa", sum := "ef33810e7a8b2a89d39083bd0255526e2576724ddaa047d87552cf8daa1782a8", func := "almoner/almonerlaw11.LinksBack", spec := "linksBack", inPlace := ["internal/reflectlite.TypeOf"], unfollowed := true, recurses := true, apart := false, narrowed := true }
def LinksBackUptoSaid : Prop := linksBackUptoRow.holds Try.pinned (OpenSpec.upto linksBackSpec)

/-- 'almonerlaw11.LinksChain', WHERE WHAT IT READS IS OF BULK AT MOST 1048576: true; the input reads as it did. -/
def linksChainUptoRow : OpenClaim := { program := "ytinncnddfpgclaa", sum := "ef33810e7a8b2a89d39083bd0255526e2576724ddaa047d87552cf8daa1782a8", func := "almoner/almonerlaw11.LinksChain", spec := "linksChain", inPlace := ["internal/reflectlite.TypeOf"], unfollowed := true, recurses := true, apart := false, narrowed := true }
def LinksChainUptoSaid : Prop := linksChainUptoRow.holds Try.pinned (OpenSpec.upto linksChainSpec)

/-- 'almonerlaw11.LinksEnds', WHERE WHAT IT READS IS OF BULK AT MOST 1048576: true; the input reads as it did. -/
def linksEndsUptoRow : OpenClaim := { program := "ytinncnddfpgclaa", sum := "ef33810e7a8b2a89d39083bd0255526e2576724ddaa047d87552cf8daa1782a8", func := "almoner/almonerlaw11.LinksEnds", spec := "linksEnds", inPlace := ["internal/reflectlite.TypeOf"], unfollowed := true, recurses := true, apart := false, narrowed := true }
def LinksEndsUptoSaid : Prop := linksEndsUptoRow.holds Try.pinned (OpenSpec.upto linksEndsSpec)

/-- 'almonerlaw11.LinksPower', WHERE WHAT IT READS IS OF BULK AT MOST 1048576: true; the input reads as it did. -/
def linksPowerUptoRow : OpenClaim := { program := "ytinncnddfpgclaa", sum := "ef33810e7a8b2a89d39083bd0255526e2576724ddaa047d87552cf8daa1782a8", func := "almoner/almonerlaw11.LinksPower", spec := "linksPower", inPlace := ["internal/reflectlite.TypeOf"], unfollowed := true, recurses := true, apart := false, narrowed := true }
def LinksPowerUptoSaid : Prop := linksPowerUptoRow.holds Try.pinned (OpenSpec.upto linksPowerSpec)

end Rows
end Go.Proofs.Ytinncnddfpgclaa
