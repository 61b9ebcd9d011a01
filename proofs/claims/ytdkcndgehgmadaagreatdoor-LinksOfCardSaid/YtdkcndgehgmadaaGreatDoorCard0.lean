/-
  The cards' common words: a world in which the listed variables lie as the program's text lays them.
-/
import Derived.Test.YtdkcndgehgmadaaGreatDoorTie
import Derived.Test.YtdkcndgehgmadaaGreatDoorCards
import Derived.Test.YtdkcndgehgmadaaGreatDoorRow0
import Derived.ChangeSame
import Derived.ChangeVars
import Derived.JoinedOf
import Derived.JoinedCond
import Derived.RowKit
import Derived.LaidLaws
import Derived.LaidHandle
import Derived.SevenTiedAt
open Go Go.RowKit Go.ChangeShapes Go.WideShapes Go.ChangeAt Alm
namespace Go.Proofs.YtdkcndgehgmadaaGreatDoor
/-- The values of a table of numbers. -/
def valOf : DataW Unit → Value
  | .lit (.int k n) => .int k n
  | _ => undef
def cellsOfD : DataW Unit → Array Value
  | .agg l => (l.map valOf).toArray
  | _ => #[]
/-- A global variable's block, laid. -/
def layG (h : Array Obj) (g : Nat) (d : DataW Unit) : Array Obj := h.modify g fun
  | .cells _ t fr => .cells (cellsOfD d) t fr
  | o => o
noncomputable def laidWorld (os : Os) : World :=
  let w0 := World.holding Tryz.prog os ⟨#[], #[], []⟩
  { w0 with heap := layG (layG (layG w0.heap 1 Rows.laid_math_bits_deBruijn32tab) 2 Rows.laid_math_bits_deBruijn64tab) 0 Rows.laid_internal_strconv_uint64pow10 }
abbrev laidL : List (String × DataW Unit) := [("math/bits.deBruijn32tab", Rows.laid_math_bits_deBruijn32tab), ("math/bits.deBruijn64tab", Rows.laid_math_bits_deBruijn64tab), ("internal/strconv.uint64pow10", Rows.laid_internal_strconv_uint64pow10)]
theorem laid_met (os : Os) (args : Array Value) : laidMet Tryz.prog laidL ((laidWorld os).forCall (fun _ _ => 0) ⟨#[], args, []⟩).memory :=
  laidMet_of_run' 8 (by kernel_rfl) (by kernel_rfl)
theorem looks_ : true = Tryz.prog.looks [] := by kernel_rfl
end Go.Proofs.YtdkcndgehgmadaaGreatDoor
