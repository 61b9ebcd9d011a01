/-
  Joined: Args, Enter, Row0, Card0.
-/
import Derived.Test.YtfmgoehnbaiamaaGreatDoorLaw
import Derived.DataReads
import Derived.Test.YtfmgoehnbaiamaaGreatDoorBase
import Derived.Test.YtfmgoehnbaiamaaGreatDoorProg
import GoSem.ClaimOpen
import GoSem.ClaimJoined
import Derived.Test.YtfmgoehnbaiamaaGreatDoorRows
import Derived.JoinedCond
import Derived.Test.YtfmgoehnbaiamaaGreatDoorTie
import Derived.Test.YtfmgoehnbaiamaaGreatDoorCards
import Derived.ChangeSame
import Derived.ChangeVars
import Derived.JoinedOf
import Derived.RowKit
import Derived.LaidLaws
import Derived.LaidHandle
import Derived.SevenTiedAt
-- Arguments of a law, opened: sums, lists of sums, small integers.
open Go Go.RowKit Go.ChangeShapes Go.WideShapes
namespace Alm
section
variable {H : Type} {enc : TypeId × Value → H} {P : Program} {w : World} {base : Nat} {spare : Nat → Bool} {held : Bool}
theorem range_of_cells {a : Addr} {n : Nat} {cs : List Value} (h : w.cells? base a n = some cs) (hn : 0 < n) : a.spot = none ∧ cs.length = n ∧ w.rangeAt a.block a.off cs := by
  obtain ⟨_, hl, hc⟩ := World.cells?_some h
  have hsp : a.spot = none := by
    have h0 := hc 0 hn
    rw [List.getElem?_eq_getElem (by omega)] at h0
    unfold Addr.add at h0
    rw [if_pos rfl] at h0
    unfold World.cell? at h0
    split at h0
    · split at h0
      · cases h0
      · rename_i hs; simpa using hs
    · cases h0
  refine ⟨hsp, hl, fun j v hj => ?_⟩
  have hjn : j < n := by rw [← hl]; exact (List.getElem?_eq_some_iff.1 hj).1
  have h1 := hc j hjn
  rw [hj] at h1
  have e : a.add j = ⟨a.block, a.off + j, none⟩ := by
    unfold Addr.add
    split
    · rename_i h0; subst h0; cases a; simp_all
    · rfl
  rwa [e] at h1
end
end Alm
-- Plain: the translation's head is one of a cut: shown without reckoning all of its words.
open Go
namespace Go.Proofs.YtfmgoehnbaiamaaGreatDoor
/-- A word, and what stands behind its blank. -/
theorem words_cons : ∀ (p r : List Char), p.all (fun c => decide (c ≠ Char.ofNat 32)) = true → wordsSigns (p ++ Char.ofNat 32 :: r) = p :: wordsSigns r
  | [], r, _ => rfl
  | c :: p, r, h => by
    simp only [List.all_cons, Bool.and_eq_true, decide_eq_true_eq] at h
    have ih := words_cons p r h.2
    rw [List.cons_append, wordsSigns, ih]
    intro e; exact absurd e h.1
theorem head_cut (P : Program) (s r : List Char) (h : P.initOrder.toList = "harness".toList ++ Char.ofNat 32 :: (s ++ Char.ofNat 32 :: ("cut".toList ++ Char.ofNat 32 :: r))) (hs : s.all (fun c => decide (c ≠ Char.ofNat 32)) = true) (hs2 : isSumSigns s = true) :
    behindMainWord (wordsSigns P.initOrder.toList) = "cut".toList :: wordsSigns r := by
  rw [h, words_cons _ _ (by decide), words_cons _ _ hs, words_cons _ _ (by decide)]
  show (if (("harness".toList == "harness".toList || "harness".toList == "ownmain".toList) && isSumSigns s) = true then _ else _) = _
  rw [hs2]
  rfl
theorem strip_cut (X : List (List Char)) : stripLifts liftWords ("cut".toList :: X) = ([], "cut".toList :: X) := by kernel_rfl
theorem enter_cut (P : Program) {X : List (List Char)} (hb : behindMainWord (wordsSigns P.initOrder.toList) = "cut".toList :: X)
    (h1 : P.laysLater = false) (h2 : P.bearsReflect = false) (h3 : P.doorFits [] = true) : P.mayEnter = true := by
  unfold Program.mayEnter
  rw [hb]
  show (_ || _ || _) = true
  rw [strip_cut, h1, h2, h3]
  simp only [Bool.or_eq_true]
  right
  kernel_rfl
theorem lifts_cut (P : Program) {X : List (List Char)} (hb : behindMainWord (wordsSigns P.initOrder.toList) = "cut".toList :: X) : P.liftsFinal = false := by
  unfold Program.liftsFinal Program.headLifts
  rw [hb, strip_cut]
  kernel_rfl
theorem make_cut (P : Program) {X : List (List Char)} (hb : behindMainWord (wordsSigns P.initOrder.toList) = "cut".toList :: X) : P.make = some .cut := by
  unfold Program.make Program.headLifts
  rw [hb]
  kernel_rfl
/-- The head's sum, and what stands behind 'cut'. -/
def headSum : List Char := [52, 97, 55, 54, 52, 97, 56, 51, 49, 97, 102, 49, 55, 57, 56, 56, 54, 50, 56, 97, 57, 97, 99, 48, 49, 55, 49, 55, 51, 98, 53, 52, 48, 52, 57, 51, 54, 56, 53, 56, 98, 53, 56, 100, 101, 102, 98, 99, 57, 97, 51, 57, 102, 56, 52, 99, 53, 100, 102, 57, 57, 55, 55, 98].map Char.ofNat
def headRest : List Char := [97, 116, 32, 97, 108, 109, 111, 110, 101, 114, 47, 97, 108, 109, 111, 110, 101, 114, 108, 97, 119, 49, 53, 46, 77, 97, 112, 115, 80, 108, 97, 121, 32, 97, 108, 109, 111, 110, 101, 114, 47, 97, 108, 109, 111, 110, 101, 114, 108, 97, 119, 49, 54, 46, 83, 104, 111, 119, 115, 79, 102, 32, 97, 108, 109, 111, 110, 101, 114, 47, 97, 108, 109, 111, 110, 101, 114, 108, 97, 119, 49, 55, 46, 83, 112, 108, 105, 116, 115, 79, 102].map Char.ofNat
theorem initOrder_ : Tryz.prog.initOrder = String.ofList ([104, 97, 114, 110, 101, 115, 115].map Char.ofNat ++ Char.ofNat 32 :: (headSum ++ Char.ofNat 32 :: ([99, 117, 116].map Char.ofNat ++ Char.ofNat 32 :: headRest))) := by kernel_rfl
theorem head_ : behindMainWord (wordsSigns Tryz.prog.initOrder.toList) = "cut".toList :: wordsSigns headRest := by
  refine head_cut _ headSum headRest ?_ (by kernel_rfl) (by kernel_rfl)
  rw [initOrder_, String.toList_ofList]
  rfl
theorem mayEnter_ : Tryz.prog.mayEnter = true := enter_cut _ head_ (by kernel_rfl) (by kernel_rfl) (by kernel_rfl)
theorem liftsFinal_ : Tryz.prog.liftsFinal = false := lifts_cut _ head_
theorem make_ : Tryz.prog.make = some .cut := make_cut _ head_
end Go.Proofs.YtfmgoehnbaiamaaGreatDoor
-- The rows' common words.
open Go Go.RowKit Go.ChangeShapes Go.WideShapes Go.ChangeAt Alm
namespace Go.Proofs.YtfmgoehnbaiamaaGreatDoor
theorem own_ : ownKnob Tryz.prog.godebug = none := by kernel_rfl
theorem laidOut_ : laidOutB Tryz.prog = true := by kernel_rfl
theorem cells_sum : Tryz.prog.cellsOf 24 = 32 := by kernel_rfl
theorem cells_byte : Tryz.prog.cellsOf 5 = 1 := by kernel_rfl
section
variable {H : Type} {enc : TypeId × Value → H} {W : World} {base : Nat} {spare : Nat → Bool} {held : Bool} {r : Reach} {b2 : Nat}
set_option maxRecDepth 100000 in
theorem arg_sum {fuel : Nat} {v : Value} {x : DataW H × List MemPlace} (h : DataW.trod enc Tryz.prog W base spare held fuel 24 v.cells.toList = some x) (hok : Value.okWide Tryz.prog W r b2 24 v) : ∃ s : Sum, v = sv s := by
  obtain ⟨s, hs⟩ := open_sum Tryz.underlying24 Tryz.underlying5 cells_byte cells_sum h
  obtain ⟨xs, rfl⟩ : ∃ xs, v = .agg xs := okWide_array Tryz.underlying24 hok
  refine ⟨s, ?_⟩
  simp only [Value.cells] at hs
  rw [sv, ← hs]
end
end Go.Proofs.YtfmgoehnbaiamaaGreatDoor
-- The cards' common words: a world in which the listed variables lie as the program's text lays them.
namespace Go.Proofs.YtfmgoehnbaiamaaGreatDoor
/-- The values of a table of numbers. -/
def valOf : DataW Unit → Value
  | .lit (.int k n) => .int k n
  | _ => undef
def cellsOfD : DataW Unit → Array Value
  | .agg l => (l.map valOf).toArray
  | _ => #[]
/-- A global variable's block, laid. -/
def layG (h : Array Obj) (g : Nat) (d : DataW Unit) : Array Obj := h.modify g fun
  | .cells _ t fr => .cells (cellsOfD d) t fr
  | o => o
noncomputable def laidWorld (os : Os) : World :=
  let w0 := World.holding Tryz.prog os ⟨#[], #[], []⟩
  { w0 with heap := layG (layG (layG w0.heap 2 Rows.laid_math_bits_deBruijn32tab) 3 Rows.laid_math_bits_deBruijn64tab) 1 Rows.laid_internal_strconv_uint64pow10 }
abbrev laidL : List (String × DataW Unit) := [("math/bits.deBruijn32tab", Rows.laid_math_bits_deBruijn32tab), ("math/bits.deBruijn64tab", Rows.laid_math_bits_deBruijn64tab), ("internal/strconv.uint64pow10", Rows.laid_internal_strconv_uint64pow10)]
theorem laid_met (os : Os) (args : Array Value) : laidMet Tryz.prog laidL ((laidWorld os).forCall (fun _ _ => 0) ⟨#[], args, []⟩).memory :=
  laidMet_of_run' 8 (by kernel_rfl) (by kernel_rfl)
theorem looks_ : false = Tryz.prog.looks [] := by kernel_rfl
end Go.Proofs.YtfmgoehnbaiamaaGreatDoor
