/-
  The rows' common words.
-/
import Derived.Test.YtdkcndgehgmadaaGreatDoorRows
import Derived.Test.YtdkcndgehgmadaaGreatDoorArgs
import Derived.JoinedCond
import Derived.Test.YtdkcndgehgmadaaGreatDoorEnter
import Derived.Test.YtdkcndgehgmadaaGreatDoorProg
open Go Go.RowKit Go.ChangeShapes Go.WideShapes Go.ChangeAt Alm
namespace Go.Proofs.YtdkcndgehgmadaaGreatDoor
theorem own_ : ownKnob Tryz.prog.godebug = none := by kernel_rfl
theorem laidOut_ : laidOutB Tryz.prog = true := by kernel_rfl
theorem cells_sum : Tryz.prog.cellsOf 24 = 32 := by kernel_rfl
theorem cells_byte : Tryz.prog.cellsOf 5 = 1 := by kernel_rfl
section
variable {H : Type} {enc : TypeId × Value → H} {W : World} {base : Nat} {spare : Nat → Bool} {held : Bool} {r : Reach} {b2 : Nat}
set_option maxRecDepth 100000 in
theorem arg_sum {fuel : Nat} {v : Value} {x : DataW H × List MemPlace} (h : DataW.trod enc Tryz.prog W base spare held fuel 24 v.cells.toList = some x) (hok : Value.okWide Tryz.prog W r b2 24 v) : ∃ s : Sum, v = sv s := by
  obtain ⟨s, hs⟩ := open_sum Tryz.underlying24 Tryz.underlying5 cells_byte cells_sum h
  obtain ⟨xs, rfl⟩ : ∃ xs, v = .agg xs := okWide_array Tryz.underlying24 hok
  refine ⟨s, ?_⟩
  simp only [Value.cells] at hs
  rw [sv, ← hs]
set_option maxRecDepth 100000 in
theorem arg_sums {fuel : Nat} {v : Value} {x : DataW H × List MemPlace} (h : DataW.trod enc Tryz.prog W base spare held fuel 22 v.cells.toList = some x) (hok : Value.okWide Tryz.prog W r b2 22 v) : ∃ l, SumsAt W v l ∧ (v = .slice none 0 0 ∨ ∃ a n c, v = .slice (some a) n c) := by
  obtain ⟨v', l, hc, hs, hn⟩ := open_sums Tryz.underlying22 Tryz.underlying24 Tryz.underlying5 cells_byte cells_sum h
  obtain ⟨a, n, c, rfl⟩ := okWide_slice Tryz.underlying22 hok
  have : v' = .slice a n c := by simpa [Value.cells] using hc.symm
  subst this
  exact ⟨l, hs, hn⟩
set_option maxRecDepth 100000 in
theorem arg_u8 {fuel : Nat} {v : Value} {x : DataW H × List MemPlace} (h : DataW.trod enc Tryz.prog W base spare held fuel 5 v.cells.toList = some x) (hok : Value.okWide Tryz.prog W r b2 5 v) : ∃ n : Nat, v = .int .u8 (n : Int) ∧ n ≤ 255 := by
  obtain ⟨n, hc, hn⟩ := open_u8 Tryz.underlying5 h
  obtain ⟨m, rfl⟩ := okWide_int Tryz.underlying5 hok
  refine ⟨n, ?_, hn⟩
  simpa [Value.cells] using hc
theorem cells_bool : Tryz.prog.cellsOf 4 = 1 := by kernel_rfl
end
end Go.Proofs.YtdkcndgehgmadaaGreatDoor
