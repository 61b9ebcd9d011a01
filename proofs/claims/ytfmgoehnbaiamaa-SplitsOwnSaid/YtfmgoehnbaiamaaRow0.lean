/-
  The rows' common words.
-/
import Derived.Test.YtfmgoehnbaiamaaRows
import Derived.Test.YtfmgoehnbaiamaaArgs
import Derived.JoinedCond
import Derived.Test.YtfmgoehnbaiamaaEnter
import Derived.Test.YtfmgoehnbaiamaaProg
open Go Go.RowKit Go.ChangeShapes Go.WideShapes Go.ChangeAt Alm
namespace Go.Proofs.Ytfmgoehnbaiamaa
theorem own_ : ownKnob Try.prog.godebug = none := by kernel_rfl
theorem laidOut_ : laidOutB Try.prog = true := by kernel_rfl
theorem cells_sum : Try.prog.cellsOf 29 = 32 := by kernel_rfl
theorem cells_byte : Try.prog.cellsOf 5 = 1 := by kernel_rfl
section
variable {H : Type} {enc : TypeId × Value → H} {W : World} {base : Nat} {spare : Nat → Bool} {held : Bool} {r : Reach} {b2 : Nat}
set_option maxRecDepth 100000 in
theorem arg_sum {fuel : Nat} {v : Value} {x : DataW H × List MemPlace} (h : DataW.trod enc Try.prog W base spare held fuel 29 v.cells.toList = some x) (hok : Value.okWide Try.prog W r b2 29 v) : ∃ s : Sum, v = sv s := by
  obtain ⟨s, hs⟩ := open_sum Try.underlying29 Try.underlying5 cells_byte cells_sum h
  obtain ⟨xs, rfl⟩ : ∃ xs, v = .agg xs := okWide_array Try.underlying29 hok
  refine ⟨s, ?_⟩
  simp only [Value.cells] at hs
  rw [sv, ← hs]
set_option maxRecDepth 100000 in
theorem arg_sums {fuel : Nat} {v : Value} {x : DataW H × List MemPlace} (h : DataW.trod enc Try.prog W base spare held fuel 57 v.cells.toList = some x) (hok : Value.okWide Try.prog W r b2 57 v) : ∃ l, SumsAt W v l ∧ (v = .slice none 0 0 ∨ ∃ a n c, v = .slice (some a) n c) := by
  obtain ⟨v', l, hc, hs, hn⟩ := open_sums Try.underlying57 Try.underlying29 Try.underlying5 cells_byte cells_sum h
  obtain ⟨a, n, c, rfl⟩ := okWide_slice Try.underlying57 hok
  have : v' = .slice a n c := by simpa [Value.cells] using hc.symm
  subst this
  exact ⟨l, hs, hn⟩
set_option maxRecDepth 100000 in
theorem arg_u8 {fuel : Nat} {v : Value} {x : DataW H × List MemPlace} (h : DataW.trod enc Try.prog W base spare held fuel 5 v.cells.toList = some x) (hok : Value.okWide Try.prog W r b2 5 v) : ∃ n : Nat, v = .int .u8 (n : Int) ∧ n ≤ 255 := by
  obtain ⟨n, hc, hn⟩ := open_u8 Try.underlying5 h
  obtain ⟨m, rfl⟩ := okWide_int Try.underlying5 hok
  refine ⟨n, ?_, hn⟩
  simpa [Value.cells] using hc
theorem cells_bool : Try.prog.cellsOf 4 = 1 := by kernel_rfl
end
end Go.Proofs.Ytfmgoehnbaiamaa
