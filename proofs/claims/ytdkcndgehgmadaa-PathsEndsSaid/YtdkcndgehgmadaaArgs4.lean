/-
  Arguments of a law, opened: what is said of a path.
-/
import Derived.Test.YtdkcndgehgmadaaArgs2
open Go Go.RowKit Go.ChangeShapes Go.WideShapes Go.ChangeAt Alm
namespace Go.Proofs.Ytdkcndgehgmadaa
section
variable {H : Type} {enc : TypeId × Value → H} {W : World} {base : Nat} {spare : Nat → Bool} {held : Bool} {r : Reach} {b2 : Nat}
theorem cells_said10 : Try.prog.cellsOf 34 = 67 := by kernel_rfl
/-- What is said of a path, as a value. -/
abbrev said10 (a : Sum) (m n : Nat) (v : Value) (b : Sum) : Value := .agg (cellsOf a ++ [Value.int .u64 (m : Int), .int .u64 (n : Int), v] ++ cellsOf b).toArray
set_option maxRecDepth 100000 in
theorem arg_said10 {fuel : Nat} {v : Value} {x : DataW H × List MemPlace} (h : DataW.trod enc Try.prog W base spare held fuel 34 v.cells.toList = some x) (hok : Value.okWide Try.prog W r b2 34 v) :
    ∃ a m n vl l b, v = said10 a m n vl b ∧ m < 18446744073709551616 ∧ n < 18446744073709551616 ∧ SumsAt W vl l := by
  obtain ⟨xs, rfl, hsz⟩ := okWide_struct Try.underlying34 hok
  obtain ⟨y0, y1, y2, y3, y4, n', hl, h0, h1, h2, h3, h4⟩ := trod_struct5 Try.underlying34 h
  simp only [Value.cells] at h0 h1 h2 h3 h4 hl
  obtain ⟨a, e0⟩ := open_sum Try.underlying24 Try.underlying5 cells_byte cells_sum h0
  obtain ⟨m, e1, hm⟩ := open_u64 Try.underlying31 h1
  obtain ⟨n, e2, hn⟩ := open_u64 Try.underlying31 h2
  obtain ⟨vl, l, e3, hs, _⟩ := open_sums Try.underlying22 Try.underlying24 Try.underlying5 cells_byte cells_sum h3
  obtain ⟨b, e4⟩ := open_sum Try.underlying24 Try.underlying5 cells_byte cells_sum h4
  rw [cells_u64] at e1 e2
  rw [cells_sum] at e0 e4
  rw [cells_sums] at e3
  rw [cells_said10] at hl
  refine ⟨a, m, n, vl, l, b, ?_, hm, hn, hs⟩
  have hx : xs.toList = cellsOf a ++ [Value.int .u64 (m : Int), .int .u64 (n : Int), vl] ++ cellsOf b := by
    have key : xs.toList = (xs.toList.drop 0).take 32 ++ ((xs.toList.drop 32).take 1 ++ ((xs.toList.drop 33).take 1 ++ ((xs.toList.drop 34).take 1 ++ (xs.toList.drop 35).take 32))) := by
      have t4 : (xs.toList.drop 35).take 32 = xs.toList.drop 35 := List.take_of_length_le (by rw [List.length_drop, hl]; decide)
      have s3 := List.take_append_drop 1 (xs.toList.drop 34)
      have s2 := List.take_append_drop 1 (xs.toList.drop 33)
      have s1 := List.take_append_drop 1 (xs.toList.drop 32)
      have s0 := List.take_append_drop 32 (xs.toList.drop 0)
      rw [List.drop_drop] at s0 s1 s2 s3
      rw [t4, s3, s2, s1, s0]; rfl
    rw [key]
    exact (congr (congrArg _ e0) (congr (congrArg _ e1) (congr (congrArg _ e2) (congr (congrArg _ e3) e4)))).trans (by simp)
  rw [said10, ← hx]
end
end Go.Proofs.Ytdkcndgehgmadaa
