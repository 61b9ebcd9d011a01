/-
  Joined: Args2, Args4.
-/
import Derived.Test.YtdkcndgehgmadaaGreatDoorRow0
import Derived.Deep.Strs
-- Arguments of a law, opened: 64-bit integers, bytes, structs.
open Go Go.RowKit Go.ChangeShapes Go.WideShapes Go.ChangeAt Alm
namespace Go.Proofs.YtdkcndgehgmadaaGreatDoor
section
variable {H : Type} {enc : TypeId × Value → H} {P : Program} {w : World} {base : Nat} {spare : Nat → Bool} {held : Bool}
theorem trod_struct5 {t : TypeId} {f0 f1 f2 f3 f4 : Field} {fuel : Nat} {cs : List Value} {x : DataW H × List MemPlace} (ht : P.underlying t = some (.struct #[f0, f1, f2, f3, f4])) (h : DataW.trod enc P w base spare held fuel t cs = some x) :
    ∃ y0 y1 y2 y3 y4 n, cs.length = P.cellsOf t ∧ DataW.trod enc P w base spare held n f0.type ((cs.drop f0.offset).take (P.cellsOf f0.type)) = some y0 ∧
      DataW.trod enc P w base spare held n f1.type ((cs.drop f1.offset).take (P.cellsOf f1.type)) = some y1 ∧ DataW.trod enc P w base spare held n f2.type ((cs.drop f2.offset).take (P.cellsOf f2.type)) = some y2 ∧
      DataW.trod enc P w base spare held n f3.type ((cs.drop f3.offset).take (P.cellsOf f3.type)) = some y3 ∧ DataW.trod enc P w base spare held n f4.type ((cs.drop f4.offset).take (P.cellsOf f4.type)) = some y4 := by
  obtain ⟨xs, n, _, rfl, hl, hlen, hf⟩ := DataW.trod_struct ht h
  match xs, hlen with
  | [y0, y1, y2, y3, y4], _ => exact ⟨y0, y1, y2, y3, y4, n, hl, by simpa using hf 0 f0 rfl, by simpa using hf 1 f1 rfl, by simpa using hf 2 f2 rfl, by simpa using hf 3 f3 rfl, by simpa using hf 4 f4 rfl⟩
end
section
variable {H : Type} {enc : TypeId × Value → H} {W : World} {base : Nat} {spare : Nat → Bool} {held : Bool} {r : Reach} {b2 : Nat}
theorem cells_u64 : Tryz.prog.cellsOf 25 = 1 := by kernel_rfl
theorem cells_sums : Tryz.prog.cellsOf 22 = 1 := by kernel_rfl
set_option maxRecDepth 100000 in
theorem arg_u64 {fuel : Nat} {v : Value} {x : DataW H × List MemPlace} (h : DataW.trod enc Tryz.prog W base spare held fuel 25 v.cells.toList = some x) (hok : Value.okWide Tryz.prog W r b2 25 v) : ∃ n : Nat, v = .int .u64 (n : Int) ∧ n < 18446744073709551616 := by
  obtain ⟨n, hc, hn⟩ := open_u64 Tryz.underlying25 h
  obtain ⟨m, rfl⟩ := okWide_int Tryz.underlying25 hok
  refine ⟨n, ?_, hn⟩
  simpa [Value.cells] using hc
theorem cells_said11 : Tryz.prog.cellsOf 57 = 67 := by kernel_rfl
/-- What is said of a link, as a value. -/
abbrev said11 (m n : Nat) (a b : Sum) (v : Value) : Value := .agg ([Value.int .u64 (m : Int), .int .u64 (n : Int)] ++ cellsOf a ++ cellsOf b ++ [v]).toArray
set_option maxRecDepth 100000 in
theorem arg_said11 {fuel : Nat} {v : Value} {x : DataW H × List MemPlace} (h : DataW.trod enc Tryz.prog W base spare held fuel 57 v.cells.toList = some x) (hok : Value.okWide Tryz.prog W r b2 57 v) :
    ∃ m n a b vl l, v = said11 m n a b vl ∧ m < 18446744073709551616 ∧ n < 18446744073709551616 ∧ SumsAt W vl l := by
  obtain ⟨xs, rfl, hsz⟩ := okWide_struct Tryz.underlying57 hok
  obtain ⟨y0, y1, y2, y3, y4, n', hl, h0, h1, h2, h3, h4⟩ := trod_struct5 Tryz.underlying57 h
  simp only [Value.cells] at h0 h1 h2 h3 h4 hl
  obtain ⟨m, e0, hm⟩ := open_u64 Tryz.underlying25 h0
  obtain ⟨n, e1, hn⟩ := open_u64 Tryz.underlying25 h1
  obtain ⟨a, e2⟩ := open_sum Tryz.underlying24 Tryz.underlying5 cells_byte cells_sum h2
  obtain ⟨b, e3⟩ := open_sum Tryz.underlying24 Tryz.underlying5 cells_byte cells_sum h3
  obtain ⟨vl, l, e4, hs, _⟩ := open_sums Tryz.underlying22 Tryz.underlying24 Tryz.underlying5 cells_byte cells_sum h4
  rw [cells_u64] at e0 e1
  rw [cells_sum] at e2 e3
  rw [cells_sums] at e4
  rw [cells_said11] at hl
  refine ⟨m, n, a, b, vl, l, ?_, hm, hn, hs⟩
  have hx : xs.toList = [Value.int .u64 (m : Int), .int .u64 (n : Int)] ++ cellsOf a ++ cellsOf b ++ [vl] := by
    have key : xs.toList = (xs.toList.drop 0).take 1 ++ ((xs.toList.drop 1).take 1 ++ ((xs.toList.drop 2).take 32 ++ ((xs.toList.drop 34).take 32 ++ (xs.toList.drop 66).take 1))) := by
      have t4 : (xs.toList.drop 66).take 1 = xs.toList.drop 66 := List.take_of_length_le (by rw [List.length_drop, hl]; decide)
      have s3 := List.take_append_drop 32 (xs.toList.drop 34)
      have s2 := List.take_append_drop 32 (xs.toList.drop 2)
      have s1 := List.take_append_drop 1 (xs.toList.drop 1)
      have s0 := List.take_append_drop 1 (xs.toList.drop 0)
      rw [List.drop_drop] at s0 s1 s2 s3
      rw [t4, s3, s2, s1, s0]; rfl
    rw [key]
    exact (congr (congrArg _ e0) (congr (congrArg _ e1) (congr (congrArg _ e2) (congr (congrArg _ e3) e4)))).trans (by simp)
  rw [said11, ← hx]
end
end Go.Proofs.YtdkcndgehgmadaaGreatDoor
-- Arguments of a law, opened: what is said of a path.
open Go Go.RowKit Go.ChangeShapes Go.WideShapes Go.ChangeAt Alm
namespace Go.Proofs.YtdkcndgehgmadaaGreatDoor
section
variable {H : Type} {enc : TypeId × Value → H} {W : World} {base : Nat} {spare : Nat → Bool} {held : Bool} {r : Reach} {b2 : Nat}
theorem cells_said10 : Tryz.prog.cellsOf 27 = 67 := by kernel_rfl
/-- What is said of a path, as a value. -/
abbrev said10 (a : Sum) (m n : Nat) (v : Value) (b : Sum) : Value := .agg (cellsOf a ++ [Value.int .u64 (m : Int), .int .u64 (n : Int), v] ++ cellsOf b).toArray
set_option maxRecDepth 100000 in
theorem arg_said10 {fuel : Nat} {v : Value} {x : DataW H × List MemPlace} (h : DataW.trod enc Tryz.prog W base spare held fuel 27 v.cells.toList = some x) (hok : Value.okWide Tryz.prog W r b2 27 v) :
    ∃ a m n vl l b, v = said10 a m n vl b ∧ m < 18446744073709551616 ∧ n < 18446744073709551616 ∧ SumsAt W vl l := by
  obtain ⟨xs, rfl, hsz⟩ := okWide_struct Tryz.underlying27 hok
  obtain ⟨y0, y1, y2, y3, y4, n', hl, h0, h1, h2, h3, h4⟩ := trod_struct5 Tryz.underlying27 h
  simp only [Value.cells] at h0 h1 h2 h3 h4 hl
  obtain ⟨a, e0⟩ := open_sum Tryz.underlying24 Tryz.underlying5 cells_byte cells_sum h0
  obtain ⟨m, e1, hm⟩ := open_u64 Tryz.underlying25 h1
  obtain ⟨n, e2, hn⟩ := open_u64 Tryz.underlying25 h2
  obtain ⟨vl, l, e3, hs, _⟩ := open_sums Tryz.underlying22 Tryz.underlying24 Tryz.underlying5 cells_byte cells_sum h3
  obtain ⟨b, e4⟩ := open_sum Tryz.underlying24 Tryz.underlying5 cells_byte cells_sum h4
  rw [cells_u64] at e1 e2
  rw [cells_sum] at e0 e4
  rw [cells_sums] at e3
  rw [cells_said10] at hl
  refine ⟨a, m, n, vl, l, b, ?_, hm, hn, hs⟩
  have hx : xs.toList = cellsOf a ++ [Value.int .u64 (m : Int), .int .u64 (n : Int), vl] ++ cellsOf b := by
    have key : xs.toList = (xs.toList.drop 0).take 32 ++ ((xs.toList.drop 32).take 1 ++ ((xs.toList.drop 33).take 1 ++ ((xs.toList.drop 34).take 1 ++ (xs.toList.drop 35).take 32))) := by
      have t4 : (xs.toList.drop 35).take 32 = xs.toList.drop 35 := List.take_of_length_le (by rw [List.length_drop, hl]; decide)
      have s3 := List.take_append_drop 1 (xs.toList.drop 34)
      have s2 := List.take_append_drop 1 (xs.toList.drop 33)
      have s1 := List.take_append_drop 1 (xs.toList.drop 32)
      have s0 := List.take_append_drop 32 (xs.toList.drop 0)
      rw [List.drop_drop] at s0 s1 s2 s3
      rw [t4, s3, s2, s1, s0]; rfl
    rw [key]
    exact (congr (congrArg _ e0) (congr (congrArg _ e1) (congr (congrArg _ e2) (congr (congrArg _ e3) e4)))).trans (by simp)
  rw [said10, ← hx]
end
end Go.Proofs.YtdkcndgehgmadaaGreatDoor
