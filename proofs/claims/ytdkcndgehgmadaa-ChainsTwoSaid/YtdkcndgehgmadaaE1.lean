/-
  The seat's words: two pairs of sums compared.
-/
import Derived.Test.YtdkcndgehgmadaaE0
import Derived.Test.YtdkcndgehgmadaaG5
open Go Go.RowKit Alm
namespace Go.Proofs.Ytdkcndgehgmadaa
theorem take_cells2 (x y : Sum) : (cells2 x y).take 32 = cellsOf x := by
  rw [cells2, List.take_append, List.take_of_length_le (by rw [length_cellsOf]; exact Nat.le_refl _), length_cellsOf, Nat.sub_self, List.take_zero, List.append_nil]
theorem drop_cells2 (x y : Sum) : ((cells2 x y).drop 32).take 32 = cellsOf y := by
  rw [cells2, List.drop_append, List.drop_of_length_le (by rw [length_cellsOf]; exact Nat.le_refl _), length_cellsOf, Nat.sub_self, List.drop_zero, List.nil_append, List.take_of_length_le (by rw [length_cellsOf]; exact Nat.le_refl _)]
theorem part_left (x y : Sum) (w : World) : (part 24 (cells2 x y).toArray 0).run Try.prog w = .ok (sv x) w := by
  simp [part, Try.isAgg24, Try.sizeOf24, take_cells2]
theorem part_right (x y : Sum) (w : World) : (part 24 (cells2 x y).toArray 32).run Try.prog w = .ok (sv y) w := by
  simp [part, Try.isAgg24, Try.sizeOf24, drop_cells2]
theorem eq_both (x y x' y' : Sum) (w : World) : (Op.equalIn 10000 105 (bv x y) (bv x' y')).run Try.prog w = .ok (decide (x = x') && decide (y = y')) w := by
  obtain ⟨d, hd⟩ : ∃ d, 10000 = d + 3 := ⟨9997, rfl⟩
  rw [hd, Op.equalIn]
  have hl : List.range' 0 2 1 = [0, 1] := rfl
  simp only [Sem.run_bind, run_underlying Try.underlying105, Result.andThen_ok, Try.sizeOf24, Std.Legacy.Range.forIn_eq_forIn_range', Std.Legacy.Range.size, Nat.sub_zero, Nat.add_sub_cancel, Nat.div_one, hl, List.forIn_cons, Nat.zero_mul, Nat.one_mul, part_left, part_right, eq_sums_d]
  by_cases h1 : x = x' <;> by_cases h2 : y = y' <;> simp [h1, h2, part_right, eq_sums_d]
end Go.Proofs.Ytdkcndgehgmadaa
