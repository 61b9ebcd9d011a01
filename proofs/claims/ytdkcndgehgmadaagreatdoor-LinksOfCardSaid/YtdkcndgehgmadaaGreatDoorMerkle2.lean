/-
  Plain: trees, more: a front put together from its end.
-/
import Derived.Test.YtdkcndgehgmadaaGreatDoorMerkle
namespace Alm
section
variable {α : Type} (nd : α → α → α) (e0 : α)
theorem exists_last : ∀ {l : List α}, l ≠ [] → ∃ r x, l = r ++ [x]
  | l, h => ⟨l.dropLast, l.getLast h, (List.dropLast_concat_getLast h).symm⟩
/-- All put together from the end. -/
theorem fold2_all : ∀ (n : Nat) (r : List α) (x : α), r.length = n → fold2 nd n (r ++ [x]) = [r.foldr nd x]
  | 0, r, x, h => by obtain rfl := List.length_eq_zero_iff.1 h; rfl
  | n + 1, r, x, h => by
    obtain ⟨r', y, rfl⟩ := exists_last (l := r) (by intro e; rw [e] at h; cases h)
    rw [List.append_assoc, List.singleton_append, fold2_two, fold2_all n r' _ (by simpa using h), List.foldr_append]; rfl
theorem stk_root' (j : Nat) (l : List α) (hl : l ≠ []) (h : l.length < 2 ^ j) : ∃ r x, stk nd e0 j l = r ++ [x] ∧ r.foldr nd x = root nd e0 l := by
  have hb := length_stk nd e0 j l h
  have hp := bits_pos (List.length_pos_iff.2 hl)
  obtain ⟨r, x, hr⟩ := exists_last (l := stk nd e0 j l) (by intro e; rw [e] at hb; simp at hb; omega)
  refine ⟨r, x, hr, ?_⟩
  have h1 := stk_root nd e0 j l hl h
  rw [hr, List.length_append, List.length_singleton, Nat.add_sub_cancel, fold2_all nd r.length r x rfl] at h1
  simpa using h1
end
end Alm
