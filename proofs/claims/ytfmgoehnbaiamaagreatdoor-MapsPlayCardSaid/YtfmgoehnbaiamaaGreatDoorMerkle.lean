/-
  Plain law: trees over leaves (root, paths, links, fronts), over any type of sums and any way to put two together. No program in sight.
-/
namespace Alm
/-- The greatest power of two that is less than n (2 at least). -/
def cut (n : Nat) : Nat := 2 ^ (n - 1).log2
theorem cut_pos (n : Nat) : 0 < cut n := Nat.two_pow_pos _
theorem cut_lt {n : Nat} (h : 2 ≤ n) : cut n < n := by
  have := Nat.log2_self_le (n := n - 1) (by omega)
  unfold cut; omega
section
variable {α : Type} (nd : α → α → α) (e0 : α)

/-- The root of leaves' sums. -/
def root (l : List α) : α :=
  match l with
  | [] => e0
  | [x] => x
  | x :: y :: r =>
    nd (root ((x :: y :: r).take (cut (r.length + 2)))) (root ((x :: y :: r).drop (cut (r.length + 2))))
termination_by l.length
decreasing_by
  · have := cut_lt (n := r.length + 2) (by omega); simp only [List.length_take, List.length_cons]; omega
  · have := cut_pos (r.length + 2); simp only [List.length_drop, List.length_cons]; omega

/-! ### Paths -/
/-! ### Fronts -/
/-- How many bits that are set stand at the end. -/
def ones (n : Nat) : Nat := if _h : n % 2 = 1 then ones (n / 2) + 1 else 0
termination_by n
decreasing_by omega

/-- The number of bits that are set. -/
def bits (n : Nat) : Nat := if _h : n = 0 then 0 else bits (n / 2) + n % 2
termination_by n
decreasing_by omega

/-! ### Links -/
/-- The next sum, which is both. -/
def told : List α → Option ((α × α) × List α)
  | x :: r => some ((x, x), r)
  | [] => none

/-! ### More of paths and links -/
end
end Alm
