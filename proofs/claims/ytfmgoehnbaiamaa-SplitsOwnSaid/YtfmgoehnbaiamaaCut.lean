/-
  Plain: a walk cut in two: the code behind a place behind a letter.
-/
import Derived.Test.YtfmgoehnbaiamaaBase
open Go Go.RowKit
namespace Alm
/-- The code behind n steps of a row. -/
def dropN : Nat → Code → Code
  | 0, c => c
  | n + 1, .seq _ b => dropN n b
  | _ + 1, c => c
/-- A row of code, with T in place of what is behind n steps. -/
def cutN : Nat → Code → Code → Code
  | 0, T, _ => T
  | n + 1, T, .seq a b => .seq a (cutN n T b)
  | _ + 1, _, c => c
theorem cutN_drop : ∀ (n : Nat) (c : Code), cutN n (dropN n c) c = c
  | 0, _ => by unfold cutN dropN; rfl
  | n + 1, c => by
    cases c <;> first | (unfold cutN dropN; rw [cutN_drop n]) | (unfold cutN; rfl)
theorem wp_cut {P : Program} {c : Code} {Q : Exit → Act → World → Prop} {a : Act} {w : World} (n : Nat)
    (h : ∀ T, (∀ a' w', Code.wp P (dropN n c) Q a' w' → Code.wp P T Q a' w') → Code.wp P (cutN n T c) Q a w) : Code.wp P c Q a w := by
  have := h (dropN n c) (fun _ _ h => h)
  rwa [cutN_drop] at this
end Alm
