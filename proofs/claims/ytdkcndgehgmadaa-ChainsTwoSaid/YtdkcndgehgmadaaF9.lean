/-
  The seat's words: small trees' roots; what lies below.
-/
import Derived.Test.YtdkcndgehgmadaaF0
open Go Go.RowKit Alm
namespace Go.Proofs.Ytdkcndgehgmadaa
theorem rt_one (a : Sum) : rt [a] = a := by rw [rt_eq, root_one]
theorem cut_two : cut 2 = 1 := cut_eq (j := 0) (by simp) (by simp)
theorem cut_three : cut 3 = 2 := cut_eq (j := 1) (by simp) (by simp)
theorem rt_pair (a b : Sum) : rt [a, b] = nd a b := by
  rw [rt_eq, root_split nd e0 (by simp)]
  have : cut [a, b].length = 1 := cut_two
  rw [this]; simp [root_one]
theorem rt_triple (a b c : Sum) : rt [a, b, c] = nd (nd a b) c := by
  have h2 := rt_pair a b
  rw [rt_eq] at h2 ⊢
  rw [root_split nd e0 (by simp)]
  have : cut [a, b, c].length = 2 := cut_three
  rw [this]; simp [root_one, h2]
theorem br {w V : World} (hV : Below w.heap.size w V) {b o : Nat} {cs : List Value} (h : w.rangeAt b o cs) : V.rangeAt b o cs := (Keeps.of_below (X := fun _ => False) hV).range h (fun h => h)
end Go.Proofs.Ytdkcndgehgmadaa
