/-
  Plain: the sum of bytes as the document defines it: what stands behind the bytes, block by block. No program in sight.
-/
import Derived.Test.YtfmgoehnbaiamaaR1
import Derived.Test.YtfmgoehnbaiamaaRun
open Go Go.RowKit
namespace Alm
/-- What stands behind so many bytes. -/
def rend (n : Nat) : List UInt8 := 128 :: (List.replicate ((120 - (n + 1) % 64) % 64) 0 ++ be8 (n * 8))
def rfull (l : List UInt8) : List UInt8 := l ++ rend l.length
theorem length_be8 (m : Nat) : (be8 m).length = 8 := by simp [be8]
theorem length_rend (n : Nat) : (rend n).length = (120 - (n + 1) % 64) % 64 + 9 := by simp [rend, length_be8]
theorem length_rfull (l : List UInt8) : (rfull l).length % 64 = 0 := by
  rw [rfull, List.length_append, length_rend]; omega
/-- So many blocks of bytes, taken. -/
def rblocks (s : List UInt32) (all : List UInt8) : Nat → List UInt32
  | 0 => s
  | k + 1 => rtook (rblocks s all k) ((all.drop (64 * k)).take 64)
theorem length_rblocks (s : List UInt32) (all : List UInt8) (hs : s.length = 8) (k : Nat) : (rblocks s all k).length = 8 := by
  cases k with
  | zero => exact hs
  | succ k => simp [rblocks, rtook]
theorem splice_whole {α : Type} (L c : List α) (h : L.length = c.length) : splice L 0 c = c := by
  simp [splice, ← h]
theorem run_blocks (all : List UInt8) : ∀ k, 64 * k ≤ all.length → (putAll run0 (all.take (64 * k))).s = rblocks begin8 all k ∧ (putAll run0 (all.take (64 * k))).many = 64 * k
  | 0, _ => by simp [putAll, run0, rblocks]
  | k + 1, h => by
    obtain ⟨ih1, ih2⟩ := run_blocks all k (by omega)
    have hok := putAll_ok (all.take (64 * k)) run0_ok
    have hc : ((all.drop (64 * k)).take 64).length = 64 := by rw [List.length_take, List.length_drop]; omega
    rw [show 64 * (k + 1) = 64 * k + 64 by omega, List.take_add, putAll_append]
    generalize putAll run0 (all.take (64 * k)) = r at *
    rw [putAll_chunk _ r hok (by intro h0; rw [h0] at hc; cases hc) (by rw [ih2, hc]; omega), if_pos (by rw [ih2, hc]; omega)]
    refine ⟨?_, by rw [ih2, hc]⟩
    show Alm.took r.s _ = rtook _ _
    rw [ih2, show 64 * k % 64 = 0 by omega, splice_whole _ _ (by rw [hok.2, hc]), ih1, rtook_eq _ _ (by rw [← ih1]; exact hok.1)]
/-- The sum of bytes, block by block. -/
theorem sha_blocks (l : List UInt8) (k : Nat) (hk : (rfull l).length = 64 * k) : sha l = sumBytes (told32 (rblocks begin8 (rfull l) k) 32) (length_told32 _ _) := by
  have h1 : (finish (putAll run0 l)).s = rblocks begin8 (rfull l) k := by
    have hm : (putAll run0 l).many = l.length := by rw [putAll_many]; exact Nat.zero_add _
    have e : finish (putAll run0 l) = putAll run0 (rfull l) := by
      unfold finish
      rw [hm, ← putAll_append, ← putAll_append, ← putAll_append]
      congr 1
      try simp [rfull, rend]
    rw [e, ← (run_blocks (rfull l) k (by omega)).1, ← hk, List.take_length]
  unfold sha sumOf
  simp only [h1]
end Alm
