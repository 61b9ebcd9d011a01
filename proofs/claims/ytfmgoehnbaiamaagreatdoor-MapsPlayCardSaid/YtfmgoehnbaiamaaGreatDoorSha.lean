/-
  Plain: the sum of bytes, as the program's text computes it (a run of bytes, block by block). No program in sight.
-/
import Derived.Test.YtfmgoehnbaiamaaGreatDoorBase
open Go Go.RowKit
namespace Alm

/-- A number of 32 bits, as the model has it. -/
def uv (x : UInt32) : Int := (x.toNat : Int)
theorem uv_add (x y : UInt32) : IntKind.u32.wrap (uv x + uv y) = uv (x + y) := by
  unfold uv; rw [IntKind.wrap_u32, UInt32.toNat_add]; omega
theorem uv_and (x y : UInt32) : bits .and .u32 (uv x) (uv y) = uv (x &&& y) := by
  unfold uv; rw [u32_and_nat _ _ x.toNat_lt y.toNat_lt, UInt32.toNat_and]
theorem uv_or (x y : UInt32) : bits .or .u32 (uv x) (uv y) = uv (x ||| y) := by
  unfold uv; rw [u32_or_nat _ _ x.toNat_lt y.toNat_lt, UInt32.toNat_or]
theorem uv_xor (x y : UInt32) : bits .xor .u32 (uv x) (uv y) = uv (x ^^^ y) := by
  unfold uv; rw [u32_xor_nat _ _ x.toNat_lt y.toNat_lt, UInt32.toNat_xor]
theorem uv_shl (x : UInt32) (n : Nat) (h : n < 32) : uv x * 2 ^ n % 4294967296 = uv (x <<< UInt32.ofNat n) := by
  unfold uv
  rw [UInt32.toNat_shiftLeft, UInt32.toNat_ofNat', Nat.mod_eq_of_lt (show n < 2 ^ 32 by omega), Nat.mod_eq_of_lt h, Nat.shiftLeft_eq, Int.natCast_emod, Int.natCast_mul, Int.natCast_pow]
  rfl
theorem uv_shr (x : UInt32) (n : Nat) (h : n < 32) : uv x / 2 ^ n = uv (x >>> UInt32.ofNat n) := by
  unfold uv
  rw [UInt32.toNat_shiftRight, UInt32.toNat_ofNat', Nat.mod_eq_of_lt (show n < 2 ^ 32 by omega), Nat.mod_eq_of_lt h, Nat.shiftRight_eq_div_pow, Int.natCast_ediv, Int.natCast_pow]
  rfl

/-- Turned to the right. -/
def rotr (x : UInt32) (n : Nat) : UInt32 := (x <<< UInt32.ofNat (32 - n)) ||| (x >>> UInt32.ofNat n)
def three (x : UInt32) (a b c : Nat) : UInt32 := rotr x a ^^^ rotr x b ^^^ rotr x c
def two (x : UInt32) (a b c : Nat) : UInt32 := rotr x a ^^^ rotr x b ^^^ (x >>> UInt32.ofNat c)
/-- Numbers of 32 bits in a row, as cells. -/
def cells32 (l : List UInt32) : List Value := l.map fun x => .int .u32 (uv x)
theorem length_cells32 (l : List UInt32) : (cells32 l).length = l.length := by simp [cells32]
theorem oneCell_cells32 (l : List UInt32) : ∀ v ∈ cells32 l, v.oneCell' = true := by
  intro v hv
  obtain ⟨b, _, rfl⟩ := List.mem_map.1 hv
  rfl
/-- What each time adds. -/
def table : List UInt32 := [
  0x428a2f98, 0x71374491, 0xb5c0fbcf, 0xe9b5dba5, 0x3956c25b, 0x59f111f1, 0x923f82a4, 0xab1c5ed5,
  0xd807aa98, 0x12835b01, 0x243185be, 0x550c7dc3, 0x72be5d74, 0x80deb1fe, 0x9bdc06a7, 0xc19bf174,
  0xe49b69c1, 0xefbe4786, 0x0fc19dc6, 0x240ca1cc, 0x2de92c6f, 0x4a7484aa, 0x5cb0a9dc, 0x76f988da,
  0x983e5152, 0xa831c66d, 0xb00327c8, 0xbf597fc7, 0xc6e00bf3, 0xd5a79147, 0x06ca6351, 0x14292967,
  0x27b70a85, 0x2e1b2138, 0x4d2c6dfc, 0x53380d13, 0x650a7354, 0x766a0abb, 0x81c2c92e, 0x92722c85,
  0xa2bfe8a1, 0xa81a664b, 0xc24b8b70, 0xc76c51a3, 0xd192e819, 0xd6990624, 0xf40e3585, 0x106aa070,
  0x19a4c116, 0x1e376c08, 0x2748774c, 0x34b0bcb5, 0x391c0cb3, 0x4ed8aa4a, 0x5b9cca4f, 0x682e6ff3,
  0x748f82ee, 0x78a5636f, 0x84c87814, 0x8cc70208, 0x90befffa, 0xa4506ceb, 0xbef9a3f7, 0xc67178f2]
/-- The eight numbers at first. -/
def begin8 : List UInt32 := [0x6a09e667, 0xbb67ae85, 0x3c6ef372, 0xa54ff53a, 0x510e527f, 0x9b05688c, 0x1f83d9ab, 0x5be0cd19]
/-- Bytes in a row, as cells. -/
def cells8 (l : List UInt8) : List Value := l.map u8v
theorem length_cells8 (l : List UInt8) : (cells8 l).length = l.length := by simp [cells8]
theorem oneCell_cells8 (l : List UInt8) : ∀ v ∈ cells8 l, v.oneCell' = true := by
  intro v hv
  obtain ⟨b, _, rfl⟩ := List.mem_map.1 hv
  rfl
theorem get_cells8 {l : List UInt8} {i : Nat} (h : i < l.length) : (cells8 l).toArray[i]? = some (.int .u8 (((l.getD i 0).toNat : Nat) : Int)) := by
  simp [cells8, u8v, h]
theorem get_cells32 {l : List UInt32} {i : Nat} (h : i < l.length) : (cells32 l).toArray[i]? = some (.int .u32 (uv (l.getD i 0))) := by
  simp [cells32, h]
theorem set_cells32 (l : List UInt32) (i : Nat) (x : UInt32) : (cells32 l).toArray.setIfInBounds i (.int .u32 (uv x)) = (cells32 (l.set i x)).toArray := by
  simp [cells32, List.map_set]
theorem uv_byte (c : UInt8) : ((c.toNat : Nat) : Int) = uv c.toUInt32 := by unfold uv; simp

/-- A row of numbers of 32 bits in a block of its own. -/
def Row32 (W : World) (b : Nat) (t : TypeId) (l : List UInt32) : Prop := W.heap[b]? = some (.cells (cells32 l).toArray t (0, 0))
theorem Row32.cell {W : World} {b : Nat} {t : TypeId} {l : List UInt32} (h : Row32 W b t l) {i : Nat} (hi : i < l.length) : W.cell? ⟨b, i, none⟩ = some (.int .u32 (uv (l.getD i 0))) := by
  rw [cell_of_row W b i _ t (0, 0) h, get_cells32 hi]
theorem Row32.free {W : World} {b : Nat} {t : TypeId} {l : List UInt32} (h : Row32 W b t l) (i : Nat) : W.frozen? ⟨b, i, none⟩ = false := frozen_of_row W b i _ t h
theorem Row32.lt {W : World} {b : Nat} {t : TypeId} {l : List UInt32} (h : Row32 W b t l) : b < W.heap.size := (Array.getElem?_eq_some_iff.1 h).1
theorem Row32.set {W : World} {b : Nat} {t : TypeId} {l : List UInt32} (h : Row32 W b t l) (i : Nat) (x : UInt32) : Row32 (W.setCell ⟨b, i, none⟩ (.int .u32 (uv x))) b t (l.set i x) := by
  unfold Row32
  rw [heap_setCell_same W b i _ t _ h, set_cells32]
theorem Row32.other {W : World} {b : Nat} {t : TypeId} {l : List UInt32} (h : Row32 W b t l) (a : Addr) (v : Value) (hne : b ≠ a.block) : Row32 (W.setCell a v) b t l :=
  (heap_setCell_other W a b v hne).trans h
theorem Row32.alloc {W : World} {b : Nat} {t : TypeId} {l : List UInt32} (h : Row32 W b t l) (o : Obj) : Row32 (W.alloc o) b t l := (Below.heap_alloc W o b h.lt).trans h
theorem Row32.below {B : Nat} {W W' : World} {b : Nat} {t : TypeId} {l : List UInt32} (h : Row32 W b t l) (hb : Below B W W') (hB : b < B) : Row32 W' b t l := (hb.block b hB).trans h
theorem Row32.new {W : World} {b : Nat} {t : TypeId} {l : List UInt32} (C : Array Value) (hC : C = (cells32 l).toArray) (hb : b = W.heap.size) : Row32 (W.alloc (.cells C t)) b t l := by
  subst hC; subst hb; exact heap_alloc_new W _
theorem Row32.setCells {W : World} {b : Nat} {t : TypeId} {l : List UInt32} (h : Row32 W b t l) (b' : Nat) (hne : b ≠ b') (o : Nat) (vs : List Value) : Row32 (W.setCells b' o vs) b t l :=
  (heap_setCells_other b' b hne vs o W).trans h
theorem Row32.whole {W : World} {b : Nat} {t : TypeId} {l l' : List UInt32} (h : Row32 W b t l) (hl : l.length = l'.length) : Row32 (W.setCells b 0 (cells32 l')) b t l' :=
  heap_setCells_all W b t _ _ h (by simp [cells32, hl])
theorem Row32.there {W : World} {b : Nat} {t : TypeId} {l : List UInt32} (h : Row32 W b t l) : W.there b 0 l.length := fun j hj => by
  rw [Nat.zero_add, h.cell hj]; exact ⟨rfl, h.free j⟩
theorem Row32.range {W : World} {b : Nat} {t : TypeId} {l : List UInt32} (h : Row32 W b t l) : W.rangeAt b 0 (cells32 l) := fun j v hv => by
  rw [cell_of_row W b _ _ t (0, 0) h, Nat.zero_add]; simpa using hv

/-- The sixteen numbers of a block, so many of its bytes taken. -/
def words (b : List UInt8) : Nat → List UInt32
  | 0 => List.replicate 16 0
  | i + 1 => (words b i).set (i / 4) (((words b i).getD (i / 4) 0 <<< 8) ||| (b.getD i 0).toUInt32)
theorem length_words (b : List UInt8) (i : Nat) : (words b i).length = 16 := by
  induction i with
  | zero => rfl
  | succ i ih => rw [words, List.length_set, ih]

/-- A place among eight that turn. -/
def turn8 (k t : Nat) : Nat := (k + 64 - t) % 8
theorem turn8_lt (k t : Nat) : turn8 k t < 8 := Nat.mod_lt _ (by decide)
theorem and7_all : ∀ (k : Fin 8) (t : Fin 65), bits .and .i64 (((k.val : Nat) : Int) - ((t.val : Nat) : Int)) 7 = ((turn8 k.val t.val : Nat) : Int) := by decide +kernel
theorem and7 (k t : Nat) (hk : k ≤ 7) (ht : t ≤ 64) : bits .and .i64 ((k : Int) - (t : Int)) 7 = ((turn8 k t : Nat) : Int) := and7_all ⟨k, by omega⟩ ⟨t, by omega⟩
/-- The times' numbers: those of a block, then new ones. -/
def sched (t : Nat) (w : List UInt32) : List UInt32 :=
  if t < 16 then w else w.set (t % 16) (w.getD (t % 16) 0 + (two (w.getD ((t + 1) % 16) 0) 7 18 3 + w.getD ((t + 9) % 16) 0 + two (w.getD ((t + 14) % 16) 0) 17 19 10))
/-- What one time adds. -/
def adds (t : Nat) (k : UInt32) (v w : List UInt32) : UInt32 :=
  v.getD (turn8 7 t) 0 + k + w.getD (t % 16) 0 + three (v.getD (turn8 4 t) 0) 6 11 25 + ((v.getD (turn8 4 t) 0 &&& (v.getD (turn8 5 t) 0 ^^^ v.getD (turn8 6 t) 0)) ^^^ v.getD (turn8 6 t) 0)
/-- One time. -/
def time (t : Nat) (k : UInt32) (v w : List UInt32) : List UInt32 :=
  (v.set (turn8 3 t) (v.getD (turn8 3 t) 0 + adds t k v w)).set (turn8 7 t) (adds t k v w + three (v.getD (turn8 0 t) 0) 2 13 22 + ((v.getD (turn8 0 t) 0 &&& (v.getD (turn8 1 t) 0 ||| v.getD (turn8 2 t) 0)) ||| (v.getD (turn8 1 t) 0 &&& v.getD (turn8 2 t) 0)))
/-- So many times. -/
def times (s : List UInt32) (b : List UInt8) : Nat → List UInt32 × List UInt32
  | 0 => (s, words b 64)
  | t + 1 => (time t (table.getD t 0) (times s b t).1 (sched t (times s b t).2), sched t (times s b t).2)
theorem length_sched (t : Nat) (w : List UInt32) : (sched t w).length = w.length := by unfold sched; split <;> simp
theorem length_time (t : Nat) (k : UInt32) (v w : List UInt32) : (time t k v w).length = v.length := by simp [time]
theorem length_times (s : List UInt32) (b : List UInt8) (hs : s.length = 8) (t : Nat) : (times s b t).1.length = 8 ∧ (times s b t).2.length = 16 := by
  induction t with
  | zero => simp only [times]; exact ⟨hs, length_words b 64⟩
  | succ t ih => exact ⟨by rw [times, length_time]; exact ih.1, by rw [times, length_sched]; exact ih.2⟩
/-- The eight behind so many of them added. -/
def sums8 (s v : List UInt32) : Nat → List UInt32
  | 0 => s
  | i + 1 => (sums8 s v i).set i ((sums8 s v i).getD i 0 + v.getD i 0)
theorem length_sums8 (s v : List UInt32) (i : Nat) : (sums8 s v i).length = s.length := by
  induction i with
  | zero => rfl
  | succ i ih => rw [sums8, List.length_set, ih]
/-- The eight behind a block. -/
def took (s : List UInt32) (b : List UInt8) : List UInt32 := sums8 s (times s b 64).1 8
theorem length_took (s : List UInt32) (b : List UInt8) : (took s b).length = s.length := length_sums8 _ _ _

end Alm
