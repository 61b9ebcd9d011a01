/-
  Joined: W1, W2, R1.
-/
import Derived.Test.YtfmgoehnbaiamaaGreatDoorW0
import Derived.Test.YtfmgoehnbaiamaaGreatDoorSha
import Derived.Deep.QuietTactic
import Derived.BigQuiet
import Derived.KernelRfl
-- Walks: bits.RotateLeft32, shas.two, shas.three.
open Go Go.RowKit Alm
namespace Go.Proofs.YtfmgoehnbaiamaaGreatDoor

theorem rot_mask (n : Nat) (h0 : 1 ≤ n) (h1 : n ≤ 31) : bits .and .u64 (IntKind.u64.wrap (-(n : Int))) 31 = ((32 - n : Nat) : Int) := by
  have e : IntKind.u64.wrap (-(n : Int)) = ((18446744073709551616 - n : Nat) : Int) := by
    simp only [IntKind.wrap, IntKind.bits, IntKind.signed]; simp only [Bool.false_and, Bool.false_eq_true, if_false]; omega
  have e31 : (31 : Int) = ((31 : Nat) : Int) := rfl
  rw [e, e31, u64_and_nat _ _ (by omega) (by omega), show (31 : Nat) = 2 ^ 5 - 1 from rfl, Nat.and_two_pow_sub_one_eq_mod]
  omega

set_option maxHeartbeats 400000 in
theorem rot_any (x : UInt32) (n : Nat) (k : Int) (w : World) (hk : k = -(n : Int)) (h0 : 1 ≤ n) (h1 : n ≤ 31) :
    Calls Tryz.prog 194 #[.int .u32 (uv x), .int .i64 k] w fun e w' => e = .returned (.int .u32 (uv (rotr x n))) ∧ w = w' := by
  subst hk
  have e1 := rot_mask n h0 h1
  obtain ⟨m, hm⟩ : ∃ m, m = 32 - n := ⟨_, rfl⟩
  rw [← hm] at e1
  have hr : uv (rotr x n) = uv ((x <<< UInt32.ofNat m) ||| (x >>> UInt32.ofNat n)) := by rw [hm]; rfl
  have hm1 : 1 ≤ m := by omega
  have hm2 : m ≤ 31 := by omega
  have s1 := uv_shl x m (by omega)
  have s2 := uv_shr x n (by omega)
  have hsub : (32 : Int) - (m : Int) = (n : Int) := by omega
  have o1 := uv_or (x <<< UInt32.ofNat m) (x >>> UInt32.ofNat n)
  rw [hr]; clear hr hm
  go_enter Tryz.func194, Tryz.ntmps194
  go_wp2_with fail
  go_ret
  exact ⟨rfl, rfl⟩

set_option maxHeartbeats 800000 in
theorem three_any (x : UInt32) (a b c : Nat) (w : World) (ha : 1 ≤ a) (ha' : a ≤ 31) (hb : 1 ≤ b) (hb' : b ≤ 31) (hc : 1 ≤ c) (hc' : c ≤ 31) :
    Calls Tryz.prog 192 #[.int .u32 (uv x), .int .i64 (a : Int), .int .i64 (b : Int), .int .i64 (c : Int)] w fun e w' => e = .returned (.int .u32 (uv (three x a b c))) ∧ w = w' := by
  have o1 := uv_xor (rotr x a) (rotr x b)
  have o2 := uv_xor (rotr x a ^^^ rotr x b) (rotr x c)
  go_enter Tryz.func192, Tryz.ntmps192
  go_wp2_with (go_at_call 194; first
    | ((with_reducible refine (rot_any x a (-(a : Int)) _ rfl ha ha').mono ?_); rintro e w' ⟨rfl, rfl⟩)
    | ((with_reducible refine (rot_any x b (-(b : Int)) _ rfl hb hb').mono ?_); rintro e w' ⟨rfl, rfl⟩)
    | ((with_reducible refine (rot_any x c (-(c : Int)) _ rfl hc hc').mono ?_); rintro e w' ⟨rfl, rfl⟩))
  go_ret
  exact ⟨rfl, rfl⟩

set_option maxHeartbeats 800000 in
theorem two_any (x : UInt32) (a b c : Nat) (w : World) (ha : 1 ≤ a) (ha' : a ≤ 31) (hb : 1 ≤ b) (hb' : b ≤ 31) (hc' : c ≤ 31) :
    Calls Tryz.prog 191 #[.int .u32 (uv x), .int .i64 (a : Int), .int .i64 (b : Int), .int .i64 (c : Int)] w fun e w' => e = .returned (.int .u32 (uv (two x a b c))) ∧ Below w.heap.size w w' := by
  have o1 := uv_xor (rotr x a) (rotr x b)
  have o2 := uv_xor (rotr x a ^^^ rotr x b) (x >>> UInt32.ofNat c)
  have s2 := uv_shr x c (by omega)
  have wa : IntKind.i64.wrap (-(a : Int)) = -(a : Int) := by rw [IntKind.wrap_i64]; omega
  have wb : IntKind.i64.wrap (-(b : Int)) = -(b : Int) := by rw [IntKind.wrap_i64]; omega
  go_enter Tryz.func191, Tryz.ntmps191
  go_wp2_with fail
  go_region_held3 (fun W => Below w.heap.size w W) (first | assumption | exact (Below.refl _ _).drew)
    ((go_at_call 194; first
    | ((with_reducible refine (rot_any x a (-(a : Int)) _ rfl ha ha').mono ?_); rintro e w' ⟨rfl, rfl⟩)
    | ((with_reducible refine (rot_any x b (-(b : Int)) _ rfl hb hb').mono ?_); rintro e w' ⟨rfl, rfl⟩)))
  go_wp2_with fail
  go_ret
  exact ⟨rfl, by assumption⟩
theorem two_a (x : UInt32) (w : World) : Calls Tryz.prog 191 #[.int .u32 (uv x), .int .i64 7, .int .i64 18, .int .i64 3] w fun e w' => e = .returned (.int .u32 (uv (two x 7 18 3))) ∧ Below w.heap.size w w' :=
  two_any x 7 18 3 w (by decide) (by decide) (by decide) (by decide) (by decide)
theorem two_b (x : UInt32) (w : World) : Calls Tryz.prog 191 #[.int .u32 (uv x), .int .i64 17, .int .i64 19, .int .i64 10] w fun e w' => e = .returned (.int .u32 (uv (two x 17 19 10))) ∧ Below w.heap.size w w' :=
  two_any x 17 19 10 w (by decide) (by decide) (by decide) (by decide) (by decide)
theorem three_a (x : UInt32) (w : World) : Calls Tryz.prog 192 #[.int .u32 (uv x), .int .i64 6, .int .i64 11, .int .i64 25] w fun e w' => e = .returned (.int .u32 (uv (three x 6 11 25))) ∧ w = w' :=
  three_any x 6 11 25 w (by decide) (by decide) (by decide) (by decide) (by decide) (by decide)
theorem three_b (x : UInt32) (w : World) : Calls Tryz.prog 192 #[.int .u32 (uv x), .int .i64 2, .int .i64 13, .int .i64 22] w fun e w' => e = .returned (.int .u32 (uv (three x 2 13 22))) ∧ w = w' :=
  three_any x 2 13 22 w (by decide) (by decide) (by decide) (by decide) (by decide) (by decide)
end Go.Proofs.YtfmgoehnbaiamaaGreatDoor
-- Walks: shas.begin, shas.table.
namespace Go.Proofs.YtfmgoehnbaiamaaGreatDoor
theorem info8 : (Tryz.prog.info? 231).map (·.size) = some 8 := by kernel_rfl
theorem info64 : (Tryz.prog.info? 220).map (·.size) = some 64 := by kernel_rfl
set_option maxHeartbeats 400000 in
theorem begin_any (w : World) : Calls Tryz.prog 185 #[] w fun e w' => e = .returned (.agg (cells32 begin8).toArray) ∧ Below w.heap.size w w' := by
  go_enter Tryz.func185, Tryz.ntmps185
  go_wp2_with fail
  exact bodyPost_ret (results_mid Tryz.results185 _ _ w.heap.size 0 (cells32 begin8) _ rfl (range_new _ _ _ _ rfl) Tryz.underlying231 rfl info8) rfl ⟨rfl, (Below.refl _ _).alloc (Nat.le_refl _) _⟩
set_option maxRecDepth 100000 in
set_option maxHeartbeats 1600000 in
theorem table_any (w : World) : Calls Tryz.prog 190 #[] w fun e w' => e = .returned (.agg (cells32 table).toArray) ∧ Below w.heap.size w w' := by
  have hl : (cells32 table).length = 64 := rfl
  have ho := oneCell_cells32 table
  have hz : (cells32 table).toArray.size = 64 := rfl
  go_enter Tryz.func190, Tryz.ntmps190
  have Hl := Lib.hid hl; clear hl
  have Hz := Lib.hid hz; clear hz
  go_wp2_with (first
    | (refine wpList_build_by rfl _ _ rfl (.agg (cells32 table).toArray) (fun _ => by kernel_rfl) ?_)
    | (refine wpList_store_mid rfl _ _ _ rfl w.heap.size 0 _ rfl rfl (by rw [Hz.out]; exact (Res.start w 64 _ _ rfl).there) (by rw [Hz.out]; exact info64) (all_oneCell_toArray ho) ?_))
  refine bodyPost_ret (results_mid Tryz.results190 _ _ w.heap.size 0 (cells32 table) _ rfl (range_stored _ _ _ _ (by rw [Hl.out]; exact ((Res.start w 64 _ _ rfl).store _).there)) Tryz.underlying220 rfl (by rw [Hl.out]; exact info64)) rfl ⟨rfl, ((Res.start w 64 _ _ rfl).store _).below⟩
end Go.Proofs.YtfmgoehnbaiamaaGreatDoor
-- Plain: the sum of bytes as the document defines it is the one that the program's text computes: words, times, a block. No program in sight.
open Go Go.RowKit
namespace Alm
theorem u32_ext {x y : UInt32} (h : ∀ i, i < 32 → x.toBitVec.getLsbD i = y.toBitVec.getLsbD i) : x = y := by
  apply UInt32.toBitVec_inj.1
  exact BitVec.eq_of_getLsbD_eq fun i hi => h i hi
theorem ch_eq (e f g : UInt32) : (e &&& f) ||| (~~~e &&& g) = (e &&& (f ^^^ g)) ^^^ g := by
  apply u32_ext
  intro i hi
  simp only [UInt32.toBitVec_or, UInt32.toBitVec_and, UInt32.toBitVec_xor, UInt32.toBitVec_not, BitVec.getLsbD_or, BitVec.getLsbD_and, BitVec.getLsbD_xor, BitVec.getLsbD_not, hi, decide_true, Bool.true_and]
  cases e.toBitVec.getLsbD i <;> cases f.toBitVec.getLsbD i <;> cases g.toBitVec.getLsbD i <;> rfl
theorem maj_eq (a b c : UInt32) : (a &&& b) ||| (a &&& c) ||| (b &&& c) = (a &&& (b ||| c)) ||| (b &&& c) := by
  apply u32_ext
  intro i hi
  simp only [UInt32.toBitVec_or, UInt32.toBitVec_and, BitVec.getLsbD_or, BitVec.getLsbD_and]
  cases a.toBitVec.getLsbD i <;> cases b.toBitVec.getLsbD i <;> cases c.toBitVec.getLsbD i <;> rfl
theorem or_comm32 (x y : UInt32) : x ||| y = y ||| x := by
  apply u32_ext
  intro i hi
  simp only [UInt32.toBitVec_or, BitVec.getLsbD_or]
  exact Bool.or_comm _ _
/-- A byte more at a number's end. -/
theorem shl_or (x : UInt32) (c : UInt8) : (x <<< 8) ||| c.toUInt32 = 256 * x + c.toUInt32 := by
  apply UInt32.toNat_inj.1
  have hc : c.toNat < 256 := c.toNat_lt
  rw [UInt32.toNat_or, UInt32.toNat_shiftLeft, UInt32.toNat_add, UInt32.toNat_mul]
  have e1 : c.toUInt32.toNat = c.toNat := by simp
  have e2 : x.toNat <<< ((8 : UInt32).toNat % 32) % 2 ^ 32 = (x.toNat % 2 ^ 24) <<< 8 := by
    rw [show (8 : UInt32).toNat % 32 = 8 from rfl, Nat.shiftLeft_eq, Nat.shiftLeft_eq]
    omega
  rw [e1, e2, ← Nat.shiftLeft_add_eq_or_of_lt (by omega : c.toNat < 2 ^ 8), Nat.shiftLeft_eq, show (256 : UInt32).toNat = 256 from rfl]
  omega
/-- The number of four bytes. -/
def word4 (b : List UInt8) (t : Nat) : Nat → UInt32
  | 0 => 0
  | i + 1 => 256 * word4 b t i + (b.getD (4 * t + i) 0).toUInt32
/-- The sixty-four numbers, so many of them reckoned. -/
def rws (b : List UInt8) : Nat → List UInt32
  | 0 => List.replicate 64 0
  | t + 1 => (rws b t).set t (if t < 16 then word4 b t 4 else (rws b t).getD (t - 16) 0 + (rws b t).getD (t - 7) 0 + two ((rws b t).getD (t - 15) 0) 7 18 3 + two ((rws b t).getD (t - 2) 0) 17 19 10)
theorem length_rws (b : List UInt8) (t : Nat) : (rws b t).length = 64 := by
  induction t with
  | zero => simp [rws]
  | succ t ih => rw [rws, List.length_set, ih]
theorem getD_set {l : List UInt32} {i j : Nat} {x : UInt32} (hi : i < l.length) : (l.set i x).getD j 0 = if i = j then x else l.getD j 0 := by
  by_cases h : i = j
  · subst h; simp [List.getD_eq_getElem?_getD, hi]
  · simp [List.getD_eq_getElem?_getD, h]
theorem rws_get (b : List UInt8) {t : Nat} : ∀ {n : Nat}, t < n → n ≤ 64 → (rws b n).getD t 0 = (rws b (t + 1)).getD t 0
  | 0, h, _ => by omega
  | n + 1, h, hn => by
    by_cases e : t = n
    · subst e; rfl
    · rw [rws, getD_set (by rw [length_rws]; omega), if_neg (by omega)]
      exact rws_get b (by omega) (by omega)
theorem rws_at (b : List UInt8) {t : Nat} (h : t < 64) : (rws b 64).getD t 0 = if t < 16 then word4 b t 4 else (rws b 64).getD (t - 16) 0 + (rws b 64).getD (t - 7) 0 + two ((rws b 64).getD (t - 15) 0) 7 18 3 + two ((rws b 64).getD (t - 2) 0) 17 19 10 := by
  rw [rws_get b h (Nat.le_refl _), rws, getD_set (by rw [length_rws]; omega), if_pos rfl]
  by_cases h16 : t < 16
  · rw [if_pos h16, if_pos h16]
  · rw [if_neg h16, if_neg h16]
    have e : ∀ j, 1 ≤ j → j ≤ 16 → (rws b t).getD (t - j) 0 = (rws b 64).getD (t - j) 0 := fun j h1 h2 => by
      rw [rws_get b (show t - j < t by omega) (by omega), rws_get b (show t - j < 64 by omega) (Nat.le_refl _)]
    rw [e 16 (by omega) (by omega), e 7 (by omega) (by omega), e 15 (by omega) (by omega), e 2 (by omega) (by omega)]
/-- The words of a block, by their bytes. -/
theorem words_get (b : List UInt8) : ∀ (i : Nat), i ≤ 64 → ∀ t, t < 16 → (words b i).getD t 0 = if i ≤ 4 * t then 0 else word4 b t (min (i - 4 * t) 4)
  | 0, _, t, ht => by
    rw [if_pos (by omega)]
    simp only [words]
    rw [List.getD_eq_getElem?_getD, List.getElem?_replicate, if_pos (by omega)]
    rfl
  | i + 1, hi, t, ht => by
    have ih := fun u hu => words_get b i (by omega) u hu
    rw [words, getD_set (by rw [length_words]; omega)]
    by_cases e : i / 4 = t
    · rw [if_pos e, if_neg (by omega), e, shl_or, ih t ht]
      have hmin : min (i + 1 - 4 * t) 4 = (i - 4 * t) + 1 := by omega
      rw [hmin, word4]
      have e2 : 4 * t + (i - 4 * t) = i := by omega
      rw [e2]
      by_cases h0 : i ≤ 4 * t
      · rw [if_pos h0, show i - 4 * t = 0 by omega]; rfl
      · rw [if_neg h0, show min (i - 4 * t) 4 = i - 4 * t by omega]
    · rw [if_neg e, ih t ht]
      by_cases h0 : i ≤ 4 * t
      · rw [if_pos h0, if_pos (by omega)]
      · rw [if_neg h0, if_neg (by omega), show min (i + 1 - 4 * t) 4 = min (i - 4 * t) 4 by omega]
theorem words_all (b : List UInt8) {t : Nat} (ht : t < 16) : (words b 64).getD t 0 = word4 b t 4 := by
  rw [words_get b 64 (Nat.le_refl _) t ht, if_neg (by omega), show min (64 - 4 * t) 4 = 4 by omega]
/-- One time, as it is written down. -/
def radds (k w : UInt32) (n : List UInt32) : UInt32 := n.getD 7 0 + k + w + three (n.getD 4 0) 6 11 25 + ((n.getD 4 0 &&& n.getD 5 0) ||| (~~~(n.getD 4 0) &&& n.getD 6 0))
def rmore (n : List UInt32) : UInt32 := three (n.getD 0 0) 2 13 22 + ((n.getD 0 0 &&& n.getD 1 0) ||| (n.getD 0 0 &&& n.getD 2 0) ||| (n.getD 1 0 &&& n.getD 2 0))
def rtime (k w : UInt32) (n : List UInt32) : List UInt32 := [radds k w n + rmore n, n.getD 0 0, n.getD 1 0, n.getD 2 0, n.getD 3 0 + radds k w n, n.getD 4 0, n.getD 5 0, n.getD 6 0]
def rtimes (s : List UInt32) (b : List UInt8) : Nat → List UInt32
  | 0 => s
  | t + 1 => rtime (table.getD t 0) ((rws b 64).getD t 0) (rtimes s b t)
theorem length_rtimes (s : List UInt32) (b : List UInt8) (hs : s.length = 8) (t : Nat) : (rtimes s b t).length = 8 := by
  cases t with
  | zero => exact hs
  | succ t => rfl
def rtook (s : List UInt32) (b : List UInt8) : List UInt32 := (List.range 8).map fun i => s.getD i 0 + (rtimes s b 64).getD i 0
/-- Where in the ring of sixteen a number lies. -/
def ring (t j : Nat) : Nat := if t ≤ 16 then j else t - 16 + (j + 16 - t % 16) % 16
theorem add4 (a b c d : UInt32) : c + (a + d + b) = c + d + a + b := by ac_rfl
theorem add3 (a b c : UInt32) : a + b + c = a + (b + c) := by ac_rfl
theorem ring_a (t : Nat) (h : ¬ t < 16) : ring (t + 1) (t % 16) = t := by unfold ring; split <;> omega
theorem ring_b (t : Nat) (h : ¬ t < 16) : ring t (t % 16) = t - 16 := by unfold ring; split <;> omega
theorem ring_c (t : Nat) (h : ¬ t < 16) : ring t ((t + 1) % 16) = t - 15 := by unfold ring; split <;> omega
theorem ring_d (t : Nat) (h : ¬ t < 16) : ring t ((t + 9) % 16) = t - 7 := by unfold ring; split <;> omega
theorem ring_e (t : Nat) (h : ¬ t < 16) : ring t ((t + 14) % 16) = t - 2 := by unfold ring; split <;> omega
theorem ring_f (t j : Nat) (h : ¬ t < 16) (hj : j < 16) (e : ¬ t % 16 = j) : ring t j = ring (t + 1) j := by unfold ring; split <;> split <;> omega
theorem ring_g (t : Nat) : ring (t + 1) (t % 16) = t := by unfold ring; split <;> omega
theorem ring_inv (s : List UInt32) (b : List UInt8) (hs : s.length = 8) : ∀ t, t ≤ 64 → ∀ j, j < 16 → (times s b t).2.getD j 0 = (rws b 64).getD (ring t j) 0
  | 0, _, j, hj => by
    have e0 : ring 0 j = j := if_pos (by omega)
    have e1 := rws_at b (t := j) (by omega)
    rw [if_pos hj] at e1
    simp only [times]
    rw [e0, e1, words_all b hj]
  | t + 1, ht, j, hj => by
    have ih := fun u hu => ring_inv s b hs t (by omega) u hu
    have hl := (length_times s b hs t).2
    simp only [times]
    unfold sched
    by_cases h16 : t < 16
    · rw [if_pos h16, ih j hj]
      rw [show ring t j = j from if_pos (by omega), show ring (t + 1) j = j from if_pos (by omega)]
    · rw [if_neg h16, getD_set (by rw [hl]; omega)]
      by_cases e : t % 16 = j
      · rw [if_pos e, ← e, ring_a t h16, rws_at b (by omega), if_neg h16]
        rw [ih (t % 16) (by omega), ih ((t + 1) % 16) (by omega), ih ((t + 9) % 16) (by omega), ih ((t + 14) % 16) (by omega)]
        rw [ring_b t h16, ring_c t h16, ring_d t h16, ring_e t h16]
        generalize two ((rws b 64).getD (t - 15) 0) 7 18 3 = x1
        generalize two ((rws b 64).getD (t - 2) 0) 17 19 10 = x2
        generalize (rws b 64).getD (t - 16) 0 = x3
        generalize (rws b 64).getD (t - 7) 0 = x4
        exact add4 x1 x2 x3 x4
      · rw [if_neg e, ih j hj, ring_f t j h16 hj e]
/-- What the ring holds when a time begins is that time's number. -/
theorem ring_now (s : List UInt32) (b : List UInt8) (hs : s.length = 8) (t : Nat) (ht : t < 64) : (sched t (times s b t).2).getD (t % 16) 0 = (rws b 64).getD t 0 := by
  have := ring_inv s b hs (t + 1) (by omega) (t % 16) (by omega)
  simp only [times] at this
  rw [this, ring_g]
theorem turn_inv (s : List UInt32) (b : List UInt8) (hs : s.length = 8) : ∀ t, t ≤ 64 → ∀ k, k < 8 → (times s b t).1.getD (turn8 k t) 0 = (rtimes s b t).getD k 0
  | 0, _, k, hk => by rw [show turn8 k 0 = k by unfold turn8; omega]; rfl
  | t + 1, ht, k, hk => by
    have ih := fun u hu => turn_inv s b hs t (by omega) u hu
    have hl := (length_times s b hs t).1
    have hnow := ring_now s b hs t (by omega)
    have hadds : adds t (table.getD t 0) (times s b t).1 (sched t (times s b t).2) = radds (table.getD t 0) ((rws b 64).getD t 0) (rtimes s b t) := by
      unfold adds radds
      rw [ih 7 (by omega), ih 4 (by omega), ih 5 (by omega), ih 6 (by omega), hnow, ch_eq]
    simp only [times]
    unfold time
    rw [hadds, ih 3 (by omega), ih 0 (by omega), ih 1 (by omega), ih 2 (by omega)]
    have l1 : turn8 7 t < ((times s b t).1.set (turn8 3 t) ((rtimes s b t).getD 3 0 + radds (table.getD t 0) ((rws b 64).getD t 0) (rtimes s b t))).length := by rw [List.length_set, hl]; exact turn8_lt _ _
    rw [getD_set l1, getD_set (by rw [hl]; exact turn8_lt _ _)]
    by_cases h0 : k = 0
    · subst h0
      rw [if_pos (by unfold turn8; omega)]
      show _ = radds _ _ _ + rmore _
      unfold rmore
      rw [maj_eq]
      exact add3 _ _ _
    · rw [if_neg (by unfold turn8; omega)]
      by_cases h4 : k = 4
      · subst h4
        rw [if_pos (by unfold turn8; omega)]
        rfl
      · rw [if_neg (by unfold turn8; omega), show turn8 k (t + 1) = turn8 (k - 1) t by unfold turn8; omega, ih (k - 1) (by omega)]
        match k, hk, h0, h4 with
        | 1, _, _, _ => rfl
        | 2, _, _, _ => rfl
        | 3, _, _, _ => rfl
        | 5, _, _, _ => rfl
        | 6, _, _, _ => rfl
        | 7, _, _, _ => rfl
theorem sums8_get (s v : List UInt32) : ∀ n, n ≤ s.length → ∀ i, i < s.length → (sums8 s v n).getD i 0 = if i < n then s.getD i 0 + v.getD i 0 else s.getD i 0
  | 0, _, i, _ => by rw [if_neg (by omega)]; rfl
  | n + 1, hn, i, hi => by
    have ih := fun u hu => sums8_get s v n (by omega) u hu
    rw [sums8, getD_set (by rw [length_sums8]; omega)]
    by_cases e : n = i
    · subst e; rw [if_pos rfl, if_pos (by omega), ih n hi, if_neg (by omega)]
    · rw [if_neg e, ih i hi]
      by_cases h : i < n
      · rw [if_pos h, if_pos (by omega)]
      · rw [if_neg h, if_neg (by omega)]
/-- A block, taken as it is written down. -/
theorem rtook_eq (s : List UInt32) (b : List UInt8) (hs : s.length = 8) : rtook s b = took s b := by
  apply List.ext_getElem
  · rw [length_took, hs]; simp [rtook]
  · intro i h1 h2
    have hi : i < 8 := by simpa [rtook] using h1
    have e : (took s b)[i] = (took s b).getD i 0 := by simp [List.getD_eq_getElem?_getD, h2]
    rw [e]
    unfold took
    rw [sums8_get s _ 8 (by omega) i (by omega), if_pos hi]
    have := turn_inv s b hs 64 (Nat.le_refl _) i hi
    rw [show turn8 i 64 = i by unfold turn8; omega] at this
    rw [this]
    simp [rtook]
end Alm
