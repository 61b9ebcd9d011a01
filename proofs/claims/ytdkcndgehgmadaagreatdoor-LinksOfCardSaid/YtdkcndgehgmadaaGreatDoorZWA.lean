/-
  Joined: W1, W2.
-/
import Derived.Test.YtdkcndgehgmadaaGreatDoorW0
import Derived.Test.YtdkcndgehgmadaaGreatDoorSha
import Derived.Deep.QuietTactic
import Derived.BigQuiet
import Derived.KernelRfl
-- Walks: bits.RotateLeft32, shas.two, shas.three.
open Go Go.RowKit Alm
namespace Go.Proofs.YtdkcndgehgmadaaGreatDoor

theorem rot_mask (n : Nat) (h0 : 1 ≤ n) (h1 : n ≤ 31) : bits .and .u64 (IntKind.u64.wrap (-(n : Int))) 31 = ((32 - n : Nat) : Int) := by
  have e : IntKind.u64.wrap (-(n : Int)) = ((18446744073709551616 - n : Nat) : Int) := by
    simp only [IntKind.wrap, IntKind.bits, IntKind.signed]; simp only [Bool.false_and, Bool.false_eq_true, if_false]; omega
  have e31 : (31 : Int) = ((31 : Nat) : Int) := rfl
  rw [e, e31, u64_and_nat _ _ (by omega) (by omega), show (31 : Nat) = 2 ^ 5 - 1 from rfl, Nat.and_two_pow_sub_one_eq_mod]
  omega

set_option maxHeartbeats 400000 in
theorem rot_any (x : UInt32) (n : Nat) (k : Int) (w : World) (hk : k = -(n : Int)) (h0 : 1 ≤ n) (h1 : n ≤ 31) :
    Calls Tryz.prog 200 #[.int .u32 (uv x), .int .i64 k] w fun e w' => e = .returned (.int .u32 (uv (rotr x n))) ∧ w = w' := by
  subst hk
  have e1 := rot_mask n h0 h1
  obtain ⟨m, hm⟩ : ∃ m, m = 32 - n := ⟨_, rfl⟩
  rw [← hm] at e1
  have hr : uv (rotr x n) = uv ((x <<< UInt32.ofNat m) ||| (x >>> UInt32.ofNat n)) := by rw [hm]; rfl
  have hm1 : 1 ≤ m := by omega
  have hm2 : m ≤ 31 := by omega
  have s1 := uv_shl x m (by omega)
  have s2 := uv_shr x n (by omega)
  have hsub : (32 : Int) - (m : Int) = (n : Int) := by omega
  have o1 := uv_or (x <<< UInt32.ofNat m) (x >>> UInt32.ofNat n)
  rw [hr]; clear hr hm
  go_enter Tryz.func200, Tryz.ntmps200
  go_wp2_with fail
  go_ret
  exact ⟨rfl, rfl⟩

set_option maxHeartbeats 800000 in
theorem three_any (x : UInt32) (a b c : Nat) (w : World) (ha : 1 ≤ a) (ha' : a ≤ 31) (hb : 1 ≤ b) (hb' : b ≤ 31) (hc : 1 ≤ c) (hc' : c ≤ 31) :
    Calls Tryz.prog 198 #[.int .u32 (uv x), .int .i64 (a : Int), .int .i64 (b : Int), .int .i64 (c : Int)] w fun e w' => e = .returned (.int .u32 (uv (three x a b c))) ∧ w = w' := by
  have o1 := uv_xor (rotr x a) (rotr x b)
  have o2 := uv_xor (rotr x a ^^^ rotr x b) (rotr x c)
  go_enter Tryz.func198, Tryz.ntmps198
  go_wp2_with (go_at_call 200; first
    | ((with_reducible refine (rot_any x a (-(a : Int)) _ rfl ha ha').mono ?_); rintro e w' ⟨rfl, rfl⟩)
    | ((with_reducible refine (rot_any x b (-(b : Int)) _ rfl hb hb').mono ?_); rintro e w' ⟨rfl, rfl⟩)
    | ((with_reducible refine (rot_any x c (-(c : Int)) _ rfl hc hc').mono ?_); rintro e w' ⟨rfl, rfl⟩))
  go_ret
  exact ⟨rfl, rfl⟩

set_option maxHeartbeats 800000 in
theorem two_any (x : UInt32) (a b c : Nat) (w : World) (ha : 1 ≤ a) (ha' : a ≤ 31) (hb : 1 ≤ b) (hb' : b ≤ 31) (hc' : c ≤ 31) :
    Calls Tryz.prog 197 #[.int .u32 (uv x), .int .i64 (a : Int), .int .i64 (b : Int), .int .i64 (c : Int)] w fun e w' => e = .returned (.int .u32 (uv (two x a b c))) ∧ Below w.heap.size w w' := by
  have o1 := uv_xor (rotr x a) (rotr x b)
  have o2 := uv_xor (rotr x a ^^^ rotr x b) (x >>> UInt32.ofNat c)
  have s2 := uv_shr x c (by omega)
  have wa : IntKind.i64.wrap (-(a : Int)) = -(a : Int) := by rw [IntKind.wrap_i64]; omega
  have wb : IntKind.i64.wrap (-(b : Int)) = -(b : Int) := by rw [IntKind.wrap_i64]; omega
  go_enter Tryz.func197, Tryz.ntmps197
  go_wp2_with fail
  go_region_held3 (fun W => Below w.heap.size w W) (first | assumption | exact (Below.refl _ _).drew)
    ((go_at_call 200; first
    | ((with_reducible refine (rot_any x a (-(a : Int)) _ rfl ha ha').mono ?_); rintro e w' ⟨rfl, rfl⟩)
    | ((with_reducible refine (rot_any x b (-(b : Int)) _ rfl hb hb').mono ?_); rintro e w' ⟨rfl, rfl⟩)))
  go_wp2_with fail
  go_ret
  exact ⟨rfl, by assumption⟩
theorem two_a (x : UInt32) (w : World) : Calls Tryz.prog 197 #[.int .u32 (uv x), .int .i64 7, .int .i64 18, .int .i64 3] w fun e w' => e = .returned (.int .u32 (uv (two x 7 18 3))) ∧ Below w.heap.size w w' :=
  two_any x 7 18 3 w (by decide) (by decide) (by decide) (by decide) (by decide)
theorem two_b (x : UInt32) (w : World) : Calls Tryz.prog 197 #[.int .u32 (uv x), .int .i64 17, .int .i64 19, .int .i64 10] w fun e w' => e = .returned (.int .u32 (uv (two x 17 19 10))) ∧ Below w.heap.size w w' :=
  two_any x 17 19 10 w (by decide) (by decide) (by decide) (by decide) (by decide)
theorem three_a (x : UInt32) (w : World) : Calls Tryz.prog 198 #[.int .u32 (uv x), .int .i64 6, .int .i64 11, .int .i64 25] w fun e w' => e = .returned (.int .u32 (uv (three x 6 11 25))) ∧ w = w' :=
  three_any x 6 11 25 w (by decide) (by decide) (by decide) (by decide) (by decide) (by decide)
theorem three_b (x : UInt32) (w : World) : Calls Tryz.prog 198 #[.int .u32 (uv x), .int .i64 2, .int .i64 13, .int .i64 22] w fun e w' => e = .returned (.int .u32 (uv (three x 2 13 22))) ∧ w = w' :=
  three_any x 2 13 22 w (by decide) (by decide) (by decide) (by decide) (by decide) (by decide)
end Go.Proofs.YtdkcndgehgmadaaGreatDoor
-- Walks: shas.begin, shas.table.
open Go Go.RowKit Alm
namespace Go.Proofs.YtdkcndgehgmadaaGreatDoor
theorem info8 : (Tryz.prog.info? 249).map (·.size) = some 8 := by kernel_rfl
theorem info64 : (Tryz.prog.info? 233).map (·.size) = some 64 := by kernel_rfl
set_option maxHeartbeats 400000 in
theorem begin_any (w : World) : Calls Tryz.prog 192 #[] w fun e w' => e = .returned (.agg (cells32 begin8).toArray) ∧ Below w.heap.size w w' := by
  go_enter Tryz.func192, Tryz.ntmps192
  go_wp2_with fail
  exact bodyPost_ret (results_mid Tryz.results192 _ _ w.heap.size 0 (cells32 begin8) _ rfl (range_new _ _ _ _ rfl) Tryz.underlying249 rfl info8) rfl ⟨rfl, (Below.refl _ _).alloc (Nat.le_refl _) _⟩
set_option maxRecDepth 100000 in
set_option maxHeartbeats 1600000 in
theorem table_any (w : World) : Calls Tryz.prog 196 #[] w fun e w' => e = .returned (.agg (cells32 table).toArray) ∧ Below w.heap.size w w' := by
  have hl : (cells32 table).length = 64 := rfl
  have ho := oneCell_cells32 table
  have hz : (cells32 table).toArray.size = 64 := rfl
  go_enter Tryz.func196, Tryz.ntmps196
  have Hl := Lib.hid hl; clear hl
  have Hz := Lib.hid hz; clear hz
  go_wp2_with (first
    | (refine wpList_build_by rfl _ _ rfl (.agg (cells32 table).toArray) (fun _ => by kernel_rfl) ?_)
    | (refine wpList_store_mid rfl _ _ _ rfl w.heap.size 0 _ rfl rfl (by rw [Hz.out]; exact (Res.start w 64 _ _ rfl).there) (by rw [Hz.out]; exact info64) (all_oneCell_toArray ho) ?_))
  refine bodyPost_ret (results_mid Tryz.results196 _ _ w.heap.size 0 (cells32 table) _ rfl (range_stored _ _ _ _ (by rw [Hl.out]; exact ((Res.start w 64 _ _ rfl).store _).there)) Tryz.underlying233 rfl (by rw [Hl.out]; exact info64)) rfl ⟨rfl, ((Res.start w 64 _ _ rfl).store _).below⟩
end Go.Proofs.YtdkcndgehgmadaaGreatDoor
