/-
  The seat's own words for sums: loads, stores, results of type api.Sum; calls of the library's bits.
-/
import Derived.Test.YtdkcndgehgmadaaGreatDoorShelf
import Derived.Test.YtdkcndgehgmadaaGreatDoorProg
import Derived.Test.YtdkcndgehgmadaaGreatDoorBase
import Derived.Test.YtdkcndgehgmadaaGreatDoorMerkle
open Go Go.RowKit Alm
namespace Go.Proofs.YtdkcndgehgmadaaGreatDoor
theorem infoSum : (Tryz.prog.info? 24).map (·.size) = some 32 := by kernel_rfl

theorem wpList_load_sum {ops : Array Oper} {rest : List Oper} {op : Oper} {a : Act} {w : World} {Q : Exit → Act → World → Prop} (hgd : op.guard = none) (x : Operand) (ho : op.op = .load 24 x)
    (b o : Nat) (hx : a.eval x = .pointer (some ⟨b, o, none⟩)) (s : Sum) (hc : w.rangeAt b o (cellsOf s))
    (h : wpList Tryz.prog ops Q rest (a.put op.dst (sv s)) w) : wpList Tryz.prog ops Q (op :: rest) a w :=
  wpList_load_mid hgd _ x ho b o hx (cellsOf s) _ hc Tryz.underlying24 rfl (by rw [length_cellsOf]; exact infoSum) h

theorem wpList_store_sum {ops : Array Oper} {rest : List Oper} {op : Oper} {a : Act} {w : World} {Q : Exit → Act → World → Prop} (hgd : op.guard = none) (x y : Operand) (ho : op.op = .store 24 x y)
    (b o : Nat) (s : Sum) (hx : a.eval x = .pointer (some ⟨b, o, none⟩)) (hy : a.eval y = sv s) (ht : w.there b o 32)
    (h : wpList Tryz.prog ops Q rest (a.put op.dst undef) (w.setCells b o (cellsOf s))) : wpList Tryz.prog ops Q (op :: rest) a w :=
  wpList_store_mid hgd _ x y ho b o _ hx hy (by rw [size_cellsOf]; exact ht) (by rw [size_cellsOf]; exact infoSum) (all_cellsOf s) h

theorem results_sum {fn : Func} {p : Tmp} (h : fn.results = #[.cell p 24]) (tmps : Array Value) (w : World) (b : Nat) (s : Sum)
    (hp : tmps.getD p undef = .pointer (some ⟨b, 0, none⟩)) (ht : (w.setCells b 0 (cellsOf s)).there b 0 32) :
    (results fn tmps).run Tryz.prog (w.setCells b 0 (cellsOf s)) = .ok (sv s) (w.setCells b 0 (cellsOf s)) :=
  results_mid h tmps _ b 0 _ _ hp (range_stored _ _ _ _ (by rw [length_cellsOf]; exact ht)) Tryz.underlying24 rfl (by rw [length_cellsOf]; exact infoSum)

theorem results_sum_at {fn : Func} {p : Tmp} (h : fn.results = #[.cell p 24]) (tmps : Array Value) (w : World) (b : Nat) (s : Sum)
    (hp : tmps.getD p undef = .pointer (some ⟨b, 0, none⟩)) (hr : w.rangeAt b 0 (cellsOf s)) :
    (results fn tmps).run Tryz.prog w = .ok (sv s) w :=
  results_mid h tmps _ b 0 _ _ hp hr Tryz.underlying24 rfl (by rw [length_cellsOf]; exact infoSum)

/-! ### The library's bits -/
theorem bitLenAux_log2 : ∀ (f x : Nat), x < 2 ^ f → x ≠ 0 → Lib.bitLenAux f x = x.log2 + 1 := by
  intro f
  induction f with
  | zero => intro x h h0; simp at h; exact (h0 h).elim
  | succ f ih =>
    intro x h h0
    rw [Lib.bitLenAux, if_neg h0, Nat.log2_def]
    by_cases h1 : x < 2
    · have : x / 2 = 0 := by omega
      rw [this, if_neg (by omega)]; cases f <;> simp [Lib.bitLenAux]
    · rw [if_pos (by omega), ih (x / 2) (by rw [Nat.pow_succ] at h; omega) (by omega)]; omega
theorem bitLen_log2 (x : Nat) (h : x < 18446744073709551616) (h0 : x ≠ 0) : Lib.bitLen x = x.log2 + 1 := bitLenAux_log2 64 x h h0
theorem len64_pos (x : Int) (w : World) (h0 : 1 ≤ x) (h1 : x ≤ 18446744073709551615) :
    Calls Tryz.prog 151 #[.int .u64 x] w fun e w' => e = .returned (.int .i64 ((x.toNat.log2 : Int) + 1)) ∧ w' = w :=
  (Tryz.bits_Len64 x w (by omega) h1).mono fun e w' ⟨he, hw⟩ => ⟨by rw [he, bitLen_log2 _ (by omega) (by omega)]; rfl, hw⟩
theorem len_pos (x : Int) (w : World) (h0 : 1 ≤ x) (h1 : x ≤ 18446744073709551615) :
    Calls Tryz.prog 153 #[.int .u64 x] w fun e w' => e = .returned (.int .i64 ((x.toNat.log2 : Int) + 1)) ∧ w' = w :=
  (Tryz.bits_Len x w (by omega) h1).mono fun e w' ⟨he, hw⟩ => ⟨by rw [he, bitLen_log2 _ (by omega) (by omega)]; rfl, hw⟩
end Go.Proofs.YtdkcndgehgmadaaGreatDoor
