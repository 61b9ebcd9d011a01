/-
  Walks: shas.begin, shas.table.
-/
import Derived.Test.YtfmgoehnbaiamaaW1
import Derived.KernelRfl
open Go Go.RowKit Alm
namespace Go.Proofs.Ytfmgoehnbaiamaa
theorem info8 : (Try.prog.info? 143).map (·.size) = some 8 := by kernel_rfl
theorem info64 : (Try.prog.info? 157).map (·.size) = some 64 := by kernel_rfl
set_option maxHeartbeats 400000 in
theorem begin_any (w : World) : Calls Try.prog 102 #[] w fun e w' => e = .returned (.agg (cells32 begin8).toArray) ∧ Below w.heap.size w w' := by
  go_enter Try.func102, Try.ntmps102
  go_wp2_with fail
  exact bodyPost_ret (results_mid Try.results102 _ _ w.heap.size 0 (cells32 begin8) _ rfl (range_new _ _ _ _ rfl) Try.underlying143 rfl info8) rfl ⟨rfl, (Below.refl _ _).alloc (Nat.le_refl _) _⟩
set_option maxRecDepth 100000 in
set_option maxHeartbeats 1600000 in
theorem table_any (w : World) : Calls Try.prog 111 #[] w fun e w' => e = .returned (.agg (cells32 table).toArray) ∧ Below w.heap.size w w' := by
  have hl : (cells32 table).length = 64 := rfl
  have ho := oneCell_cells32 table
  have hz : (cells32 table).toArray.size = 64 := rfl
  go_enter Try.func111, Try.ntmps111
  have Hl := Lib.hid hl; clear hl
  have Hz := Lib.hid hz; clear hz
  go_wp2_with (first
    | (refine wpList_build_by rfl _ _ rfl (.agg (cells32 table).toArray) (fun _ => by kernel_rfl) ?_)
    | (refine wpList_store_mid rfl _ _ _ rfl w.heap.size 0 _ rfl rfl (by rw [Hz.out]; exact (Res.start w 64 _ _ rfl).there) (by rw [Hz.out]; exact info64) (all_oneCell_toArray ho) ?_))
  refine bodyPost_ret (results_mid Try.results111 _ _ w.heap.size 0 (cells32 table) _ rfl (range_stored _ _ _ _ (by rw [Hl.out]; exact ((Res.start w 64 _ _ rfl).store _).there)) Try.underlying157 rfl (by rw [Hl.out]; exact info64)) rfl ⟨rfl, ((Res.start w 64 _ _ rfl).store _).below⟩
end Go.Proofs.Ytfmgoehnbaiamaa
