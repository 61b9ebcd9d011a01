/-
  Walks: the kinds of lists of which a Book holds none (fill, grow, look).
-/
import Derived.Test.YtdkcndgehgmadaaGreatDoorZAX
import Derived.WalkMore
import Derived.Test.YtdkcndgehgmadaaGreatDoorW0
open Go Go.RowKit Alm
namespace Go.Proofs.YtdkcndgehgmadaaGreatDoor
set_option maxRecDepth 100000 in
theorem fillByte_nil (q n : Nat) (F : Nat → Value) (w : World) (hb : Book w q n F) (hF : F 1 = .slice none 0 0) : Calls Tryz.prog 72 #[.pointer (some ⟨q, 0, none⟩)] w fun e w' => e = .returned (.tuple #[]) ∧ w = w' := by
  have g : w.cell? ⟨q, 1, none⟩ = some (.slice none 0 0) := by rw [← hF]; exact hb.cs 1 (by omega) (by omega)
  clear hb hF
  go_enter Tryz.func72, Tryz.ntmps72
  go_wp2_with fail
  go_loopw [2] (fun iv W => iv = .int .i64 0 ∧ W = w) (fun _ _ => 0)
  case atStart => exact ⟨rfl, rfl⟩
  case round =>
    obtain ⟨rfl, rfl⟩ := hrel
    go_wp2_with fail
    exact bodyPost_end (results_none rfl _ _ _) rfl ⟨rfl, rfl⟩
set_option maxRecDepth 100000 in
theorem growByte_nil (q n : Nat) (F : Nat → Value) (w : World) (hb : Book w q n F) (hF : F 1 = .slice none 0 0) : Calls Tryz.prog 81 #[.pointer (some ⟨q, 0, none⟩)] w fun e w' => e = .returned (.tuple #[]) ∧ w = w' := by
  have g : w.cell? ⟨q, 1, none⟩ = some (.slice none 0 0) := by rw [← hF]; exact hb.cs 1 (by omega) (by omega)
  clear hb hF
  go_enter Tryz.func81, Tryz.ntmps81
  go_wp2_with fail
  go_loopw [2] (fun iv W => iv = .int .i64 0 ∧ W = w) (fun _ _ => 0)
  case atStart => exact ⟨rfl, rfl⟩
  case round =>
    obtain ⟨rfl, rfl⟩ := hrel
    go_wp2_with fail
    exact bodyPost_end (results_none rfl _ _ _) rfl ⟨rfl, rfl⟩
set_option maxRecDepth 100000 in
theorem lookByte_nil (q n : Nat) (F : Nat → Value) (w : World) (hb : Book w q n F) (hF : F 1 = .slice none 0 0) : Calls Tryz.prog 90 #[.pointer (some ⟨q, 0, none⟩)] w fun e w' => e = .returned (.bool true) ∧ w = w' := by
  have g : w.cell? ⟨q, 1, none⟩ = some (.slice none 0 0) := by rw [← hF]; exact hb.cs 1 (by omega) (by omega)
  clear hb hF
  go_enter Tryz.func90, Tryz.ntmps90
  go_wp2_with fail
  go_loopw [3] (fun iv W => iv = .int .i64 0 ∧ W = w) (fun _ _ => 0)
  case atStart => exact ⟨rfl, rfl⟩
  case round =>
    obtain ⟨rfl, rfl⟩ := hrel
    go_wp2_with fail
    exact bodyPost_ret (results_tmp rfl _ _ _) rfl ⟨rfl, rfl⟩
set_option maxRecDepth 100000 in
theorem fillInt_nil (q n : Nat) (F : Nat → Value) (w : World) (hb : Book w q n F) (hF : F 2 = .slice none 0 0) : Calls Tryz.prog 73 #[.pointer (some ⟨q, 0, none⟩)] w fun e w' => e = .returned (.tuple #[]) ∧ w = w' := by
  have g : w.cell? ⟨q, 2, none⟩ = some (.slice none 0 0) := by rw [← hF]; exact hb.cs 2 (by omega) (by omega)
  clear hb hF
  go_enter Tryz.func73, Tryz.ntmps73
  go_wp2_with fail
  go_loopw [2] (fun iv W => iv = .int .i64 0 ∧ W = w) (fun _ _ => 0)
  case atStart => exact ⟨rfl, rfl⟩
  case round =>
    obtain ⟨rfl, rfl⟩ := hrel
    go_wp2_with fail
    exact bodyPost_end (results_none rfl _ _ _) rfl ⟨rfl, rfl⟩
set_option maxRecDepth 100000 in
theorem growInt_nil (q n : Nat) (F : Nat → Value) (w : World) (hb : Book w q n F) (hF : F 2 = .slice none 0 0) : Calls Tryz.prog 82 #[.pointer (some ⟨q, 0, none⟩)] w fun e w' => e = .returned (.tuple #[]) ∧ w = w' := by
  have g : w.cell? ⟨q, 2, none⟩ = some (.slice none 0 0) := by rw [← hF]; exact hb.cs 2 (by omega) (by omega)
  clear hb hF
  go_enter Tryz.func82, Tryz.ntmps82
  go_wp2_with fail
  go_loopw [2] (fun iv W => iv = .int .i64 0 ∧ W = w) (fun _ _ => 0)
  case atStart => exact ⟨rfl, rfl⟩
  case round =>
    obtain ⟨rfl, rfl⟩ := hrel
    go_wp2_with fail
    exact bodyPost_end (results_none rfl _ _ _) rfl ⟨rfl, rfl⟩
set_option maxRecDepth 100000 in
theorem lookInt_nil (q n : Nat) (F : Nat → Value) (w : World) (hb : Book w q n F) (hF : F 2 = .slice none 0 0) : Calls Tryz.prog 91 #[.pointer (some ⟨q, 0, none⟩)] w fun e w' => e = .returned (.bool true) ∧ w = w' := by
  have g : w.cell? ⟨q, 2, none⟩ = some (.slice none 0 0) := by rw [← hF]; exact hb.cs 2 (by omega) (by omega)
  clear hb hF
  go_enter Tryz.func91, Tryz.ntmps91
  go_wp2_with fail
  go_loopw [3] (fun iv W => iv = .int .i64 0 ∧ W = w) (fun _ _ => 0)
  case atStart => exact ⟨rfl, rfl⟩
  case round =>
    obtain ⟨rfl, rfl⟩ := hrel
    go_wp2_with fail
    exact bodyPost_ret (results_tmp rfl _ _ _) rfl ⟨rfl, rfl⟩
set_option maxRecDepth 100000 in
theorem fillText_nil (q n : Nat) (F : Nat → Value) (w : World) (hb : Book w q n F) (hF : F 3 = .slice none 0 0) : Calls Tryz.prog 74 #[.pointer (some ⟨q, 0, none⟩)] w fun e w' => e = .returned (.tuple #[]) ∧ w = w' := by
  have g : w.cell? ⟨q, 3, none⟩ = some (.slice none 0 0) := by rw [← hF]; exact hb.cs 3 (by omega) (by omega)
  clear hb hF
  go_enter Tryz.func74, Tryz.ntmps74
  go_wp2_with fail
  go_loopw [2] (fun iv W => iv = .int .i64 0 ∧ W = w) (fun _ _ => 0)
  case atStart => exact ⟨rfl, rfl⟩
  case round =>
    obtain ⟨rfl, rfl⟩ := hrel
    go_wp2_with fail
    exact bodyPost_end (results_none rfl _ _ _) rfl ⟨rfl, rfl⟩
set_option maxRecDepth 100000 in
theorem growText_nil (q n : Nat) (F : Nat → Value) (w : World) (hb : Book w q n F) (hF : F 3 = .slice none 0 0) : Calls Tryz.prog 83 #[.pointer (some ⟨q, 0, none⟩)] w fun e w' => e = .returned (.tuple #[]) ∧ w = w' := by
  have g : w.cell? ⟨q, 3, none⟩ = some (.slice none 0 0) := by rw [← hF]; exact hb.cs 3 (by omega) (by omega)
  clear hb hF
  go_enter Tryz.func83, Tryz.ntmps83
  go_wp2_with fail
  go_loopw [2] (fun iv W => iv = .int .i64 0 ∧ W = w) (fun _ _ => 0)
  case atStart => exact ⟨rfl, rfl⟩
  case round =>
    obtain ⟨rfl, rfl⟩ := hrel
    go_wp2_with fail
    exact bodyPost_end (results_none rfl _ _ _) rfl ⟨rfl, rfl⟩
set_option maxRecDepth 100000 in
theorem lookText_nil (q n : Nat) (F : Nat → Value) (w : World) (hb : Book w q n F) (hF : F 3 = .slice none 0 0) : Calls Tryz.prog 92 #[.pointer (some ⟨q, 0, none⟩)] w fun e w' => e = .returned (.bool true) ∧ w = w' := by
  have g : w.cell? ⟨q, 3, none⟩ = some (.slice none 0 0) := by rw [← hF]; exact hb.cs 3 (by omega) (by omega)
  clear hb hF
  go_enter Tryz.func92, Tryz.ntmps92
  go_wp2_with fail
  go_loopw [3] (fun iv W => iv = .int .i64 0 ∧ W = w) (fun _ _ => 0)
  case atStart => exact ⟨rfl, rfl⟩
  case round =>
    obtain ⟨rfl, rfl⟩ := hrel
    go_wp2_with fail
    exact bodyPost_ret (results_tmp rfl _ _ _) rfl ⟨rfl, rfl⟩
set_option maxRecDepth 100000 in
theorem fillByteList_nil (q n : Nat) (F : Nat → Value) (w : World) (hb : Book w q n F) (hF : F 4 = .slice none 0 0) : Calls Tryz.prog 75 #[.pointer (some ⟨q, 0, none⟩)] w fun e w' => e = .returned (.tuple #[]) ∧ w = w' := by
  have g : w.cell? ⟨q, 4, none⟩ = some (.slice none 0 0) := by rw [← hF]; exact hb.cs 4 (by omega) (by omega)
  clear hb hF
  go_enter Tryz.func75, Tryz.ntmps75
  go_wp2_with fail
  go_loopw [2] (fun iv W => iv = .int .i64 0 ∧ W = w) (fun _ _ => 0)
  case atStart => exact ⟨rfl, rfl⟩
  case round =>
    obtain ⟨rfl, rfl⟩ := hrel
    go_wp2_with fail
    exact bodyPost_end (results_none rfl _ _ _) rfl ⟨rfl, rfl⟩
set_option maxRecDepth 100000 in
theorem growByteList_nil (q n : Nat) (F : Nat → Value) (w : World) (hb : Book w q n F) (hF : F 4 = .slice none 0 0) : Calls Tryz.prog 84 #[.pointer (some ⟨q, 0, none⟩)] w fun e w' => e = .returned (.tuple #[]) ∧ w = w' := by
  have g : w.cell? ⟨q, 4, none⟩ = some (.slice none 0 0) := by rw [← hF]; exact hb.cs 4 (by omega) (by omega)
  clear hb hF
  go_enter Tryz.func84, Tryz.ntmps84
  go_wp2_with fail
  go_loopw [2] (fun iv W => iv = .int .i64 0 ∧ W = w) (fun _ _ => 0)
  case atStart => exact ⟨rfl, rfl⟩
  case round =>
    obtain ⟨rfl, rfl⟩ := hrel
    go_wp2_with fail
    exact bodyPost_end (results_none rfl _ _ _) rfl ⟨rfl, rfl⟩
set_option maxRecDepth 100000 in
theorem lookByteList_nil (q n : Nat) (F : Nat → Value) (w : World) (hb : Book w q n F) (hF : F 4 = .slice none 0 0) : Calls Tryz.prog 93 #[.pointer (some ⟨q, 0, none⟩)] w fun e w' => e = .returned (.bool true) ∧ w = w' := by
  have g : w.cell? ⟨q, 4, none⟩ = some (.slice none 0 0) := by rw [← hF]; exact hb.cs 4 (by omega) (by omega)
  clear hb hF
  go_enter Tryz.func93, Tryz.ntmps93
  go_wp2_with fail
  go_loopw [3] (fun iv W => iv = .int .i64 0 ∧ W = w) (fun _ _ => 0)
  case atStart => exact ⟨rfl, rfl⟩
  case round =>
    obtain ⟨rfl, rfl⟩ := hrel
    go_wp2_with fail
    exact bodyPost_ret (results_tmp rfl _ _ _) rfl ⟨rfl, rfl⟩
set_option maxRecDepth 100000 in
theorem fillSum_nil (q n : Nat) (F : Nat → Value) (w : World) (hb : Book w q n F) (hF : F 5 = .slice none 0 0) : Calls Tryz.prog 76 #[.pointer (some ⟨q, 0, none⟩)] w fun e w' => e = .returned (.tuple #[]) ∧ w = w' := by
  have g : w.cell? ⟨q, 5, none⟩ = some (.slice none 0 0) := by rw [← hF]; exact hb.cs 5 (by omega) (by omega)
  clear hb hF
  go_enter Tryz.func76, Tryz.ntmps76
  go_wp2_with fail
  go_loopw [2] (fun iv W => iv = .int .i64 0 ∧ W = w) (fun _ _ => 0)
  case atStart => exact ⟨rfl, rfl⟩
  case round =>
    obtain ⟨rfl, rfl⟩ := hrel
    go_wp2_with fail
    exact bodyPost_end (results_none rfl _ _ _) rfl ⟨rfl, rfl⟩
set_option maxRecDepth 100000 in
theorem growSum_nil (q n : Nat) (F : Nat → Value) (w : World) (hb : Book w q n F) (hF : F 5 = .slice none 0 0) : Calls Tryz.prog 85 #[.pointer (some ⟨q, 0, none⟩)] w fun e w' => e = .returned (.tuple #[]) ∧ w = w' := by
  have g : w.cell? ⟨q, 5, none⟩ = some (.slice none 0 0) := by rw [← hF]; exact hb.cs 5 (by omega) (by omega)
  clear hb hF
  go_enter Tryz.func85, Tryz.ntmps85
  go_wp2_with fail
  go_loopw [2] (fun iv W => iv = .int .i64 0 ∧ W = w) (fun _ _ => 0)
  case atStart => exact ⟨rfl, rfl⟩
  case round =>
    obtain ⟨rfl, rfl⟩ := hrel
    go_wp2_with fail
    exact bodyPost_end (results_none rfl _ _ _) rfl ⟨rfl, rfl⟩
set_option maxRecDepth 100000 in
theorem lookSum_nil (q n : Nat) (F : Nat → Value) (w : World) (hb : Book w q n F) (hF : F 5 = .slice none 0 0) : Calls Tryz.prog 94 #[.pointer (some ⟨q, 0, none⟩)] w fun e w' => e = .returned (.bool true) ∧ w = w' := by
  have g : w.cell? ⟨q, 5, none⟩ = some (.slice none 0 0) := by rw [← hF]; exact hb.cs 5 (by omega) (by omega)
  clear hb hF
  go_enter Tryz.func94, Tryz.ntmps94
  go_wp2_with fail
  go_loopw [3] (fun iv W => iv = .int .i64 0 ∧ W = w) (fun _ _ => 0)
  case atStart => exact ⟨rfl, rfl⟩
  case round =>
    obtain ⟨rfl, rfl⟩ := hrel
    go_wp2_with fail
    exact bodyPost_ret (results_tmp rfl _ _ _) rfl ⟨rfl, rfl⟩
set_option maxRecDepth 100000 in
theorem fillPair_nil (q n : Nat) (F : Nat → Value) (w : World) (hb : Book w q n F) (hF : F 6 = .slice none 0 0) : Calls Tryz.prog 77 #[.pointer (some ⟨q, 0, none⟩)] w fun e w' => e = .returned (.tuple #[]) ∧ w = w' := by
  have g : w.cell? ⟨q, 6, none⟩ = some (.slice none 0 0) := by rw [← hF]; exact hb.cs 6 (by omega) (by omega)
  clear hb hF
  go_enter Tryz.func77, Tryz.ntmps77
  go_wp2_with fail
  go_loopw [2] (fun iv W => iv = .int .i64 0 ∧ W = w) (fun _ _ => 0)
  case atStart => exact ⟨rfl, rfl⟩
  case round =>
    obtain ⟨rfl, rfl⟩ := hrel
    go_wp2_with fail
    exact bodyPost_end (results_none rfl _ _ _) rfl ⟨rfl, rfl⟩
set_option maxRecDepth 100000 in
theorem growPair_nil (q n : Nat) (F : Nat → Value) (w : World) (hb : Book w q n F) (hF : F 6 = .slice none 0 0) : Calls Tryz.prog 86 #[.pointer (some ⟨q, 0, none⟩)] w fun e w' => e = .returned (.tuple #[]) ∧ w = w' := by
  have g : w.cell? ⟨q, 6, none⟩ = some (.slice none 0 0) := by rw [← hF]; exact hb.cs 6 (by omega) (by omega)
  clear hb hF
  go_enter Tryz.func86, Tryz.ntmps86
  go_wp2_with fail
  go_loopw [2] (fun iv W => iv = .int .i64 0 ∧ W = w) (fun _ _ => 0)
  case atStart => exact ⟨rfl, rfl⟩
  case round =>
    obtain ⟨rfl, rfl⟩ := hrel
    go_wp2_with fail
    exact bodyPost_end (results_none rfl _ _ _) rfl ⟨rfl, rfl⟩
set_option maxRecDepth 100000 in
theorem lookPair_nil (q n : Nat) (F : Nat → Value) (w : World) (hb : Book w q n F) (hF : F 6 = .slice none 0 0) : Calls Tryz.prog 95 #[.pointer (some ⟨q, 0, none⟩)] w fun e w' => e = .returned (.bool true) ∧ w = w' := by
  have g : w.cell? ⟨q, 6, none⟩ = some (.slice none 0 0) := by rw [← hF]; exact hb.cs 6 (by omega) (by omega)
  clear hb hF
  go_enter Tryz.func95, Tryz.ntmps95
  go_wp2_with fail
  go_loopw [3] (fun iv W => iv = .int .i64 0 ∧ W = w) (fun _ _ => 0)
  case atStart => exact ⟨rfl, rfl⟩
  case round =>
    obtain ⟨rfl, rfl⟩ := hrel
    go_wp2_with fail
    exact bodyPost_ret (results_tmp rfl _ _ _) rfl ⟨rfl, rfl⟩
set_option maxRecDepth 100000 in
theorem fillTenant_nil (q n : Nat) (F : Nat → Value) (w : World) (hb : Book w q n F) (hF : F 7 = .slice none 0 0) : Calls Tryz.prog 78 #[.pointer (some ⟨q, 0, none⟩)] w fun e w' => e = .returned (.tuple #[]) ∧ w = w' := by
  have g : w.cell? ⟨q, 7, none⟩ = some (.slice none 0 0) := by rw [← hF]; exact hb.cs 7 (by omega) (by omega)
  clear hb hF
  go_enter Tryz.func78, Tryz.ntmps78
  go_wp2_with fail
  go_loopw [2] (fun iv W => iv = .int .i64 0 ∧ W = w) (fun _ _ => 0)
  case atStart => exact ⟨rfl, rfl⟩
  case round =>
    obtain ⟨rfl, rfl⟩ := hrel
    go_wp2_with fail
    exact bodyPost_end (results_none rfl _ _ _) rfl ⟨rfl, rfl⟩
set_option maxRecDepth 100000 in
theorem growTenant_nil (q n : Nat) (F : Nat → Value) (w : World) (hb : Book w q n F) (hF : F 7 = .slice none 0 0) : Calls Tryz.prog 87 #[.pointer (some ⟨q, 0, none⟩)] w fun e w' => e = .returned (.tuple #[]) ∧ w = w' := by
  have g : w.cell? ⟨q, 7, none⟩ = some (.slice none 0 0) := by rw [← hF]; exact hb.cs 7 (by omega) (by omega)
  clear hb hF
  go_enter Tryz.func87, Tryz.ntmps87
  go_wp2_with fail
  go_loopw [2] (fun iv W => iv = .int .i64 0 ∧ W = w) (fun _ _ => 0)
  case atStart => exact ⟨rfl, rfl⟩
  case round =>
    obtain ⟨rfl, rfl⟩ := hrel
    go_wp2_with fail
    exact bodyPost_end (results_none rfl _ _ _) rfl ⟨rfl, rfl⟩
set_option maxRecDepth 100000 in
theorem lookTenant_nil (q n : Nat) (F : Nat → Value) (w : World) (hb : Book w q n F) (hF : F 7 = .slice none 0 0) : Calls Tryz.prog 96 #[.pointer (some ⟨q, 0, none⟩)] w fun e w' => e = .returned (.bool true) ∧ w = w' := by
  have g : w.cell? ⟨q, 7, none⟩ = some (.slice none 0 0) := by rw [← hF]; exact hb.cs 7 (by omega) (by omega)
  clear hb hF
  go_enter Tryz.func96, Tryz.ntmps96
  go_wp2_with fail
  go_loopw [3] (fun iv W => iv = .int .i64 0 ∧ W = w) (fun _ _ => 0)
  case atStart => exact ⟨rfl, rfl⟩
  case round =>
    obtain ⟨rfl, rfl⟩ := hrel
    go_wp2_with fail
    exact bodyPost_ret (results_tmp rfl _ _ _) rfl ⟨rfl, rfl⟩
set_option maxRecDepth 100000 in
theorem fillLease_nil (q n : Nat) (F : Nat → Value) (w : World) (hb : Book w q n F) (hF : F 8 = .slice none 0 0) : Calls Tryz.prog 79 #[.pointer (some ⟨q, 0, none⟩)] w fun e w' => e = .returned (.tuple #[]) ∧ w = w' := by
  have g : w.cell? ⟨q, 8, none⟩ = some (.slice none 0 0) := by rw [← hF]; exact hb.cs 8 (by omega) (by omega)
  clear hb hF
  go_enter Tryz.func79, Tryz.ntmps79
  go_wp2_with fail
  go_loopw [2] (fun iv W => iv = .int .i64 0 ∧ W = w) (fun _ _ => 0)
  case atStart => exact ⟨rfl, rfl⟩
  case round =>
    obtain ⟨rfl, rfl⟩ := hrel
    go_wp2_with fail
    exact bodyPost_end (results_none rfl _ _ _) rfl ⟨rfl, rfl⟩
set_option maxRecDepth 100000 in
theorem growLease_nil (q n : Nat) (F : Nat → Value) (w : World) (hb : Book w q n F) (hF : F 8 = .slice none 0 0) : Calls Tryz.prog 88 #[.pointer (some ⟨q, 0, none⟩)] w fun e w' => e = .returned (.tuple #[]) ∧ w = w' := by
  have g : w.cell? ⟨q, 8, none⟩ = some (.slice none 0 0) := by rw [← hF]; exact hb.cs 8 (by omega) (by omega)
  clear hb hF
  go_enter Tryz.func88, Tryz.ntmps88
  go_wp2_with fail
  go_loopw [2] (fun iv W => iv = .int .i64 0 ∧ W = w) (fun _ _ => 0)
  case atStart => exact ⟨rfl, rfl⟩
  case round =>
    obtain ⟨rfl, rfl⟩ := hrel
    go_wp2_with fail
    exact bodyPost_end (results_none rfl _ _ _) rfl ⟨rfl, rfl⟩
set_option maxRecDepth 100000 in
theorem lookLease_nil (q n : Nat) (F : Nat → Value) (w : World) (hb : Book w q n F) (hF : F 8 = .slice none 0 0) : Calls Tryz.prog 97 #[.pointer (some ⟨q, 0, none⟩)] w fun e w' => e = .returned (.bool true) ∧ w = w' := by
  have g : w.cell? ⟨q, 8, none⟩ = some (.slice none 0 0) := by rw [← hF]; exact hb.cs 8 (by omega) (by omega)
  clear hb hF
  go_enter Tryz.func97, Tryz.ntmps97
  go_wp2_with fail
  go_loopw [3] (fun iv W => iv = .int .i64 0 ∧ W = w) (fun _ _ => 0)
  case atStart => exact ⟨rfl, rfl⟩
  case round =>
    obtain ⟨rfl, rfl⟩ := hrel
    go_wp2_with fail
    exact bodyPost_ret (results_tmp rfl _ _ _) rfl ⟨rfl, rfl⟩
set_option maxRecDepth 100000 in
theorem fillEvent_nil (q n : Nat) (F : Nat → Value) (w : World) (hb : Book w q n F) (hF : F 9 = .slice none 0 0) : Calls Tryz.prog 80 #[.pointer (some ⟨q, 0, none⟩)] w fun e w' => e = .returned (.tuple #[]) ∧ w = w' := by
  have g : w.cell? ⟨q, 9, none⟩ = some (.slice none 0 0) := by rw [← hF]; exact hb.cs 9 (by omega) (by omega)
  clear hb hF
  go_enter Tryz.func80, Tryz.ntmps80
  go_wp2_with fail
  go_loopw [2] (fun iv W => iv = .int .i64 0 ∧ W = w) (fun _ _ => 0)
  case atStart => exact ⟨rfl, rfl⟩
  case round =>
    obtain ⟨rfl, rfl⟩ := hrel
    go_wp2_with fail
    exact bodyPost_end (results_none rfl _ _ _) rfl ⟨rfl, rfl⟩
set_option maxRecDepth 100000 in
theorem growEvent_nil (q n : Nat) (F : Nat → Value) (w : World) (hb : Book w q n F) (hF : F 9 = .slice none 0 0) : Calls Tryz.prog 89 #[.pointer (some ⟨q, 0, none⟩)] w fun e w' => e = .returned (.tuple #[]) ∧ w = w' := by
  have g : w.cell? ⟨q, 9, none⟩ = some (.slice none 0 0) := by rw [← hF]; exact hb.cs 9 (by omega) (by omega)
  clear hb hF
  go_enter Tryz.func89, Tryz.ntmps89
  go_wp2_with fail
  go_loopw [2] (fun iv W => iv = .int .i64 0 ∧ W = w) (fun _ _ => 0)
  case atStart => exact ⟨rfl, rfl⟩
  case round =>
    obtain ⟨rfl, rfl⟩ := hrel
    go_wp2_with fail
    exact bodyPost_end (results_none rfl _ _ _) rfl ⟨rfl, rfl⟩
set_option maxRecDepth 100000 in
theorem lookEvent_nil (q n : Nat) (F : Nat → Value) (w : World) (hb : Book w q n F) (hF : F 9 = .slice none 0 0) : Calls Tryz.prog 98 #[.pointer (some ⟨q, 0, none⟩)] w fun e w' => e = .returned (.bool true) ∧ w = w' := by
  have g : w.cell? ⟨q, 9, none⟩ = some (.slice none 0 0) := by rw [← hF]; exact hb.cs 9 (by omega) (by omega)
  clear hb hF
  go_enter Tryz.func98, Tryz.ntmps98
  go_wp2_with fail
  go_loopw [3] (fun iv W => iv = .int .i64 0 ∧ W = w) (fun _ _ => 0)
  case atStart => exact ⟨rfl, rfl⟩
  case round =>
    obtain ⟨rfl, rfl⟩ := hrel
    go_wp2_with fail
    exact bodyPost_ret (results_tmp rfl _ _ _) rfl ⟨rfl, rfl⟩
end Go.Proofs.YtdkcndgehgmadaaGreatDoor
