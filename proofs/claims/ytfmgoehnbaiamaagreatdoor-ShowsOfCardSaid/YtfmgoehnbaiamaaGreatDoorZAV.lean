/-
  Joined: BL7, BL8, U0.
-/
import Derived.Test.YtfmgoehnbaiamaaGreatDoorZAR
import Derived.WalkMore
import Derived.Test.YtfmgoehnbaiamaaGreatDoorW0
import Derived.Test.YtfmgoehnbaiamaaGreatDoorBL6
import Derived.Test.YtfmgoehnbaiamaaGreatDoorZAP
import Derived.Test.YtfmgoehnbaiamaaGreatDoorZAJ
import Derived.Test.YtfmgoehnbaiamaaGreatDoorZAO
import Derived.Deep.AppendLies
import Derived.Great.BuildSlice
-- Walks: the kinds of lists of which a Book holds none (fill, grow, look).
open Go Go.RowKit Alm
namespace Go.Proofs.YtfmgoehnbaiamaaGreatDoor
set_option maxRecDepth 100000 in
theorem fillInt_nil (q n : Nat) (F : Nat → Value) (w : World) (hb : Book w q n F) (hF : F 2 = .slice none 0 0) : Calls Tryz.prog 68 #[.pointer (some ⟨q, 0, none⟩)] w fun e w' => e = .returned (.tuple #[]) ∧ w = w' := by
  have g : w.cell? ⟨q, 2, none⟩ = some (.slice none 0 0) := by rw [← hF]; exact hb.cs 2 (by omega) (by omega)
  clear hb hF
  go_enter Tryz.func68, Tryz.ntmps68
  go_wp2_with fail
  go_loopw [2] (fun iv W => iv = .int .i64 0 ∧ W = w) (fun _ _ => 0)
  case atStart => exact ⟨rfl, rfl⟩
  case round =>
    obtain ⟨rfl, rfl⟩ := hrel
    go_wp2_with fail
    exact bodyPost_end (results_none rfl _ _ _) rfl ⟨rfl, rfl⟩
set_option maxRecDepth 100000 in
theorem growInt_nil (q n : Nat) (F : Nat → Value) (w : World) (hb : Book w q n F) (hF : F 2 = .slice none 0 0) : Calls Tryz.prog 77 #[.pointer (some ⟨q, 0, none⟩)] w fun e w' => e = .returned (.tuple #[]) ∧ w = w' := by
  have g : w.cell? ⟨q, 2, none⟩ = some (.slice none 0 0) := by rw [← hF]; exact hb.cs 2 (by omega) (by omega)
  clear hb hF
  go_enter Tryz.func77, Tryz.ntmps77
  go_wp2_with fail
  go_loopw [2] (fun iv W => iv = .int .i64 0 ∧ W = w) (fun _ _ => 0)
  case atStart => exact ⟨rfl, rfl⟩
  case round =>
    obtain ⟨rfl, rfl⟩ := hrel
    go_wp2_with fail
    exact bodyPost_end (results_none rfl _ _ _) rfl ⟨rfl, rfl⟩
set_option maxRecDepth 100000 in
theorem lookInt_nil (q n : Nat) (F : Nat → Value) (w : World) (hb : Book w q n F) (hF : F 2 = .slice none 0 0) : Calls Tryz.prog 86 #[.pointer (some ⟨q, 0, none⟩)] w fun e w' => e = .returned (.bool true) ∧ w = w' := by
  have g : w.cell? ⟨q, 2, none⟩ = some (.slice none 0 0) := by rw [← hF]; exact hb.cs 2 (by omega) (by omega)
  clear hb hF
  go_enter Tryz.func86, Tryz.ntmps86
  go_wp2_with fail
  go_loopw [3] (fun iv W => iv = .int .i64 0 ∧ W = w) (fun _ _ => 0)
  case atStart => exact ⟨rfl, rfl⟩
  case round =>
    obtain ⟨rfl, rfl⟩ := hrel
    go_wp2_with fail
    exact bodyPost_ret (results_tmp rfl _ _ _) rfl ⟨rfl, rfl⟩
set_option maxRecDepth 100000 in
theorem fillText_nil (q n : Nat) (F : Nat → Value) (w : World) (hb : Book w q n F) (hF : F 3 = .slice none 0 0) : Calls Tryz.prog 69 #[.pointer (some ⟨q, 0, none⟩)] w fun e w' => e = .returned (.tuple #[]) ∧ w = w' := by
  have g : w.cell? ⟨q, 3, none⟩ = some (.slice none 0 0) := by rw [← hF]; exact hb.cs 3 (by omega) (by omega)
  clear hb hF
  go_enter Tryz.func69, Tryz.ntmps69
  go_wp2_with fail
  go_loopw [2] (fun iv W => iv = .int .i64 0 ∧ W = w) (fun _ _ => 0)
  case atStart => exact ⟨rfl, rfl⟩
  case round =>
    obtain ⟨rfl, rfl⟩ := hrel
    go_wp2_with fail
    exact bodyPost_end (results_none rfl _ _ _) rfl ⟨rfl, rfl⟩
set_option maxRecDepth 100000 in
theorem growText_nil (q n : Nat) (F : Nat → Value) (w : World) (hb : Book w q n F) (hF : F 3 = .slice none 0 0) : Calls Tryz.prog 78 #[.pointer (some ⟨q, 0, none⟩)] w fun e w' => e = .returned (.tuple #[]) ∧ w = w' := by
  have g : w.cell? ⟨q, 3, none⟩ = some (.slice none 0 0) := by rw [← hF]; exact hb.cs 3 (by omega) (by omega)
  clear hb hF
  go_enter Tryz.func78, Tryz.ntmps78
  go_wp2_with fail
  go_loopw [2] (fun iv W => iv = .int .i64 0 ∧ W = w) (fun _ _ => 0)
  case atStart => exact ⟨rfl, rfl⟩
  case round =>
    obtain ⟨rfl, rfl⟩ := hrel
    go_wp2_with fail
    exact bodyPost_end (results_none rfl _ _ _) rfl ⟨rfl, rfl⟩
set_option maxRecDepth 100000 in
theorem lookText_nil (q n : Nat) (F : Nat → Value) (w : World) (hb : Book w q n F) (hF : F 3 = .slice none 0 0) : Calls Tryz.prog 87 #[.pointer (some ⟨q, 0, none⟩)] w fun e w' => e = .returned (.bool true) ∧ w = w' := by
  have g : w.cell? ⟨q, 3, none⟩ = some (.slice none 0 0) := by rw [← hF]; exact hb.cs 3 (by omega) (by omega)
  clear hb hF
  go_enter Tryz.func87, Tryz.ntmps87
  go_wp2_with fail
  go_loopw [3] (fun iv W => iv = .int .i64 0 ∧ W = w) (fun _ _ => 0)
  case atStart => exact ⟨rfl, rfl⟩
  case round =>
    obtain ⟨rfl, rfl⟩ := hrel
    go_wp2_with fail
    exact bodyPost_ret (results_tmp rfl _ _ _) rfl ⟨rfl, rfl⟩
set_option maxRecDepth 100000 in
theorem fillByteList_nil (q n : Nat) (F : Nat → Value) (w : World) (hb : Book w q n F) (hF : F 4 = .slice none 0 0) : Calls Tryz.prog 70 #[.pointer (some ⟨q, 0, none⟩)] w fun e w' => e = .returned (.tuple #[]) ∧ w = w' := by
  have g : w.cell? ⟨q, 4, none⟩ = some (.slice none 0 0) := by rw [← hF]; exact hb.cs 4 (by omega) (by omega)
  clear hb hF
  go_enter Tryz.func70, Tryz.ntmps70
  go_wp2_with fail
  go_loopw [2] (fun iv W => iv = .int .i64 0 ∧ W = w) (fun _ _ => 0)
  case atStart => exact ⟨rfl, rfl⟩
  case round =>
    obtain ⟨rfl, rfl⟩ := hrel
    go_wp2_with fail
    exact bodyPost_end (results_none rfl _ _ _) rfl ⟨rfl, rfl⟩
set_option maxRecDepth 100000 in
theorem growByteList_nil (q n : Nat) (F : Nat → Value) (w : World) (hb : Book w q n F) (hF : F 4 = .slice none 0 0) : Calls Tryz.prog 79 #[.pointer (some ⟨q, 0, none⟩)] w fun e w' => e = .returned (.tuple #[]) ∧ w = w' := by
  have g : w.cell? ⟨q, 4, none⟩ = some (.slice none 0 0) := by rw [← hF]; exact hb.cs 4 (by omega) (by omega)
  clear hb hF
  go_enter Tryz.func79, Tryz.ntmps79
  go_wp2_with fail
  go_loopw [2] (fun iv W => iv = .int .i64 0 ∧ W = w) (fun _ _ => 0)
  case atStart => exact ⟨rfl, rfl⟩
  case round =>
    obtain ⟨rfl, rfl⟩ := hrel
    go_wp2_with fail
    exact bodyPost_end (results_none rfl _ _ _) rfl ⟨rfl, rfl⟩
set_option maxRecDepth 100000 in
theorem lookByteList_nil (q n : Nat) (F : Nat → Value) (w : World) (hb : Book w q n F) (hF : F 4 = .slice none 0 0) : Calls Tryz.prog 88 #[.pointer (some ⟨q, 0, none⟩)] w fun e w' => e = .returned (.bool true) ∧ w = w' := by
  have g : w.cell? ⟨q, 4, none⟩ = some (.slice none 0 0) := by rw [← hF]; exact hb.cs 4 (by omega) (by omega)
  clear hb hF
  go_enter Tryz.func88, Tryz.ntmps88
  go_wp2_with fail
  go_loopw [3] (fun iv W => iv = .int .i64 0 ∧ W = w) (fun _ _ => 0)
  case atStart => exact ⟨rfl, rfl⟩
  case round =>
    obtain ⟨rfl, rfl⟩ := hrel
    go_wp2_with fail
    exact bodyPost_ret (results_tmp rfl _ _ _) rfl ⟨rfl, rfl⟩
set_option maxRecDepth 100000 in
theorem fillPair_nil (q n : Nat) (F : Nat → Value) (w : World) (hb : Book w q n F) (hF : F 6 = .slice none 0 0) : Calls Tryz.prog 72 #[.pointer (some ⟨q, 0, none⟩)] w fun e w' => e = .returned (.tuple #[]) ∧ w = w' := by
  have g : w.cell? ⟨q, 6, none⟩ = some (.slice none 0 0) := by rw [← hF]; exact hb.cs 6 (by omega) (by omega)
  clear hb hF
  go_enter Tryz.func72, Tryz.ntmps72
  go_wp2_with fail
  go_loopw [2] (fun iv W => iv = .int .i64 0 ∧ W = w) (fun _ _ => 0)
  case atStart => exact ⟨rfl, rfl⟩
  case round =>
    obtain ⟨rfl, rfl⟩ := hrel
    go_wp2_with fail
    exact bodyPost_end (results_none rfl _ _ _) rfl ⟨rfl, rfl⟩
set_option maxRecDepth 100000 in
theorem growPair_nil (q n : Nat) (F : Nat → Value) (w : World) (hb : Book w q n F) (hF : F 6 = .slice none 0 0) : Calls Tryz.prog 81 #[.pointer (some ⟨q, 0, none⟩)] w fun e w' => e = .returned (.tuple #[]) ∧ w = w' := by
  have g : w.cell? ⟨q, 6, none⟩ = some (.slice none 0 0) := by rw [← hF]; exact hb.cs 6 (by omega) (by omega)
  clear hb hF
  go_enter Tryz.func81, Tryz.ntmps81
  go_wp2_with fail
  go_loopw [2] (fun iv W => iv = .int .i64 0 ∧ W = w) (fun _ _ => 0)
  case atStart => exact ⟨rfl, rfl⟩
  case round =>
    obtain ⟨rfl, rfl⟩ := hrel
    go_wp2_with fail
    exact bodyPost_end (results_none rfl _ _ _) rfl ⟨rfl, rfl⟩
set_option maxRecDepth 100000 in
theorem lookPair_nil (q n : Nat) (F : Nat → Value) (w : World) (hb : Book w q n F) (hF : F 6 = .slice none 0 0) : Calls Tryz.prog 90 #[.pointer (some ⟨q, 0, none⟩)] w fun e w' => e = .returned (.bool true) ∧ w = w' := by
  have g : w.cell? ⟨q, 6, none⟩ = some (.slice none 0 0) := by rw [← hF]; exact hb.cs 6 (by omega) (by omega)
  clear hb hF
  go_enter Tryz.func90, Tryz.ntmps90
  go_wp2_with fail
  go_loopw [3] (fun iv W => iv = .int .i64 0 ∧ W = w) (fun _ _ => 0)
  case atStart => exact ⟨rfl, rfl⟩
  case round =>
    obtain ⟨rfl, rfl⟩ := hrel
    go_wp2_with fail
    exact bodyPost_ret (results_tmp rfl _ _ _) rfl ⟨rfl, rfl⟩
set_option maxRecDepth 100000 in
theorem fillTenant_nil (q n : Nat) (F : Nat → Value) (w : World) (hb : Book w q n F) (hF : F 7 = .slice none 0 0) : Calls Tryz.prog 73 #[.pointer (some ⟨q, 0, none⟩)] w fun e w' => e = .returned (.tuple #[]) ∧ w = w' := by
  have g : w.cell? ⟨q, 7, none⟩ = some (.slice none 0 0) := by rw [← hF]; exact hb.cs 7 (by omega) (by omega)
  clear hb hF
  go_enter Tryz.func73, Tryz.ntmps73
  go_wp2_with fail
  go_loopw [2] (fun iv W => iv = .int .i64 0 ∧ W = w) (fun _ _ => 0)
  case atStart => exact ⟨rfl, rfl⟩
  case round =>
    obtain ⟨rfl, rfl⟩ := hrel
    go_wp2_with fail
    exact bodyPost_end (results_none rfl _ _ _) rfl ⟨rfl, rfl⟩
set_option maxRecDepth 100000 in
theorem growTenant_nil (q n : Nat) (F : Nat → Value) (w : World) (hb : Book w q n F) (hF : F 7 = .slice none 0 0) : Calls Tryz.prog 82 #[.pointer (some ⟨q, 0, none⟩)] w fun e w' => e = .returned (.tuple #[]) ∧ w = w' := by
  have g : w.cell? ⟨q, 7, none⟩ = some (.slice none 0 0) := by rw [← hF]; exact hb.cs 7 (by omega) (by omega)
  clear hb hF
  go_enter Tryz.func82, Tryz.ntmps82
  go_wp2_with fail
  go_loopw [2] (fun iv W => iv = .int .i64 0 ∧ W = w) (fun _ _ => 0)
  case atStart => exact ⟨rfl, rfl⟩
  case round =>
    obtain ⟨rfl, rfl⟩ := hrel
    go_wp2_with fail
    exact bodyPost_end (results_none rfl _ _ _) rfl ⟨rfl, rfl⟩
set_option maxRecDepth 100000 in
theorem lookTenant_nil (q n : Nat) (F : Nat → Value) (w : World) (hb : Book w q n F) (hF : F 7 = .slice none 0 0) : Calls Tryz.prog 91 #[.pointer (some ⟨q, 0, none⟩)] w fun e w' => e = .returned (.bool true) ∧ w = w' := by
  have g : w.cell? ⟨q, 7, none⟩ = some (.slice none 0 0) := by rw [← hF]; exact hb.cs 7 (by omega) (by omega)
  clear hb hF
  go_enter Tryz.func91, Tryz.ntmps91
  go_wp2_with fail
  go_loopw [3] (fun iv W => iv = .int .i64 0 ∧ W = w) (fun _ _ => 0)
  case atStart => exact ⟨rfl, rfl⟩
  case round =>
    obtain ⟨rfl, rfl⟩ := hrel
    go_wp2_with fail
    exact bodyPost_ret (results_tmp rfl _ _ _) rfl ⟨rfl, rfl⟩
set_option maxRecDepth 100000 in
theorem fillLease_nil (q n : Nat) (F : Nat → Value) (w : World) (hb : Book w q n F) (hF : F 8 = .slice none 0 0) : Calls Tryz.prog 74 #[.pointer (some ⟨q, 0, none⟩)] w fun e w' => e = .returned (.tuple #[]) ∧ w = w' := by
  have g : w.cell? ⟨q, 8, none⟩ = some (.slice none 0 0) := by rw [← hF]; exact hb.cs 8 (by omega) (by omega)
  clear hb hF
  go_enter Tryz.func74, Tryz.ntmps74
  go_wp2_with fail
  go_loopw [2] (fun iv W => iv = .int .i64 0 ∧ W = w) (fun _ _ => 0)
  case atStart => exact ⟨rfl, rfl⟩
  case round =>
    obtain ⟨rfl, rfl⟩ := hrel
    go_wp2_with fail
    exact bodyPost_end (results_none rfl _ _ _) rfl ⟨rfl, rfl⟩
set_option maxRecDepth 100000 in
theorem growLease_nil (q n : Nat) (F : Nat → Value) (w : World) (hb : Book w q n F) (hF : F 8 = .slice none 0 0) : Calls Tryz.prog 83 #[.pointer (some ⟨q, 0, none⟩)] w fun e w' => e = .returned (.tuple #[]) ∧ w = w' := by
  have g : w.cell? ⟨q, 8, none⟩ = some (.slice none 0 0) := by rw [← hF]; exact hb.cs 8 (by omega) (by omega)
  clear hb hF
  go_enter Tryz.func83, Tryz.ntmps83
  go_wp2_with fail
  go_loopw [2] (fun iv W => iv = .int .i64 0 ∧ W = w) (fun _ _ => 0)
  case atStart => exact ⟨rfl, rfl⟩
  case round =>
    obtain ⟨rfl, rfl⟩ := hrel
    go_wp2_with fail
    exact bodyPost_end (results_none rfl _ _ _) rfl ⟨rfl, rfl⟩
set_option maxRecDepth 100000 in
theorem lookLease_nil (q n : Nat) (F : Nat → Value) (w : World) (hb : Book w q n F) (hF : F 8 = .slice none 0 0) : Calls Tryz.prog 92 #[.pointer (some ⟨q, 0, none⟩)] w fun e w' => e = .returned (.bool true) ∧ w = w' := by
  have g : w.cell? ⟨q, 8, none⟩ = some (.slice none 0 0) := by rw [← hF]; exact hb.cs 8 (by omega) (by omega)
  clear hb hF
  go_enter Tryz.func92, Tryz.ntmps92
  go_wp2_with fail
  go_loopw [3] (fun iv W => iv = .int .i64 0 ∧ W = w) (fun _ _ => 0)
  case atStart => exact ⟨rfl, rfl⟩
  case round =>
    obtain ⟨rfl, rfl⟩ := hrel
    go_wp2_with fail
    exact bodyPost_ret (results_tmp rfl _ _ _) rfl ⟨rfl, rfl⟩
set_option maxRecDepth 100000 in
theorem fillEvent_nil (q n : Nat) (F : Nat → Value) (w : World) (hb : Book w q n F) (hF : F 9 = .slice none 0 0) : Calls Tryz.prog 75 #[.pointer (some ⟨q, 0, none⟩)] w fun e w' => e = .returned (.tuple #[]) ∧ w = w' := by
  have g : w.cell? ⟨q, 9, none⟩ = some (.slice none 0 0) := by rw [← hF]; exact hb.cs 9 (by omega) (by omega)
  clear hb hF
  go_enter Tryz.func75, Tryz.ntmps75
  go_wp2_with fail
  go_loopw [2] (fun iv W => iv = .int .i64 0 ∧ W = w) (fun _ _ => 0)
  case atStart => exact ⟨rfl, rfl⟩
  case round =>
    obtain ⟨rfl, rfl⟩ := hrel
    go_wp2_with fail
    exact bodyPost_end (results_none rfl _ _ _) rfl ⟨rfl, rfl⟩
set_option maxRecDepth 100000 in
theorem growEvent_nil (q n : Nat) (F : Nat → Value) (w : World) (hb : Book w q n F) (hF : F 9 = .slice none 0 0) : Calls Tryz.prog 84 #[.pointer (some ⟨q, 0, none⟩)] w fun e w' => e = .returned (.tuple #[]) ∧ w = w' := by
  have g : w.cell? ⟨q, 9, none⟩ = some (.slice none 0 0) := by rw [← hF]; exact hb.cs 9 (by omega) (by omega)
  clear hb hF
  go_enter Tryz.func84, Tryz.ntmps84
  go_wp2_with fail
  go_loopw [2] (fun iv W => iv = .int .i64 0 ∧ W = w) (fun _ _ => 0)
  case atStart => exact ⟨rfl, rfl⟩
  case round =>
    obtain ⟨rfl, rfl⟩ := hrel
    go_wp2_with fail
    exact bodyPost_end (results_none rfl _ _ _) rfl ⟨rfl, rfl⟩
set_option maxRecDepth 100000 in
theorem lookEvent_nil (q n : Nat) (F : Nat → Value) (w : World) (hb : Book w q n F) (hF : F 9 = .slice none 0 0) : Calls Tryz.prog 93 #[.pointer (some ⟨q, 0, none⟩)] w fun e w' => e = .returned (.bool true) ∧ w = w' := by
  have g : w.cell? ⟨q, 9, none⟩ = some (.slice none 0 0) := by rw [← hF]; exact hb.cs 9 (by omega) (by omega)
  clear hb hF
  go_enter Tryz.func93, Tryz.ntmps93
  go_wp2_with fail
  go_loopw [3] (fun iv W => iv = .int .i64 0 ∧ W = w) (fun _ _ => 0)
  case atStart => exact ⟨rfl, rfl⟩
  case round =>
    obtain ⟨rfl, rfl⟩ := hrel
    go_wp2_with fail
    exact bodyPost_ret (results_tmp rfl _ _ _) rfl ⟨rfl, rfl⟩
end Go.Proofs.YtfmgoehnbaiamaaGreatDoor
-- Walks: a Book of sums alone: made, told a list, and whether its lists lie apart.
namespace Go.Proofs.YtfmgoehnbaiamaaGreatDoor
/-- A Book that holds lists of sums alone. -/
structure SBook (W : World) (base q : Nat) (F : Nat → Value) (H : List Held) (S : Nat → List (List Value)) : Prop where
  bk : Book W q H.length F
  nul : ∀ j, 1 ≤ j → j < 10 → j ≠ 5 → F j = .slice none 0 0
  row : Row3 W 155 base q (F 5) H
  lies : Lies W base 32 H S
  ap : ApartH H q (F 5)
  nums : ∀ i, i < H.length → num H i = i + 1
  lngs : ∀ i, i < H.length → lng H i = .slice none 0 0
  lens : ∀ i, i < H.length → (S i).length < 900000
  bq : base ≤ q
theorem SBook.bs {W : World} {base q : Nat} {F : Nat → Value} {H : List Held} {S : Nat → List (List Value)} (h : SBook W base q F H S) : base ≤ W.heap.size := Nat.le_of_lt (Nat.lt_of_le_of_lt h.bq h.bk.lt)
theorem SBook.keep {X : Nat → Prop} {W W' : World} {base q : Nat} {F : Nat → Value} {H : List Held} {S : Nat → List (List Value)} (h : SBook W base q F H S) (hk : Keeps X W W') (hq : ¬ X q) (hr : ∀ k, (F 5).ownBlock = some k → ¬ X k) (hi : ∀ k, InH H k → ¬ X k) : SBook W' base q F H S :=
  ⟨h.bk.keep hk hq, h.nul, h.row.keep hk hr, h.lies.keep hk hi, h.ap, h.nums, h.lngs, h.lens, h.bq⟩
theorem SBook.below {W W' : World} {base q : Nat} {F : Nat → Value} {H : List Held} {S : Nat → List (List Value)} (h : SBook W base q F H S) (hb : Below W.heap.size W W') : SBook W' base q F H S :=
  h.keep (Keeps.of_below (X := fun _ => False) hb) (fun h => h) (fun _ _ h => h) (fun _ _ h => h)
/-- A block is one of the Book's. -/
def OfBook (q : Nat) (F : Nat → Value) (H : List Held) (k : Nat) : Prop := k = q ∨ (F 5).ownBlock = some k ∨ InH H k
theorem SBook.lt {W : World} {base q : Nat} {F : Nat → Value} {H : List Held} {S : Nat → List (List Value)} (h : SBook W base q F H S) {k : Nat} (hk : OfBook q F H k) : base ≤ k ∧ k < W.heap.size := by
  rcases hk with rfl | hk | ⟨i, hi, hk⟩
  · exact ⟨h.bq, h.bk.lt⟩
  · exact h.row.1.lt k hk
  · exact (h.lies i hi).lt k hk
theorem hd_append (H : List Held) (x : Held) (i : Nat) : hd (H ++ [x]) i = if i < H.length then hd H i else if i = H.length then x else (.slice none 0 0, .slice none 0 0, 0) := by
  unfold hd
  rw [List.getD_eq_getElem?_getD]
  by_cases h : i < H.length
  · rw [if_pos h, List.getElem?_append_left h, ← List.getD_eq_getElem?_getD]
  · rw [if_neg h, List.getElem?_append_right (by omega)]
    by_cases e : i = H.length
    · rw [if_pos e, e, Nat.sub_self]; rfl
    · rw [if_neg e, List.getElem?_eq_none (by simp; omega)]; rfl
/-- What the lists hold, one more told. -/
def more (H : List Held) (S : Nat → List (List Value)) (xs : List (List Value)) : Nat → List (List Value) := fun i => if i < H.length then S i else xs
/-- A new Book. -/
theorem sbook_new (w : World) (base : Nat) (hb : base ≤ w.heap.size) : SBook (w.alloc (.cells #[.int .i64 0, .slice none 0 0, .slice none 0 0, .slice none 0 0, .slice none 0 0, .slice none 0 0, .slice none 0 0, .slice none 0 0, .slice none 0 0, .slice none 0 0] 38)) base w.heap.size (fun _ => .slice none 0 0) [] (fun _ => []) := by
  have hr := range_new w #[.int .i64 0, .slice none 0 0, .slice none 0 0, .slice none 0 0, .slice none 0 0, .slice none 0 0, .slice none 0 0, .slice none 0 0, .slice none 0 0, .slice none 0 0] 38 _ rfl
  have ht := there_new w #[.int .i64 0, .slice none 0 0, .slice none 0 0, .slice none 0 0, .slice none 0 0, .slice none 0 0, .slice none 0 0, .slice none 0 0, .slice none 0 0, .slice none 0 0] 38
  refine ⟨⟨ht, hr 0 _ rfl, fun j h1 h2 => ?_⟩, fun _ _ _ _ => rfl, ⟨World.ownsRow_nil _ _ _ _, by simp [Value.ownBlock]⟩, fun i hi => by simp at hi, fun i hi => by simp at hi, fun i hi => by simp at hi, fun i hi => by simp at hi, fun i hi => by simp at hi, hb⟩
  have := hr j (.slice none 0 0) (by
    match j, h1, h2 with
    | 1, _, _ | 2, _, _ | 3, _, _ | 4, _, _ | 5, _, _ | 6, _, _ | 7, _, _ | 8, _, _ | 9, _, _ => rfl)
  rwa [Nat.zero_add] at this
end Go.Proofs.YtfmgoehnbaiamaaGreatDoor
-- The seat's words for lists of sums that grow.
namespace Go.Proofs.YtfmgoehnbaiamaaGreatDoor
/-- The sum of noughts. -/
def zeroSum : Sum := Vector.replicate 32 0
theorem info_sum : ∃ i z, Tryz.prog.info? 24 = some i ∧ i.zero = some z ∧ i.size = 32 ∧ i.bytes = 32 ∧ z.cells.size = 32 := by
  have h : (Tryz.prog.info? 24).map (fun i => (i.zero.map fun z => z.cells.size, i.size, i.bytes)) = some (some 32, 32, 32) := by kernel_rfl
  obtain ⟨i, hi, h2⟩ := Option.map_eq_some_iff.1 h
  simp only [Prod.mk.injEq] at h2
  obtain ⟨z, hz, hz2⟩ := Option.map_eq_some_iff.1 h2.1
  exact ⟨i, z, hi, hz, h2.2.1, h2.2.2, hz2⟩
theorem wp_load_sum {op : Oper} {a : Act} {w : World} {K : Act → World → Prop} {Q : Exit → Act → World → Prop} (x : Operand) (ho : op.op = .load 24 x)
    (b o : Nat) (hx : a.eval x = .pointer (some ⟨b, o, none⟩)) (s : Sum) (hc : w.rangeAt b o (cellsOf s)) (h : K (a.put op.dst (sv s)) w) : op.wp Tryz.prog a w K Q :=
  wp_load_mid _ x ho b o hx (cellsOf s) _ hc Tryz.underlying24 rfl (by rw [length_cellsOf]; exact infoSum) h
theorem wp_store_sum {op : Oper} {a : Act} {w : World} {K : Act → World → Prop} {Q : Exit → Act → World → Prop} (x y : Operand) (ho : op.op = .store 24 x y)
    (b o : Nat) (s : Sum) (hx : a.eval x = .pointer (some ⟨b, o, none⟩)) (hy : a.eval y = sv s) (ht : w.there b o 32) (h : K (a.put op.dst undef) (w.setCells b o (cellsOf s))) : op.wp Tryz.prog a w K Q :=
  wp_store_mid _ x y ho b o _ hx hy (by rw [size_cellsOf]; exact ht) (by rw [size_cellsOf]; exact infoSum) (all_cellsOf s) h
/-- append of a row of sums. -/
theorem wp_append_sums {w : World} {o : Oper} {a : Act} {K : Act → World → Prop} {Q : Exit → Act → World → Prop} (s x : Operand)
    (ho : o.op = .call { callee := .builtin .append, args := #[s, x], argTypes := #[61, 61] })
    (base : Nat) (v : Value) (l ys : List Sum) (n m : Nat) (_hn : l.length = n) (hm : ys.length = m) (hs : a.eval s = v) (hown : w.ownsRow base 24 32 v n (cellsAll l))
    (b off c : Nat) (hx : a.eval x = .slice (some ⟨b, off, none⟩) m c) (hr : w.rangeAt b off (cellsAll ys)) (h0 : 0 < m) (hl : n + m < 4000000000000) (hB : base ≤ w.heap.size)
    (h : ∀ g cap w', w'.ownsRow base 24 32 (.slice (some ⟨g, 0, none⟩) (n + m) cap) (n + m) (cellsAll (l ++ ys)) → w.grownBy w' v.ownBlock → (v.ownBlock = some g ∨ g = w.heap.size) → g < w'.heap.size → K (a.put o.dst (.slice (some ⟨g, 0, none⟩) (n + m) cap)) w') : o.wp Tryz.prog a w K Q := by
  obtain ⟨i, z, hi, hz, h1, h2, h3⟩ := info_sum
  refine wp_append_lies w s x _ ho base _ i z 32 32 Tryz.underlying61 hi hz h1 h2 h3 (by omega) v n (cellsAll l) hs hown ⟨b, off, none⟩ m c (cellsAll ys) hx (by rw [length_cellsAll, hm]; omega) (fun j u hj => by rw [Addr.add_mid]; exact hr j u hj) (oneCell_cellsAll ys) h0 (by unfold maxLen; omega) (by omega) hB w.heap.size rfl ?_
  intro g cap w' ho' hg hat hlt
  refine h g cap w' ?_ hg hat hlt
  rw [cellsAll_append]; exact ho'
theorem wpList_append_sums {w : World} {ops : Array Oper} {rest : List Oper} {o : Oper} {a : Act} {Q : Exit → Act → World → Prop} (hgd : o.guard = none) (s x : Operand)
    (ho : o.op = .call { callee := .builtin .append, args := #[s, x], argTypes := #[61, 61] })
    (base : Nat) (v : Value) (l ys : List Sum) (n m : Nat) (hn : l.length = n) (hm : ys.length = m) (hs : a.eval s = v) (hown : w.ownsRow base 24 32 v n (cellsAll l))
    (b off c : Nat) (hx : a.eval x = .slice (some ⟨b, off, none⟩) m c) (hr : w.rangeAt b off (cellsAll ys)) (h0 : 0 < m) (hl : n + m < 4000000000000) (hB : base ≤ w.heap.size)
    (h : ∀ g cap w', w'.ownsRow base 24 32 (.slice (some ⟨g, 0, none⟩) (n + m) cap) (n + m) (cellsAll (l ++ ys)) → w.grownBy w' v.ownBlock → (v.ownBlock = some g ∨ g = w.heap.size) → g < w'.heap.size → wpList Tryz.prog ops Q rest (a.put o.dst (.slice (some ⟨g, 0, none⟩) (n + m) cap)) w') : wpList Tryz.prog ops Q (o :: rest) a w :=
  wpList_plain hgd fun _ hK => wp_append_sums s x ho base v l ys n m hn hm hs hown b off c hx hr h0 hl hB fun g cap w' h1 h2 h3 h4 => hK _ _ (h g cap w' h1 h2 h3 h4)
/-- A slice literal of sums. -/
theorem wp_build_sums {w : World} {o : Oper} {a : Act} {K : Act → World → Prop} {Q : Exit → Act → World → Prop} (len : Nat) (parts : Array (Nat × Operand)) (ho : o.op = .buildSlice 61 len parts) (l : List Sum) (hl : l.length = len) (h0 : 0 < len) (h1 : len ≤ 1000)
    (hp : (parts.toList.map fun (i, x) => (i, a.eval x)) = (((l.map fun s => sv s)).zipIdx 0).map fun x => (x.2, x.1))
    (h : K (a.put o.dst (.slice (some ⟨w.heap.size, 0, none⟩) len len)) (w.alloc (.cells (cellsAll l).toArray 24))) : o.wp Tryz.prog a w K Q := by
  obtain ⟨i, z, hi, hz, hs, hb, hzs⟩ := info_sum
  refine wp_buildSlice _ 24 len parts ho (cellsAll l).toArray i z Tryz.underlying61 hi hz (by rw [hs]; omega) (by rw [hs]; omega) ?_ h
  have hc : (l.map fun s => sv s).flatMap (fun v => v.cells.toList) = cellsAll l := by
    rw [List.flatMap_map, cellsAll]
    rfl
  rw [Array.toList_map, hp, hs, Great.fill_whole (by omega) (l.map fun s => sv s) _ (fun v hv => by obtain ⟨s, _, rfl⟩ := List.mem_map.1 hv; exact size_cellsOf s) (by simp [hl]), hc]
/-- A load of a sum, as a move of a scheduled walk. -/
theorem wpS_load_sum {md : Region.Mode} {S : World → Prop} {ops : List Oper} {Q : Exit → Act → World → Prop} {r : List Mv} {a : Act} {w : World} {o : Oper} {i : Nat} (hS : S w) (ho : ops[i]? = some o) (hg : Region.wanted o (yielded ops.toArray a.tmps) = true) (x : Operand) (hop : o.op = .load 24 x) (b off : Nat) (hx : a.eval x = .pointer (some ⟨b, off, none⟩)) (s : Sum)
    (hc : ∀ W, S W → W.rangeAt b off (cellsOf s)) (h : wpS Tryz.prog md ops.toArray Q S r (a.put o.dst (sv s)) w) : wpS Tryz.prog md ops.toArray Q S (.s i :: r) a w :=
  wpS_load_mid hS ho hg _ x hop b off hx (cellsOf s) _ hc Tryz.underlying24 rfl (by rw [length_cellsOf]; exact infoSum) h
theorem own_lt {w : World} {base : Nat} {e : TypeId} {size : Nat} {v : Value} {n : Nat} {xs : List Value} (h : w.ownsRow base e size v n xs) {k : Nat} (hk : v.ownBlock = some k) : k < w.heap.size := (h.lt k hk).2
theorem own_sum_range {w : World} {base : Nat} {e : TypeId} {g n cap : Nat} {l : List Sum} (h : w.ownsRow base e 32 (.slice (some ⟨g, 0, none⟩) n cap) n (cellsAll l)) : w.rangeAt g 0 (cellsAll l) := fun j u hj => by
  have := h.cells (g := g) rfl j u hj
  rwa [Addr.add_mid] at this
end Go.Proofs.YtfmgoehnbaiamaaGreatDoor
