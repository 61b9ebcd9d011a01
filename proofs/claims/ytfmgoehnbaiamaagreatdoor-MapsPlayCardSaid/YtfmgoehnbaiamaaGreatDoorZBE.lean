/-
  Joined: BL7, BL8, S2, VT0, VTW1.
-/
import Derived.Test.YtfmgoehnbaiamaaGreatDoorZBB
import Derived.WalkMore
import Derived.Test.YtfmgoehnbaiamaaGreatDoorW0
import Derived.Test.YtfmgoehnbaiamaaGreatDoorBL6
import Derived.Test.YtfmgoehnbaiamaaGreatDoorZAV
import Derived.Test.YtfmgoehnbaiamaaGreatDoorZAZ
-- Walks: the kinds of lists of which a Book holds none (fill, grow, look).
open Go Go.RowKit Alm
namespace Go.Proofs.YtfmgoehnbaiamaaGreatDoor
set_option maxRecDepth 100000 in
theorem fillInt_nil (q n : Nat) (F : Nat → Value) (w : World) (hb : Book w q n F) (hF : F 2 = .slice none 0 0) : Calls Tryz.prog 68 #[.pointer (some ⟨q, 0, none⟩)] w fun e w' => e = .returned (.tuple #[]) ∧ w = w' := by
  have g : w.cell? ⟨q, 2, none⟩ = some (.slice none 0 0) := by rw [← hF]; exact hb.cs 2 (by omega) (by omega)
  clear hb hF
  go_enter Tryz.func68, Tryz.ntmps68
  go_wp2_with fail
  go_loopw [2] (fun iv W => iv = .int .i64 0 ∧ W = w) (fun _ _ => 0)
  case atStart => exact ⟨rfl, rfl⟩
  case round =>
    obtain ⟨rfl, rfl⟩ := hrel
    go_wp2_with fail
    exact bodyPost_end (results_none rfl _ _ _) rfl ⟨rfl, rfl⟩
set_option maxRecDepth 100000 in
theorem growInt_nil (q n : Nat) (F : Nat → Value) (w : World) (hb : Book w q n F) (hF : F 2 = .slice none 0 0) : Calls Tryz.prog 77 #[.pointer (some ⟨q, 0, none⟩)] w fun e w' => e = .returned (.tuple #[]) ∧ w = w' := by
  have g : w.cell? ⟨q, 2, none⟩ = some (.slice none 0 0) := by rw [← hF]; exact hb.cs 2 (by omega) (by omega)
  clear hb hF
  go_enter Tryz.func77, Tryz.ntmps77
  go_wp2_with fail
  go_loopw [2] (fun iv W => iv = .int .i64 0 ∧ W = w) (fun _ _ => 0)
  case atStart => exact ⟨rfl, rfl⟩
  case round =>
    obtain ⟨rfl, rfl⟩ := hrel
    go_wp2_with fail
    exact bodyPost_end (results_none rfl _ _ _) rfl ⟨rfl, rfl⟩
set_option maxRecDepth 100000 in
theorem lookInt_nil (q n : Nat) (F : Nat → Value) (w : World) (hb : Book w q n F) (hF : F 2 = .slice none 0 0) : Calls Tryz.prog 86 #[.pointer (some ⟨q, 0, none⟩)] w fun e w' => e = .returned (.bool true) ∧ w = w' := by
  have g : w.cell? ⟨q, 2, none⟩ = some (.slice none 0 0) := by rw [← hF]; exact hb.cs 2 (by omega) (by omega)
  clear hb hF
  go_enter Tryz.func86, Tryz.ntmps86
  go_wp2_with fail
  go_loopw [3] (fun iv W => iv = .int .i64 0 ∧ W = w) (fun _ _ => 0)
  case atStart => exact ⟨rfl, rfl⟩
  case round =>
    obtain ⟨rfl, rfl⟩ := hrel
    go_wp2_with fail
    exact bodyPost_ret (results_tmp rfl _ _ _) rfl ⟨rfl, rfl⟩
set_option maxRecDepth 100000 in
theorem fillText_nil (q n : Nat) (F : Nat → Value) (w : World) (hb : Book w q n F) (hF : F 3 = .slice none 0 0) : Calls Tryz.prog 69 #[.pointer (some ⟨q, 0, none⟩)] w fun e w' => e = .returned (.tuple #[]) ∧ w = w' := by
  have g : w.cell? ⟨q, 3, none⟩ = some (.slice none 0 0) := by rw [← hF]; exact hb.cs 3 (by omega) (by omega)
  clear hb hF
  go_enter Tryz.func69, Tryz.ntmps69
  go_wp2_with fail
  go_loopw [2] (fun iv W => iv = .int .i64 0 ∧ W = w) (fun _ _ => 0)
  case atStart => exact ⟨rfl, rfl⟩
  case round =>
    obtain ⟨rfl, rfl⟩ := hrel
    go_wp2_with fail
    exact bodyPost_end (results_none rfl _ _ _) rfl ⟨rfl, rfl⟩
set_option maxRecDepth 100000 in
theorem growText_nil (q n : Nat) (F : Nat → Value) (w : World) (hb : Book w q n F) (hF : F 3 = .slice none 0 0) : Calls Tryz.prog 78 #[.pointer (some ⟨q, 0, none⟩)] w fun e w' => e = .returned (.tuple #[]) ∧ w = w' := by
  have g : w.cell? ⟨q, 3, none⟩ = some (.slice none 0 0) := by rw [← hF]; exact hb.cs 3 (by omega) (by omega)
  clear hb hF
  go_enter Tryz.func78, Tryz.ntmps78
  go_wp2_with fail
  go_loopw [2] (fun iv W => iv = .int .i64 0 ∧ W = w) (fun _ _ => 0)
  case atStart => exact ⟨rfl, rfl⟩
  case round =>
    obtain ⟨rfl, rfl⟩ := hrel
    go_wp2_with fail
    exact bodyPost_end (results_none rfl _ _ _) rfl ⟨rfl, rfl⟩
set_option maxRecDepth 100000 in
theorem lookText_nil (q n : Nat) (F : Nat → Value) (w : World) (hb : Book w q n F) (hF : F 3 = .slice none 0 0) : Calls Tryz.prog 87 #[.pointer (some ⟨q, 0, none⟩)] w fun e w' => e = .returned (.bool true) ∧ w = w' := by
  have g : w.cell? ⟨q, 3, none⟩ = some (.slice none 0 0) := by rw [← hF]; exact hb.cs 3 (by omega) (by omega)
  clear hb hF
  go_enter Tryz.func87, Tryz.ntmps87
  go_wp2_with fail
  go_loopw [3] (fun iv W => iv = .int .i64 0 ∧ W = w) (fun _ _ => 0)
  case atStart => exact ⟨rfl, rfl⟩
  case round =>
    obtain ⟨rfl, rfl⟩ := hrel
    go_wp2_with fail
    exact bodyPost_ret (results_tmp rfl _ _ _) rfl ⟨rfl, rfl⟩
set_option maxRecDepth 100000 in
theorem fillByteList_nil (q n : Nat) (F : Nat → Value) (w : World) (hb : Book w q n F) (hF : F 4 = .slice none 0 0) : Calls Tryz.prog 70 #[.pointer (some ⟨q, 0, none⟩)] w fun e w' => e = .returned (.tuple #[]) ∧ w = w' := by
  have g : w.cell? ⟨q, 4, none⟩ = some (.slice none 0 0) := by rw [← hF]; exact hb.cs 4 (by omega) (by omega)
  clear hb hF
  go_enter Tryz.func70, Tryz.ntmps70
  go_wp2_with fail
  go_loopw [2] (fun iv W => iv = .int .i64 0 ∧ W = w) (fun _ _ => 0)
  case atStart => exact ⟨rfl, rfl⟩
  case round =>
    obtain ⟨rfl, rfl⟩ := hrel
    go_wp2_with fail
    exact bodyPost_end (results_none rfl _ _ _) rfl ⟨rfl, rfl⟩
set_option maxRecDepth 100000 in
theorem growByteList_nil (q n : Nat) (F : Nat → Value) (w : World) (hb : Book w q n F) (hF : F 4 = .slice none 0 0) : Calls Tryz.prog 79 #[.pointer (some ⟨q, 0, none⟩)] w fun e w' => e = .returned (.tuple #[]) ∧ w = w' := by
  have g : w.cell? ⟨q, 4, none⟩ = some (.slice none 0 0) := by rw [← hF]; exact hb.cs 4 (by omega) (by omega)
  clear hb hF
  go_enter Tryz.func79, Tryz.ntmps79
  go_wp2_with fail
  go_loopw [2] (fun iv W => iv = .int .i64 0 ∧ W = w) (fun _ _ => 0)
  case atStart => exact ⟨rfl, rfl⟩
  case round =>
    obtain ⟨rfl, rfl⟩ := hrel
    go_wp2_with fail
    exact bodyPost_end (results_none rfl _ _ _) rfl ⟨rfl, rfl⟩
set_option maxRecDepth 100000 in
theorem lookByteList_nil (q n : Nat) (F : Nat → Value) (w : World) (hb : Book w q n F) (hF : F 4 = .slice none 0 0) : Calls Tryz.prog 88 #[.pointer (some ⟨q, 0, none⟩)] w fun e w' => e = .returned (.bool true) ∧ w = w' := by
  have g : w.cell? ⟨q, 4, none⟩ = some (.slice none 0 0) := by rw [← hF]; exact hb.cs 4 (by omega) (by omega)
  clear hb hF
  go_enter Tryz.func88, Tryz.ntmps88
  go_wp2_with fail
  go_loopw [3] (fun iv W => iv = .int .i64 0 ∧ W = w) (fun _ _ => 0)
  case atStart => exact ⟨rfl, rfl⟩
  case round =>
    obtain ⟨rfl, rfl⟩ := hrel
    go_wp2_with fail
    exact bodyPost_ret (results_tmp rfl _ _ _) rfl ⟨rfl, rfl⟩
set_option maxRecDepth 100000 in
theorem fillTenant_nil (q n : Nat) (F : Nat → Value) (w : World) (hb : Book w q n F) (hF : F 7 = .slice none 0 0) : Calls Tryz.prog 73 #[.pointer (some ⟨q, 0, none⟩)] w fun e w' => e = .returned (.tuple #[]) ∧ w = w' := by
  have g : w.cell? ⟨q, 7, none⟩ = some (.slice none 0 0) := by rw [← hF]; exact hb.cs 7 (by omega) (by omega)
  clear hb hF
  go_enter Tryz.func73, Tryz.ntmps73
  go_wp2_with fail
  go_loopw [2] (fun iv W => iv = .int .i64 0 ∧ W = w) (fun _ _ => 0)
  case atStart => exact ⟨rfl, rfl⟩
  case round =>
    obtain ⟨rfl, rfl⟩ := hrel
    go_wp2_with fail
    exact bodyPost_end (results_none rfl _ _ _) rfl ⟨rfl, rfl⟩
set_option maxRecDepth 100000 in
theorem growTenant_nil (q n : Nat) (F : Nat → Value) (w : World) (hb : Book w q n F) (hF : F 7 = .slice none 0 0) : Calls Tryz.prog 82 #[.pointer (some ⟨q, 0, none⟩)] w fun e w' => e = .returned (.tuple #[]) ∧ w = w' := by
  have g : w.cell? ⟨q, 7, none⟩ = some (.slice none 0 0) := by rw [← hF]; exact hb.cs 7 (by omega) (by omega)
  clear hb hF
  go_enter Tryz.func82, Tryz.ntmps82
  go_wp2_with fail
  go_loopw [2] (fun iv W => iv = .int .i64 0 ∧ W = w) (fun _ _ => 0)
  case atStart => exact ⟨rfl, rfl⟩
  case round =>
    obtain ⟨rfl, rfl⟩ := hrel
    go_wp2_with fail
    exact bodyPost_end (results_none rfl _ _ _) rfl ⟨rfl, rfl⟩
set_option maxRecDepth 100000 in
theorem lookTenant_nil (q n : Nat) (F : Nat → Value) (w : World) (hb : Book w q n F) (hF : F 7 = .slice none 0 0) : Calls Tryz.prog 91 #[.pointer (some ⟨q, 0, none⟩)] w fun e w' => e = .returned (.bool true) ∧ w = w' := by
  have g : w.cell? ⟨q, 7, none⟩ = some (.slice none 0 0) := by rw [← hF]; exact hb.cs 7 (by omega) (by omega)
  clear hb hF
  go_enter Tryz.func91, Tryz.ntmps91
  go_wp2_with fail
  go_loopw [3] (fun iv W => iv = .int .i64 0 ∧ W = w) (fun _ _ => 0)
  case atStart => exact ⟨rfl, rfl⟩
  case round =>
    obtain ⟨rfl, rfl⟩ := hrel
    go_wp2_with fail
    exact bodyPost_ret (results_tmp rfl _ _ _) rfl ⟨rfl, rfl⟩
set_option maxRecDepth 100000 in
theorem fillLease_nil (q n : Nat) (F : Nat → Value) (w : World) (hb : Book w q n F) (hF : F 8 = .slice none 0 0) : Calls Tryz.prog 74 #[.pointer (some ⟨q, 0, none⟩)] w fun e w' => e = .returned (.tuple #[]) ∧ w = w' := by
  have g : w.cell? ⟨q, 8, none⟩ = some (.slice none 0 0) := by rw [← hF]; exact hb.cs 8 (by omega) (by omega)
  clear hb hF
  go_enter Tryz.func74, Tryz.ntmps74
  go_wp2_with fail
  go_loopw [2] (fun iv W => iv = .int .i64 0 ∧ W = w) (fun _ _ => 0)
  case atStart => exact ⟨rfl, rfl⟩
  case round =>
    obtain ⟨rfl, rfl⟩ := hrel
    go_wp2_with fail
    exact bodyPost_end (results_none rfl _ _ _) rfl ⟨rfl, rfl⟩
set_option maxRecDepth 100000 in
theorem growLease_nil (q n : Nat) (F : Nat → Value) (w : World) (hb : Book w q n F) (hF : F 8 = .slice none 0 0) : Calls Tryz.prog 83 #[.pointer (some ⟨q, 0, none⟩)] w fun e w' => e = .returned (.tuple #[]) ∧ w = w' := by
  have g : w.cell? ⟨q, 8, none⟩ = some (.slice none 0 0) := by rw [← hF]; exact hb.cs 8 (by omega) (by omega)
  clear hb hF
  go_enter Tryz.func83, Tryz.ntmps83
  go_wp2_with fail
  go_loopw [2] (fun iv W => iv = .int .i64 0 ∧ W = w) (fun _ _ => 0)
  case atStart => exact ⟨rfl, rfl⟩
  case round =>
    obtain ⟨rfl, rfl⟩ := hrel
    go_wp2_with fail
    exact bodyPost_end (results_none rfl _ _ _) rfl ⟨rfl, rfl⟩
set_option maxRecDepth 100000 in
theorem lookLease_nil (q n : Nat) (F : Nat → Value) (w : World) (hb : Book w q n F) (hF : F 8 = .slice none 0 0) : Calls Tryz.prog 92 #[.pointer (some ⟨q, 0, none⟩)] w fun e w' => e = .returned (.bool true) ∧ w = w' := by
  have g : w.cell? ⟨q, 8, none⟩ = some (.slice none 0 0) := by rw [← hF]; exact hb.cs 8 (by omega) (by omega)
  clear hb hF
  go_enter Tryz.func92, Tryz.ntmps92
  go_wp2_with fail
  go_loopw [3] (fun iv W => iv = .int .i64 0 ∧ W = w) (fun _ _ => 0)
  case atStart => exact ⟨rfl, rfl⟩
  case round =>
    obtain ⟨rfl, rfl⟩ := hrel
    go_wp2_with fail
    exact bodyPost_ret (results_tmp rfl _ _ _) rfl ⟨rfl, rfl⟩
set_option maxRecDepth 100000 in
theorem fillEvent_nil (q n : Nat) (F : Nat → Value) (w : World) (hb : Book w q n F) (hF : F 9 = .slice none 0 0) : Calls Tryz.prog 75 #[.pointer (some ⟨q, 0, none⟩)] w fun e w' => e = .returned (.tuple #[]) ∧ w = w' := by
  have g : w.cell? ⟨q, 9, none⟩ = some (.slice none 0 0) := by rw [← hF]; exact hb.cs 9 (by omega) (by omega)
  clear hb hF
  go_enter Tryz.func75, Tryz.ntmps75
  go_wp2_with fail
  go_loopw [2] (fun iv W => iv = .int .i64 0 ∧ W = w) (fun _ _ => 0)
  case atStart => exact ⟨rfl, rfl⟩
  case round =>
    obtain ⟨rfl, rfl⟩ := hrel
    go_wp2_with fail
    exact bodyPost_end (results_none rfl _ _ _) rfl ⟨rfl, rfl⟩
set_option maxRecDepth 100000 in
theorem growEvent_nil (q n : Nat) (F : Nat → Value) (w : World) (hb : Book w q n F) (hF : F 9 = .slice none 0 0) : Calls Tryz.prog 84 #[.pointer (some ⟨q, 0, none⟩)] w fun e w' => e = .returned (.tuple #[]) ∧ w = w' := by
  have g : w.cell? ⟨q, 9, none⟩ = some (.slice none 0 0) := by rw [← hF]; exact hb.cs 9 (by omega) (by omega)
  clear hb hF
  go_enter Tryz.func84, Tryz.ntmps84
  go_wp2_with fail
  go_loopw [2] (fun iv W => iv = .int .i64 0 ∧ W = w) (fun _ _ => 0)
  case atStart => exact ⟨rfl, rfl⟩
  case round =>
    obtain ⟨rfl, rfl⟩ := hrel
    go_wp2_with fail
    exact bodyPost_end (results_none rfl _ _ _) rfl ⟨rfl, rfl⟩
set_option maxRecDepth 100000 in
theorem lookEvent_nil (q n : Nat) (F : Nat → Value) (w : World) (hb : Book w q n F) (hF : F 9 = .slice none 0 0) : Calls Tryz.prog 93 #[.pointer (some ⟨q, 0, none⟩)] w fun e w' => e = .returned (.bool true) ∧ w = w' := by
  have g : w.cell? ⟨q, 9, none⟩ = some (.slice none 0 0) := by rw [← hF]; exact hb.cs 9 (by omega) (by omega)
  clear hb hF
  go_enter Tryz.func93, Tryz.ntmps93
  go_wp2_with fail
  go_loopw [3] (fun iv W => iv = .int .i64 0 ∧ W = w) (fun _ _ => 0)
  case atStart => exact ⟨rfl, rfl⟩
  case round =>
    obtain ⟨rfl, rfl⟩ := hrel
    go_wp2_with fail
    exact bodyPost_ret (results_tmp rfl _ _ _) rfl ⟨rfl, rfl⟩
end Go.Proofs.YtfmgoehnbaiamaaGreatDoor
-- Walks: a Book of sums alone: made, told a list, and whether its lists lie apart.
namespace Go.Proofs.YtfmgoehnbaiamaaGreatDoor
/-- A Book that holds lists of sums alone. -/
structure SBook (W : World) (base q : Nat) (F : Nat → Value) (H : List Held) (S : Nat → List (List Value)) : Prop where
  bk : Book W q H.length F
  nul : ∀ j, 1 ≤ j → j < 10 → j ≠ 5 → F j = .slice none 0 0
  row : Row3 W 155 base q (F 5) H
  lies : Lies W base 32 H S
  ap : ApartH H q (F 5)
  nums : ∀ i, i < H.length → num H i = i + 1
  lngs : ∀ i, i < H.length → lng H i = .slice none 0 0
  lens : ∀ i, i < H.length → (S i).length < 900000
  bq : base ≤ q
theorem SBook.bs {W : World} {base q : Nat} {F : Nat → Value} {H : List Held} {S : Nat → List (List Value)} (h : SBook W base q F H S) : base ≤ W.heap.size := Nat.le_of_lt (Nat.lt_of_le_of_lt h.bq h.bk.lt)
theorem SBook.keep {X : Nat → Prop} {W W' : World} {base q : Nat} {F : Nat → Value} {H : List Held} {S : Nat → List (List Value)} (h : SBook W base q F H S) (hk : Keeps X W W') (hq : ¬ X q) (hr : ∀ k, (F 5).ownBlock = some k → ¬ X k) (hi : ∀ k, InH H k → ¬ X k) : SBook W' base q F H S :=
  ⟨h.bk.keep hk hq, h.nul, h.row.keep hk hr, h.lies.keep hk hi, h.ap, h.nums, h.lngs, h.lens, h.bq⟩
theorem SBook.below {W W' : World} {base q : Nat} {F : Nat → Value} {H : List Held} {S : Nat → List (List Value)} (h : SBook W base q F H S) (hb : Below W.heap.size W W') : SBook W' base q F H S :=
  h.keep (Keeps.of_below (X := fun _ => False) hb) (fun h => h) (fun _ _ h => h) (fun _ _ h => h)
/-- A block is one of the Book's. -/
def OfBook (q : Nat) (F : Nat → Value) (H : List Held) (k : Nat) : Prop := k = q ∨ (F 5).ownBlock = some k ∨ InH H k
theorem SBook.lt {W : World} {base q : Nat} {F : Nat → Value} {H : List Held} {S : Nat → List (List Value)} (h : SBook W base q F H S) {k : Nat} (hk : OfBook q F H k) : base ≤ k ∧ k < W.heap.size := by
  rcases hk with rfl | hk | ⟨i, hi, hk⟩
  · exact ⟨h.bq, h.bk.lt⟩
  · exact h.row.1.lt k hk
  · exact (h.lies i hi).lt k hk
theorem hd_append (H : List Held) (x : Held) (i : Nat) : hd (H ++ [x]) i = if i < H.length then hd H i else if i = H.length then x else (.slice none 0 0, .slice none 0 0, 0) := by
  unfold hd
  rw [List.getD_eq_getElem?_getD]
  by_cases h : i < H.length
  · rw [if_pos h, List.getElem?_append_left h, ← List.getD_eq_getElem?_getD]
  · rw [if_neg h, List.getElem?_append_right (by omega)]
    by_cases e : i = H.length
    · rw [if_pos e, e, Nat.sub_self]; rfl
    · rw [if_neg e, List.getElem?_eq_none (by simp; omega)]; rfl
/-- What the lists hold, one more told. -/
def more (H : List Held) (S : Nat → List (List Value)) (xs : List (List Value)) : Nat → List (List Value) := fun i => if i < H.length then S i else xs
/-- A new Book. -/
theorem sbook_new (w : World) (base : Nat) (hb : base ≤ w.heap.size) : SBook (w.alloc (.cells #[.int .i64 0, .slice none 0 0, .slice none 0 0, .slice none 0 0, .slice none 0 0, .slice none 0 0, .slice none 0 0, .slice none 0 0, .slice none 0 0, .slice none 0 0] 38)) base w.heap.size (fun _ => .slice none 0 0) [] (fun _ => []) := by
  have hr := range_new w #[.int .i64 0, .slice none 0 0, .slice none 0 0, .slice none 0 0, .slice none 0 0, .slice none 0 0, .slice none 0 0, .slice none 0 0, .slice none 0 0, .slice none 0 0] 38 _ rfl
  have ht := there_new w #[.int .i64 0, .slice none 0 0, .slice none 0 0, .slice none 0 0, .slice none 0 0, .slice none 0 0, .slice none 0 0, .slice none 0 0, .slice none 0 0, .slice none 0 0] 38
  refine ⟨⟨ht, hr 0 _ rfl, fun j h1 h2 => ?_⟩, fun _ _ _ _ => rfl, ⟨World.ownsRow_nil _ _ _ _, by simp [Value.ownBlock]⟩, fun i hi => by simp at hi, fun i hi => by simp at hi, fun i hi => by simp at hi, fun i hi => by simp at hi, fun i hi => by simp at hi, hb⟩
  have := hr j (.slice none 0 0) (by
    match j, h1, h2 with
    | 1, _, _ | 2, _, _ | 3, _, _ | 4, _, _ | 5, _, _ | 6, _, _ | 7, _, _ | 8, _, _ | 9, _, _ => rfl)
  rwa [Nat.zero_add] at this
end Go.Proofs.YtfmgoehnbaiamaaGreatDoor
-- Walks: rows of sums that are new; slices.Clip and Reverse of sums.
namespace Go.Proofs.YtfmgoehnbaiamaaGreatDoor
/-- A row of sums that is new (from base on), or nil. -/
def SumsNew (w : World) (base : Nat) (v : Value) (l : List Sum) : Prop :=
  (v = .slice none 0 0 ∧ l = []) ∨ ∃ g cap, v = .slice (some ⟨g, 0, none⟩) l.length cap ∧ l ≠ [] ∧ l.length ≤ cap ∧ cap ≤ maxLen ∧ base ≤ g ∧ w.rangeAt g 0 (cellsAll l) ∧ w.there g 0 (32 * cap)
theorem SumsNew.sums {w : World} {base : Nat} {v : Value} {l : List Sum} (h : SumsNew w base v l) : SumsAt w v l := by
  rcases h with ⟨rfl, rfl⟩ | ⟨g, cap, rfl, h0, h1, h2, h3, h4, h5⟩
  · exact ⟨none, 0, rfl, Nat.le_refl _, by unfold maxLen; omega, .inl rfl⟩
  · exact ⟨_, cap, rfl, h1, h2, .inr ⟨g, 0, rfl, h4⟩⟩
theorem SumsNew.own {w : World} {base : Nat} {v : Value} {l : List Sum} (h : SumsNew w base v l) : ∀ k, v.ownBlock = some k → base ≤ k := by
  intro k hk
  rcases h with ⟨rfl, rfl⟩ | ⟨g, cap, rfl, h0, h1, h2, h3, h4, h5⟩
  · cases hk
  · simp only [Value.ownBlock, Option.some.injEq] at hk; omega
theorem SumsNew.keep {X : Nat → Prop} {w w' : World} {base : Nat} {v : Value} {l : List Sum} (h : SumsNew w base v l) (hk : Keeps X w w') (hv : ∀ k, v.ownBlock = some k → ¬ X k) : SumsNew w' base v l := by
  rcases h with ⟨rfl, rfl⟩ | ⟨g, cap, rfl, h0, h1, h2, h3, h4, h5⟩
  · exact .inl ⟨rfl, rfl⟩
  · exact .inr ⟨g, cap, rfl, h0, h1, h2, h3, hk.range h4 (hv g rfl), hk.there h5 (by have := List.length_pos_iff.2 h0; omega) (hv g rfl)⟩
theorem SumsNew.mono {w : World} {base base' : Nat} {v : Value} {l : List Sum} (h : SumsNew w base v l) (hb : base' ≤ base) : SumsNew w base' v l := by
  rcases h with h | ⟨g, cap, rfl, h0, h1, h2, h3, h4, h5⟩
  · exact .inl h
  · exact .inr ⟨g, cap, rfl, h0, h1, h2, by omega, h4, h5⟩
theorem own_new {w : World} {base : Nat} {v : Value} {l : List Sum} (h : w.ownsRow base 24 32 v l.length (cellsAll l)) (h0 : l ≠ []) : SumsNew w base v l := by
  rcases h.2 with ⟨_, h2⟩ | ⟨g, cap, cur, rfl, hb, hg, hnc, hcm, hsz, htk⟩
  · exact (h0 (List.length_eq_zero_iff.1 h2)).elim
  · refine .inr ⟨g, cap, rfl, h0, hnc, hcm, hb, own_sum_range h, fun j hj => ⟨?_, frozen_of_row w g _ cur _ hg⟩⟩
    rw [cell_of_row w g _ cur _ (0, 0) hg, Nat.zero_add, Array.getElem?_eq_getElem (by rw [hsz]; omega)]; rfl
theorem own_new' {w : World} {base : Nat} {v : Value} {l : List Sum} (h : w.ownsRow base 24 32 v l.length (cellsAll l)) (h0 : l = [] → v = .slice none 0 0) : SumsNew w base v l := by
  by_cases hl : l = []
  · exact .inl ⟨h0 hl, hl⟩
  · exact own_new h hl
end Go.Proofs.YtfmgoehnbaiamaaGreatDoor
-- Words of the other seat: lists of sums that lie, parts of the document's text; SameSums.
namespace Go.Proofs.YtfmgoehnbaiamaaGreatDoor
theorem flat_cells (l : List Sum) : (l.map cellsOf).flatten = cellsAll l := by rw [cellsAll, List.flatMap_def]
theorem lie_sums {W : World} {base : Nat} {v : Value} {l : List Sum} (h : Lie W base 32 v (l.map cellsOf)) : SumsAt W v l := by
  rcases h with ⟨rfl, h0⟩ | ⟨g, cap, rfl, _, _, hnc, hcm, hr, _⟩
  · have : l = [] := by simpa using h0
    subst this
    exact ⟨none, 0, rfl, Nat.le_refl _, by unfold maxLen; omega, .inl rfl⟩
  · rw [List.length_map] at hnc ⊢
    rw [flat_cells] at hr
    exact ⟨_, cap, rfl, hnc, hcm, .inr ⟨g, 0, rfl, hr⟩⟩
theorem length_sum (s : Sum) : s.toList.length = 32 := by simp
theorem wp_append_b8 {w : World} {o : Oper} {a : Act} {K : Act → World → Prop} {Q : Exit → Act → World → Prop} (s x : Operand)
    (ho : o.op = .call { callee := .builtin .append, args := #[s, x], argTypes := #[39, 39] })
    (base : Nat) (v : Value) (l ys : List UInt8) (n m : Nat) (_hn : l.length = n) (hm : ys.length = m) (hs : a.eval s = v) (hown : w.ownsRow base 5 1 v n (cells8 l))
    (b off c : Nat) (hx : a.eval x = .slice (some ⟨b, off, none⟩) m c) (hr : w.rangeAt b off (cells8 ys)) (h0 : 0 < m) (hl : n + m < 4000000000000) (hB : base ≤ w.heap.size)
    (h : ∀ g cap w', w'.ownsRow base 5 1 (.slice (some ⟨g, 0, none⟩) (n + m) cap) (n + m) (cells8 (l ++ ys)) → w.grownBy w' v.ownBlock → K (a.put o.dst (.slice (some ⟨g, 0, none⟩) (n + m) cap)) w') : o.wp Tryz.prog a w K Q := by
  obtain ⟨i, hi, hz⟩ := Option.map_eq_some_iff.1 infoByteZ
  simp only [Prod.mk.injEq] at hz
  refine wp_append_lies w s x _ ho base _ i (.int .u8 0) 1 1 Tryz.underlying39 hi hz.1 hz.2.1 hz.2.2 rfl (by omega) v n (cells8 l) hs hown ⟨b, off, none⟩ m c (cells8 ys) hx (by rw [length_cells8, hm]; omega) (fun j u hj => by rw [Addr.add_mid]; exact hr j u hj) (oneCell_cells8 ys) h0 (by unfold maxLen; omega) (by omega) hB w.heap.size rfl ?_
  intro g cap w' ho' hg _ _
  refine h g cap w' ?_ hg
  rw [cells8_append]; exact ho'
theorem append_zero_run {w : World} {base n : Nat} {v : Value} {xs : List Value} (ty : TypeId) (hown : w.ownsRow base 5 1 v n xs) (ad : Option Addr) (c : Nat) : (Builtin.append_ #[39, 39] ty #[v, .slice ad 0 c]).run Tryz.prog w = .ok v w := by
  obtain ⟨i, hi, hz⟩ := Option.map_eq_some_iff.1 infoByteZ
  rcases hown.2 with ⟨rfl, rfl⟩ | ⟨g, cap, cur, rfl, _, _, hnc, _⟩
  · cases ad <;> simp [Builtin.append_, run_underlying Tryz.underlying39, sizeOf, typeInfo, hi, Builtin.lenOf, Builtin.firstCells, loadCells, loadCellsFrom]
  · cases ad <;> simp [Builtin.append_, run_underlying Tryz.underlying39, sizeOf, typeInfo, hi, Builtin.lenOf, Builtin.firstCells, loadCells, loadCellsFrom, hnc, storeCells]
/-- Bytes behind bytes of one's own. -/
theorem wpList_append_bytes {ops : Array Oper} {rest : List Oper} {op : Oper} {a : Act} {w : World} {Q : Exit → Act → World → Prop} (hgd : op.guard = none) (s x : Operand)
    (ho : op.op = .call { callee := .builtin .append, args := #[s, x], argTypes := #[39, 39] })
    (base : Nat) (v vx : Value) (l ys : List UInt8) (n m : Nat) (hn : l.length = n) (hm : ys.length = m) (hs : a.eval s = v) (hown : w.ownsRow base 5 1 v n (cells8 l)) (hx : a.eval x = vx) (hb : BytesAt w vx ys) (hl : n + m < 4000000000) (hB : base ≤ w.heap.size)
    (h : ∀ v' w', w'.ownsRow base 5 1 v' (n + m) (cells8 (l ++ ys)) → w.grownBy w' v.ownBlock → wpList Tryz.prog ops Q rest (a.put op.dst v') w') : wpList Tryz.prog ops Q (op :: rest) a w := by
  refine wpList_plain hgd fun K hK => ?_
  obtain ⟨xa, xc, rfl, h1, h2, h3⟩ := hb
  by_cases h0 : ys = []
  · subst h0
    obtain rfl : m = 0 := hm.symm
    have hrun := append_zero_run (ty := op.type) hown xa xc
    unfold Oper.wp
    simp only [execOp, ho, resolve, invoke, builtin, List.map_toArray, List.map_cons, List.map_nil, hs, hx, Sem.run_bind, Sem.run_pure, Result.andThen_ok, List.length_nil, hrun]
    exact hK _ _ (h v w (by rw [List.append_nil]; exact hown) (World.grownBy.refl w _))
  · obtain ⟨b, off, rfl, hr⟩ := h3.resolve_left h0
    subst hm
    refine wp_append_b8 s x ho base v l ys n ys.length hn rfl hs hown b off xc hx hr (List.length_pos_iff.2 h0) (by omega) hB ?_
    intro g cap w' ho' hg
    exact hK _ _ (h _ w' ho' hg)
end Go.Proofs.YtfmgoehnbaiamaaGreatDoor
-- Walk: a copy of sums, with a mark behind it (TwinSums).
namespace Go.Proofs.YtfmgoehnbaiamaaGreatDoor
/-- A copy of sums: they lie with a mark behind them. -/
def TwinS (W : World) (base : Nat) (v : Value) (l : List Sum) : Prop := ∃ g cap, v = .slice (some ⟨g, 0, none⟩) l.length cap ∧ Lie W base 32 (.slice (some ⟨g, 0, none⟩) (l.length + 1) cap) ((l ++ [mkS 77]).map cellsOf)
theorem TwinS.lie {W : World} {base : Nat} {v : Value} {l : List Sum} (h : TwinS W base v l) : Lie W base 32 v (l.map cellsOf) := by
  obtain ⟨g, cap, rfl, h⟩ := h
  rw [List.map_append] at h
  exact h.front (by rw [List.length_map])
theorem TwinS.sums {W : World} {base : Nat} {v : Value} {l : List Sum} (h : TwinS W base v l) : SumsAt W v l := lie_sums h.lie
theorem TwinS.keep {X : Nat → Prop} {W W' : World} {base : Nat} {v : Value} {l : List Sum} (h : TwinS W base v l) (hk : Keeps X W W') (hx : ∀ k, v.ownBlock = some k → ¬ X k) : TwinS W' base v l := by
  obtain ⟨g, cap, rfl, h⟩ := h
  exact ⟨g, cap, rfl, h.keep hk (fun k hk2 => hx k hk2)⟩
theorem TwinS.below {W W' : World} {base : Nat} {v : Value} {l : List Sum} (h : TwinS W base v l) (hb : Below W.heap.size W W') : TwinS W' base v l := h.keep (Keeps.of_below (X := fun _ => False) hb) (fun _ _ h => h)
theorem twin_nums {n : Nat} (h : n < 900000) : wrap64 ((n : Int) + 1) = ((n + 1 : Nat) : Int) := by unfold wrap64; omega
end Go.Proofs.YtfmgoehnbaiamaaGreatDoor
