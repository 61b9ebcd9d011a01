/-
  Walks: fronts that are not there, or that no call made.
-/
import Derived.Test.YtinncnddfpgclaaW8
import Derived.WalkMore
import Derived.Deep.RegionHeld3
open Go Go.RowKit Alm
namespace Go.Proofs.Ytinncnddfpgclaa
/-- A front that is not there, or that no call made. -/
def Void (w : World) (v : Value) : Prop := v = .pointer none ∨ ∃ p, v = .pointer (some ⟨p, 0, none⟩) ∧ w.cell? ⟨p, 0, none⟩ = some (.int .i64 0)
theorem Void.below {B : Nat} {w w' : World} {v : Value} (h : Void w v) (hb : Below B w w') (hB : w.heap.size ≤ B) : Void w' v := by
  rcases h with rfl | ⟨p, rfl, h⟩
  · exact .inl rfl
  · exact .inr ⟨p, rfl, (hb.cell (p := ⟨p, 0, none⟩) (Nat.lt_of_lt_of_le (World.block_lt_of_cell? w _ h) hB)).trans h⟩
theorem none_void (v : Value) (w : World) (h : Void w v) : Calls Try.prog 38 #[v] w fun e w' => e = .returned (.bool true) ∧ Below w.heap.size w w' := by
  rcases h with rfl | ⟨p, rfl, h⟩
  · go_enter Try.func38, Try.ntmps38
    go_wp2_with fail
    exact bodyPost_ret (results_tmp rfl _ _ _) rfl ⟨rfl, Below.refl _ _⟩
  · go_enter Try.func38, Try.ntmps38
    go_wp2_with fail
    exact bodyPost_ret (results_tmp rfl _ _ _) rfl ⟨rfl, Below.refl _ _⟩
theorem add_void (s : Sum) (v : Value) (w : World) (h : Void w v) : Calls Try.prog 19 #[v, sv s] w fun e w' => e = .returned (.int .i64 2) ∧ Below w.heap.size w w' := by
  have h' := h.below (al (Below.refl _ _) (.cells (cellsOf s).toArray 24)) (Nat.le_refl _)
  have hb := al (Below.refl w.heap.size w) (.cells (cellsOf s).toArray 24)
  go_enter Try.func19, Try.ntmps19
  go_wp2_with fail
  go_step3
  go_wp2_with (go_at_call 38; refine (none_void v _ h').mono ?_; rintro e w1 ⟨rfl, hb1⟩)
  rw [Exit.noGoto_ret]
  exact bodyPost_ret (results_tmp rfl _ _ _) rfl ⟨rfl, hb.trans (hb1.mono hb.size)⟩
theorem size_void (v : Value) (w : World) (h : Void w v) : Calls Try.prog 20 #[v] w fun e w' => e = .returned (.int .u64 0) ∧ Below w.heap.size w w' := by
  go_enter Try.func20, Try.ntmps20
  go_wp2_with (go_at_call 38; refine (none_void v _ h).mono ?_; rintro e w1 ⟨rfl, hb1⟩)
  exact bodyPost_ret (results_tmp rfl _ _ _) rfl ⟨rfl, hb1⟩
theorem sums_void (v : Value) (w : World) (h : Void w v) : Calls Try.prog 22 #[v] w fun e w' => e = .returned (.slice none 0 0) ∧ Below w.heap.size w w' := by
  go_enter Try.func22, Try.ntmps22
  go_wp2_with (go_at_call 38; refine (none_void v _ h).mono ?_; rintro e w1 ⟨rfl, hb1⟩)
  exact bodyPost_ret (results_tmp rfl _ _ _) rfl ⟨rfl, hb1⟩
/-- The sum of noughts. -/
def zeroSum : Sum := Vector.replicate 32 0
theorem cellsOf_zeroSum : cellsOf zeroSum = cells8 (List.replicate 32 0) := by rfl
theorem root_void (v : Value) (w : World) (h : Void w v) : Calls Try.prog 21 #[v] w fun e w' => e = .returned (sv zeroSum) ∧ Below w.heap.size w w' := by
  have R0 : Res w 32 (w.alloc (.cells (cells8 (List.replicate 32 0)).toArray 24)) := Res.start _ _ _ _ (by rfl)
  have h' := h.below R0.below (Nat.le_refl _)
  go_enter Try.func21, Try.ntmps21
  go_wp2_with (first
    | (go_at_call 38; refine (none_void v (w.alloc (.cells (cells8 (List.replicate 32 0)).toArray 24)) h').mono ?_; rintro e w1 ⟨rfl, hb1⟩)
    | (refine wpList_store_sum rfl _ _ rfl w.heap.size 0 zeroSum rfl rfl (R0.call (by omega) hb1).there ?_))
  have RS := (R0.call (by omega) hb1).store (cellsOf zeroSum)
  exact bodyPost_ret (results_sum Try.results21 _ _ _ _ rfl RS.there) rfl ⟨rfl, RS.below⟩
theorem equal_zero (W : World) : (Op.equalIn 10000 24 (.agg (cellsOf zeroSum).toArray) (.agg #[.int .u8 0, .int .u8 0, .int .u8 0, .int .u8 0, .int .u8 0, .int .u8 0, .int .u8 0, .int .u8 0, .int .u8 0, .int .u8 0, .int .u8 0, .int .u8 0, .int .u8 0, .int .u8 0, .int .u8 0, .int .u8 0, .int .u8 0, .int .u8 0, .int .u8 0, .int .u8 0, .int .u8 0, .int .u8 0, .int .u8 0, .int .u8 0, .int .u8 0, .int .u8 0, .int .u8 0, .int .u8 0, .int .u8 0, .int .u8 0, .int .u8 0, .int .u8 0])).run Try.prog W = .ok true W := by kernel_rfl
set_option maxRecDepth 100000 in
set_option maxHeartbeats 1000000 in
theorem frontsNone_any (s : Sum) (w : World) : Calls Try.prog 6 #[sv s] w fun e w' => e = .returned (.bool true) ∧ Below w.heap.size w w' := by
  go_enter Try.func6, Try.ntmps6
  go_wp2_with fail
  have hz8 : cells8 (List.replicate 32 0) = cellsOf zeroSum := cellsOf_zeroSum.symm
  go_loopw [4] (fun v W => ∃ k : Nat, k ≤ 2 ∧ v = .int .i64 (k : Int) ∧ W.rangeAt w.heap.size 0 (cellsOf s) ∧ W.cell? ⟨w.heap.size + 1 + 1, 0, none⟩ = some (.pointer none) ∧ W.cell? ⟨w.heap.size + 1 + 1, 1, none⟩ = some (.pointer (some ⟨w.heap.size + 1, 0, none⟩)) ∧ W.cell? ⟨w.heap.size + 1, 0, none⟩ = some (.int .i64 0) ∧ Below w.heap.size w W) (fun v _ => 2 - (intOf v).toNat)
  case atStart =>
    refine ⟨0, by omega, rfl, World.rangeAt_alloc (World.rangeAt_alloc (range_new w (cellsOf s).toArray 24 _ rfl) _) _, ?_, ?_, ?_, al (al (al (Below.refl _ _) _) _) _⟩
    · have := range_new ((w.alloc (.cells (cellsOf s).toArray 24)).alloc (.cells #[.int .i64 0, .int .u64 0, .slice none 0 0] 40)) #[.pointer none, .pointer (some ⟨w.heap.size + 1, 0, none⟩)] 38 _ rfl 0 _ rfl
      rw [World.size_alloc, World.size_alloc] at this; exact this
    · have := range_new ((w.alloc (.cells (cellsOf s).toArray 24)).alloc (.cells #[.int .i64 0, .int .u64 0, .slice none 0 0] 40)) #[.pointer none, .pointer (some ⟨w.heap.size + 1, 0, none⟩)] 38 _ rfl 1 _ rfl
      rw [World.size_alloc, World.size_alloc] at this; exact this
    · have := range_new (w.alloc (.cells (cellsOf s).toArray 24)) #[.int .i64 0, .int .u64 0, .slice none 0 0] 40 _ rfl
      rw [World.size_alloc] at this
      exact World.rangeAt_alloc this _ 0 _ rfl
  case round =>
    obtain ⟨k, hk, rfl, h1, h2, h3, h4, hB⟩ := hrel
    have hcases : k = 0 ∨ k = 1 ∨ k = 2 := by omega
    have hu := Try.underlying24
    have hi : (Try.prog.info? 24).map (·.size) = some (cellsOf s).length := by rw [length_cellsOf]; exact infoSum
    have key : ∀ W W' : World, (W.rangeAt w.heap.size 0 (cellsOf s) ∧ W.cell? ⟨w.heap.size + 1 + 1, 0, none⟩ = some (.pointer none) ∧ W.cell? ⟨w.heap.size + 1 + 1, 1, none⟩ = some (.pointer (some ⟨w.heap.size + 1, 0, none⟩)) ∧ W.cell? ⟨w.heap.size + 1, 0, none⟩ = some (.int .i64 0) ∧ Below w.heap.size w W) → Below W.heap.size W W' → (W'.rangeAt w.heap.size 0 (cellsOf s) ∧ W'.cell? ⟨w.heap.size + 1 + 1, 0, none⟩ = some (.pointer none) ∧ W'.cell? ⟨w.heap.size + 1 + 1, 1, none⟩ = some (.pointer (some ⟨w.heap.size + 1, 0, none⟩)) ∧ W'.cell? ⟨w.heap.size + 1, 0, none⟩ = some (.int .i64 0) ∧ Below w.heap.size w W') := fun W W' hS hb =>
        ⟨range_below hb hS.1 (range_lt hS.1 (by intro h; have := length_cellsOf s; rw [h] at this; cases this)), (hb.cell (World.block_lt_of_cell? W _ hS.2.1)).trans hS.2.1, (hb.cell (World.block_lt_of_cell? W _ hS.2.2.1)).trans hS.2.2.1, (hb.cell (World.block_lt_of_cell? W _ hS.2.2.2.1)).trans hS.2.2.2.1, hS.2.2.2.2.trans (hb.mono hS.2.2.2.2.size)⟩
    have KEY := Lib.hid key; clear key
    have h0 : wr.rangeAt w.heap.size 0 (cellsOf s) ∧ wr.cell? ⟨w.heap.size + 1 + 1, 0, none⟩ = some (.pointer none) ∧ wr.cell? ⟨w.heap.size + 1 + 1, 1, none⟩ = some (.pointer (some ⟨w.heap.size + 1, 0, none⟩)) ∧ wr.cell? ⟨w.heap.size + 1, 0, none⟩ = some (.int .i64 0) ∧ Below w.heap.size w wr.drew := ⟨h1, h2, h3, h4, hB.drew⟩
    have H0 := Lib.hid h0; clear h0
    have hq := equal_zero
    rcases hcases with rfl | rfl | rfl
    · clear hB
      go_wp2_with fail
      go_region_held3 (fun W => W.rangeAt w.heap.size 0 (cellsOf s) ∧ W.cell? ⟨w.heap.size + 1 + 1, 0, none⟩ = some (.pointer none) ∧ W.cell? ⟨w.heap.size + 1 + 1, 1, none⟩ = some (.pointer (some ⟨w.heap.size + 1, 0, none⟩)) ∧ W.cell? ⟨w.heap.size + 1, 0, none⟩ = some (.int .i64 0) ∧ Below w.heap.size w W) (first | assumption | exact H0.out | exact KEY.out _ _ ‹_› ‹_›) (first
        | (go_at_call 19; refine (add_void s _ _ (.inl rfl)).mono ?_; rintro e w1 ⟨rfl, hb1⟩)
        | (go_at_call 20; refine (size_void _ _ (.inl rfl)).mono ?_; rintro e w2 ⟨rfl, hb2⟩)
        | (go_at_call 21; refine (root_void _ _ (.inl rfl)).mono ?_; rintro e w3 ⟨rfl, hb3⟩)
        | (go_at_call 22; refine (sums_void _ _ (.inl rfl)).mono ?_; rintro e w4 ⟨rfl, hb4⟩))

      go_wp2_with fail
      exact ⟨⟨1, by omega, rfl, by assumption⟩, by simp [intOf]⟩
    · clear hB
      go_wp2_with fail
      go_region_held3 (fun W => W.rangeAt w.heap.size 0 (cellsOf s) ∧ W.cell? ⟨w.heap.size + 1 + 1, 0, none⟩ = some (.pointer none) ∧ W.cell? ⟨w.heap.size + 1 + 1, 1, none⟩ = some (.pointer (some ⟨w.heap.size + 1, 0, none⟩)) ∧ W.cell? ⟨w.heap.size + 1, 0, none⟩ = some (.int .i64 0) ∧ Below w.heap.size w W) (first | assumption | exact H0.out | exact KEY.out _ _ ‹_› ‹_›) (first
        | (go_at_call 19; refine (add_void s _ _ (.inr ⟨_, rfl, (‹_ ∧ _ ∧ _ ∧ _ ∧ _› : _).2.2.2.1⟩)).mono ?_; rintro e w1 ⟨rfl, hb1⟩)
        | (go_at_call 20; refine (size_void _ _ (.inr ⟨_, rfl, (‹_ ∧ _ ∧ _ ∧ _ ∧ _› : _).2.2.2.1⟩)).mono ?_; rintro e w2 ⟨rfl, hb2⟩)
        | (go_at_call 21; refine (root_void _ _ (.inr ⟨_, rfl, (‹_ ∧ _ ∧ _ ∧ _ ∧ _› : _).2.2.2.1⟩)).mono ?_; rintro e w3 ⟨rfl, hb3⟩)
        | (go_at_call 22; refine (sums_void _ _ (.inr ⟨_, rfl, (‹_ ∧ _ ∧ _ ∧ _ ∧ _› : _).2.2.2.1⟩)).mono ?_; rintro e w4 ⟨rfl, hb4⟩))

      go_wp2_with fail
      exact ⟨⟨2, by omega, rfl, by assumption⟩, by simp [intOf]⟩
    · go_wp2_with fail
      exact bodyPost_ret (results_tmp rfl _ _ _) rfl ⟨rfl, hB⟩
end Go.Proofs.Ytinncnddfpgclaa
