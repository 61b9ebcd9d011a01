/-
  Walks: maps that are not there, or that no call made.
-/
import Derived.Test.YtfmgoehnbaiamaaV0
open Go Go.RowKit Alm
namespace Go.Proofs.Ytfmgoehnbaiamaa
/-- A map that is not there, or that no call made. -/
def MVoid (w : World) (v : Value) : Prop := v = .pointer none ∨ ∃ p, v = .pointer (some ⟨p, 0, none⟩) ∧ w.cell? ⟨p, 0, none⟩ = some (.map none)
theorem MVoid.below {w w' : World} {v : Value} (h : MVoid w v) (hb : Below w.heap.size w w') : MVoid w' v := by
  rcases h with rfl | ⟨p, rfl, h⟩
  · exact .inl rfl
  · exact .inr ⟨p, rfl, (hb.cell (p := ⟨p, 0, none⟩) (World.block_lt_of_cell? w _ h)).trans h⟩
theorem map_nil (W : World) : (binOp .eql 50 (.map none) (.map none)).run Try.prog W = .ok (.bool true) W := by kernel_rfl
set_option maxRecDepth 100000 in
theorem mnone_void (v : Value) (w : World) (h : MVoid w v) : Calls Try.prog 49 #[v] w fun e w' => e = .returned (.bool true) ∧ w = w' := by
  have hmap := map_nil
  rcases h with rfl | ⟨p, rfl, h⟩
  · go_enter Try.func49, Try.ntmps49
    go_wp2_with fail
    exact bodyPost_ret (results_tmp rfl _ _ _) rfl ⟨rfl, rfl⟩
  · go_enter Try.func49, Try.ntmps49
    go_wp2_with fail
    exact bodyPost_ret (results_tmp rfl _ _ _) rfl ⟨rfl, rfl⟩
theorem mcopy_void (v : Value) (w : World) (h : MVoid w v) : Calls Try.prog 34 #[v] w fun e w' => e = .returned (.tuple #[.pointer none, .int .i64 2]) ∧ w = w' := by
  go_enter Try.func34, Try.ntmps34
  go_wp2_with (go_at_call 49; refine (mnone_void v _ h).mono ?_; rintro e w1 ⟨rfl, rfl⟩)
  exact bodyPost_ret (results_tmp2 rfl _ _ _) rfl ⟨rfl, rfl⟩
theorem mget_void (k : Sum) (v : Value) (w : World) (h : MVoid w v) : Calls Try.prog 26 #[v, sv k] w fun e w' => e = .returned (.tuple #[.slice none 0 0, .int .i64 2]) ∧ Below w.heap.size w w' := by
  have hb := al (Below.refl _ w) (.cells (cellsOf k).toArray 29)
  have h' := h.below hb
  have HB := Lib.hid hb; clear hb
  go_enter Try.func26, Try.ntmps26
  go_wp2_with (go_at_call 49; refine (mnone_void v _ h').mono ?_; rintro e w1 ⟨rfl, rfl⟩)
  exact bodyPost_ret (results_tmp2 rfl _ _ _) rfl ⟨rfl, HB.out⟩
theorem mput_void (k : Sum) (b : Value) (v : Value) (w : World) (h : MVoid w v) : Calls Try.prog 25 #[v, sv k, b] w fun e w' => e = .returned (.int .i64 2) ∧ Below w.heap.size w w' := by
  have hb := al (Below.refl _ w) (.cells (cellsOf k).toArray 29)
  have h' := h.below hb
  have HB := Lib.hid hb; clear hb
  go_enter Try.func25, Try.ntmps25
  go_wp2_with fail
  go_wp2_with (go_at_call 49; refine (mnone_void v _ h').mono ?_; rintro e w1 ⟨rfl, rfl⟩)
  exact bodyPost_ret (results_tmp rfl _ _ _) rfl ⟨rfl, HB.out⟩
theorem mpairs_void (v : Value) (w : World) (h : MVoid w v) : Calls Try.prog 22 #[v] w fun e w' => e = .returned (.slice none 0 0) ∧ w = w' := by
  go_enter Try.func22, Try.ntmps22
  go_wp2_with (go_at_call 49; refine (mnone_void v _ h).mono ?_; rintro e w1 ⟨rfl, rfl⟩)
  exact bodyPost_ret (results_tmp rfl _ _ _) rfl ⟨rfl, rfl⟩
theorem mroot_void (v : Value) (w : World) (h : MVoid w v) : Calls Try.prog 23 #[v] w fun e w' => e = .returned (sv zeroSum) ∧ Below w.heap.size w w' := by
  have R0 : Res w 32 (w.alloc (.cells (cells8 (List.replicate 32 0)).toArray 29)) := Res.start _ _ _ _ (by rfl)
  have h' := h.below R0.below
  go_enter Try.func23, Try.ntmps23
  go_wp2_with (first
    | (go_at_call 49; refine (mnone_void v (w.alloc (.cells (cells8 (List.replicate 32 0)).toArray 29)) h').mono ?_; rintro e w1 ⟨rfl, rfl⟩)
    | (refine wpList_store_sum rfl _ _ rfl w.heap.size 0 zeroSum rfl rfl R0.there ?_))
  have RS := R0.store (cellsOf zeroSum)
  exact bodyPost_ret (results_sum Try.results23 _ _ _ _ rfl RS.there) rfl ⟨rfl, RS.below⟩
theorem mequal_zero (W : World) : (Op.equalIn 10000 29 (.agg (cellsOf zeroSum).toArray) (.agg #[.int .u8 0, .int .u8 0, .int .u8 0, .int .u8 0, .int .u8 0, .int .u8 0, .int .u8 0, .int .u8 0, .int .u8 0, .int .u8 0, .int .u8 0, .int .u8 0, .int .u8 0, .int .u8 0, .int .u8 0, .int .u8 0, .int .u8 0, .int .u8 0, .int .u8 0, .int .u8 0, .int .u8 0, .int .u8 0, .int .u8 0, .int .u8 0, .int .u8 0, .int .u8 0, .int .u8 0, .int .u8 0, .int .u8 0, .int .u8 0, .int .u8 0, .int .u8 0])).run Try.prog W = .ok true W := by kernel_rfl
/-- What stands in the law's own variables. -/
def MS (w : World) (k : Sum) (W : World) : Prop := W.rangeAt w.heap.size 0 (cellsOf k) ∧ W.cell? ⟨w.heap.size + 1, 0, none⟩ = some (.map none) ∧ W.cell? ⟨w.heap.size + 1 + 1, 0, none⟩ = some (.pointer none) ∧ W.cell? ⟨w.heap.size + 1 + 1, 1, none⟩ = some (.pointer (some ⟨w.heap.size + 1, 0, none⟩)) ∧ Below w.heap.size w W
theorem MS.below {w W W' : World} {k : Sum} (h : MS w k W) (hb : Below W.heap.size W W') : MS w k W' :=
  ⟨(Keeps.of_below (X := fun _ => False) hb).range h.1 (fun h => h), (hb.cell (p := ⟨w.heap.size + 1, 0, none⟩) (World.block_lt_of_cell? W _ h.2.1)).trans h.2.1, (hb.cell (p := ⟨w.heap.size + 1 + 1, 0, none⟩) (World.block_lt_of_cell? W _ h.2.2.1)).trans h.2.2.1, (hb.cell (p := ⟨w.heap.size + 1 + 1, 1, none⟩) (World.block_lt_of_cell? W _ h.2.2.2.1)).trans h.2.2.2.1, h.2.2.2.2.trans (hb.mono h.2.2.2.2.size)⟩
set_option maxRecDepth 100000 in
set_option maxHeartbeats 1000000 in
theorem mapsNone_any (k : Sum) (b : Value) (w : World) : Calls Try.prog 7 #[sv k, b] w fun e w' => e = .returned (.bool true) ∧ Below w.heap.size w w' := by
  go_enter Try.func7, Try.ntmps7
  go_wp2_with fail
  go_loopw [6] (fun v W => ∃ j : Nat, j ≤ 2 ∧ v = .int .i64 (j : Int) ∧ MS w k W) (fun v _ => 2 - (intOf v).toNat)
  case atStart =>
    refine ⟨0, by omega, rfl, World.rangeAt_alloc (World.rangeAt_alloc (range_new w (cellsOf k).toArray 29 _ rfl) _) _, ?_, ?_, ?_, al (al (al (Below.refl _ _) _) _) _⟩
    · have := range_new (w.alloc (.cells (cellsOf k).toArray 29)) #[.map none] 52 _ rfl
      rw [World.size_alloc] at this
      exact World.rangeAt_alloc this _ 0 _ rfl
    · have := range_new ((w.alloc (.cells (cellsOf k).toArray 29)).alloc (.cells #[.map none] 52)) #[.pointer none, .pointer (some ⟨w.heap.size + 1, 0, none⟩)] 25 _ rfl 0 _ rfl
      rw [World.size_alloc, World.size_alloc] at this; exact this
    · have := range_new ((w.alloc (.cells (cellsOf k).toArray 29)).alloc (.cells #[.map none] 52)) #[.pointer none, .pointer (some ⟨w.heap.size + 1, 0, none⟩)] 25 _ rfl 1 _ rfl
      rw [World.size_alloc, World.size_alloc] at this; exact this
  case round =>
    obtain ⟨j, hj, rfl, hS⟩ := hrel
    have HS := Lib.hid hS; clear hS
    have hcases : j = 0 ∨ j = 1 ∨ j = 2 := by omega
    clear hj
    rcases hcases with rfl | rfl | rfl
    · have HC : Hid (∀ V, MS w k V → V.cell? ⟨w.heap.size + 1 + 1, 0, none⟩ = some (.pointer none)) := Lib.hid (fun V h => h.2.2.1)
      have hc := HC.out _ HS.out
      have HP : Hid (∀ V, MS w k V → MVoid V (.pointer none)) := Lib.hid (fun V h => .inl rfl)
      go_wp2_with fail
      refine (mcopy_void _ wr (HP.out _ HS.out)).mono ?_
      rintro e w1 ⟨rfl, rfl⟩
      go_wp2_with fail
      refine wp_region_sched (fun V => V.cell? ⟨w.heap.size + 1 + 1, 0, none⟩ = some (.pointer none) ∧ MS w k V) [.t 0, .t 1, .t 2, .s 3, .e 4 true, .e 5 true, .t 6, .t 7, .t 8, .t 9, .t 10] (by kernel_rfl) (by kernel_rfl) (by intro c a d v w h; cases d <;> exact h) ?_
      replace HS := Lib.hid (HS.out.below (Below.refl _ _).drew)
      clear hc
      generalize wr.drew = V at *
      iterate 3
        refine wpS_t rfl (v := ?_) (by rfl) (fun W => ?_) ?_
        rotate_left
        · go_simp
          try rfl
        try simp only [Act.put, List.setIfInBounds_toArray, List.set_cons_zero, List.set_cons_succ]
      refine wpS_s (by exact ⟨HC.out _ HS.out, HS.out⟩) rfl (v := ?_) (by rfl) (fun W hSW => ?_) ?_
      rotate_left
      · go_simp
        try rfl
      try simp only [Act.put, List.setIfInBounds_toArray, List.set_cons_zero, List.set_cons_succ]
      refine wpS_k rfl (by rfl) (fun K hK => ?_)
      refine wp_load_sum _ (by rfl) w.heap.size 0 (by rfl) k HS.out.1 ?_
      refine hK _ _ ⟨by exact ⟨HC.out _ HS.out, HS.out⟩, ?_⟩; clear hK K
      try simp only [Act.put, List.setIfInBounds_toArray, List.set_cons_zero, List.set_cons_succ]
      refine wpS_k rfl (by rfl) (fun K hK => ?_)
      go_simp
      refine (mget_void k _ V (HP.out _ HS.out)).mono ?_
      rintro e V ⟨rfl, hb⟩
      replace HS := Lib.hid (HS.out.below hb); clear hb
      refine hK _ _ ⟨by exact ⟨HC.out _ HS.out, HS.out⟩, ?_⟩; clear hK K
      try simp only [Act.put, List.setIfInBounds_toArray, List.set_cons_zero, List.set_cons_succ]
      iterate 5
        refine wpS_t rfl (v := ?_) (by rfl) (fun W => ?_) ?_
        rotate_left
        · go_simp
          try rfl
        try simp only [Act.put, List.setIfInBounds_toArray, List.set_cons_zero, List.set_cons_succ]
      refine wpS_done ?_
      go_wp2_with fail
      refine wp_region_sched (fun V => V.cell? ⟨w.heap.size + 1 + 1, 0, none⟩ = some (.pointer none) ∧ MS w k V) [.t 0, .t 1, .t 2, .t 3, .t 4, .t 5, .t 6, .t 7, .t 8, .t 9, .t 10, .t 11, .t 12, .t 13, .t 14, .t 15, .t 16, .t 17, .t 18, .t 21, .s 19, .e 20 true, .e 22 true, .t 23, .t 24, .t 25, .t 26, .t 27, .t 28, .t 31, .e 29 true, .e 30 true, .t 32, .t 33, .t 34, .t 35, .t 36, .t 37, .e 38 true, .e 39 true, .t 40, .t 41, .t 42] (by kernel_rfl) (by kernel_rfl) (by intro c a d v w h; cases d <;> exact h) ?_
      replace HS := Lib.hid (HS.out.below (Below.refl _ _).drew)
      generalize World.drew _ = V at *
      iterate 20
        refine wpS_t rfl (v := ?_) (by rfl) (fun W => ?_) ?_
        rotate_left
        · go_simp
          try rfl
        try simp only [Act.put, List.setIfInBounds_toArray, List.set_cons_zero, List.set_cons_succ]
      refine wpS_s (by exact ⟨HC.out _ HS.out, HS.out⟩) rfl (v := ?_) (by rfl) (fun W hSW => ?_) ?_
      rotate_left
      · go_simp
        try rfl
      try simp only [Act.put, List.setIfInBounds_toArray, List.set_cons_zero, List.set_cons_succ]
      refine wpS_k rfl (by rfl) (fun K hK => ?_)
      refine wp_load_sum _ (by rfl) w.heap.size 0 (by rfl) k HS.out.1 ?_
      refine hK _ _ ⟨by exact ⟨HC.out _ HS.out, HS.out⟩, ?_⟩; clear hK K
      try simp only [Act.put, List.setIfInBounds_toArray, List.set_cons_zero, List.set_cons_succ]
      refine wpS_k rfl (by rfl) (fun K hK => ?_)
      go_simp
      refine (mput_void k _ _ V (HP.out _ HS.out)).mono ?_
      rintro e V ⟨rfl, hb⟩
      replace HS := Lib.hid (HS.out.below hb); clear hb
      refine hK _ _ ⟨by exact ⟨HC.out _ HS.out, HS.out⟩, ?_⟩; clear hK K
      try simp only [Act.put, List.setIfInBounds_toArray, List.set_cons_zero, List.set_cons_succ]
      iterate 7
        refine wpS_t rfl (v := ?_) (by rfl) (fun W => ?_) ?_
        rotate_left
        · go_simp
          try rfl
        try simp only [Act.put, List.setIfInBounds_toArray, List.set_cons_zero, List.set_cons_succ]
      have hc := HC.out _ HS.out
      refine wpS_k rfl (by rfl) (fun K hK => ?_)
      go_simp
      refine hK _ _ ⟨by exact ⟨HC.out _ HS.out, HS.out⟩, ?_⟩; clear hK K
      try simp only [Act.put, List.setIfInBounds_toArray, List.set_cons_zero, List.set_cons_succ]
      clear hc
      refine wpS_k rfl (by rfl) (fun K hK => ?_)
      go_simp
      refine (mroot_void _ V (HP.out _ HS.out)).mono ?_
      rintro e V ⟨rfl, hb⟩
      replace HS := Lib.hid (HS.out.below hb); clear hb
      refine hK _ _ ⟨by exact ⟨HC.out _ HS.out, HS.out⟩, ?_⟩; clear hK K
      try simp only [Act.put, List.setIfInBounds_toArray, List.set_cons_zero, List.set_cons_succ]
      have hq := mequal_zero
      iterate 6
        refine wpS_t rfl (v := ?_) (by rfl) (fun W => ?_) ?_
        rotate_left
        · go_simp
          try rfl
        try simp only [Act.put, List.setIfInBounds_toArray, List.set_cons_zero, List.set_cons_succ]
      clear hq
      have hc := HC.out _ HS.out
      refine wpS_k rfl (by rfl) (fun K hK => ?_)
      go_simp
      refine hK _ _ ⟨by exact ⟨HC.out _ HS.out, HS.out⟩, ?_⟩; clear hK K
      try simp only [Act.put, List.setIfInBounds_toArray, List.set_cons_zero, List.set_cons_succ]
      clear hc
      refine wpS_k rfl (by rfl) (fun K hK => ?_)
      go_simp
      refine (mpairs_void _ V (HP.out _ HS.out)).mono ?_
      rintro e V ⟨rfl, rfl⟩
      refine hK _ _ ⟨by exact ⟨HC.out _ HS.out, HS.out⟩, ?_⟩; clear hK K
      try simp only [Act.put, List.setIfInBounds_toArray, List.set_cons_zero, List.set_cons_succ]
      iterate 3
        refine wpS_t rfl (v := ?_) (by rfl) (fun W => ?_) ?_
        rotate_left
        · go_simp
          try rfl
        try simp only [Act.put, List.setIfInBounds_toArray, List.set_cons_zero, List.set_cons_succ]
      refine wpS_done ?_
      go_wp2_with fail
      exact ⟨⟨1, by omega, rfl, HS.out⟩, by simp [intOf]⟩
    · have HC : Hid (∀ V, MS w k V → V.cell? ⟨w.heap.size + 1 + 1, 1, none⟩ = some (.pointer (some ⟨w.heap.size + 1, 0, none⟩))) := Lib.hid (fun V h => h.2.2.2.1)
      have hc := HC.out _ HS.out
      have HP : Hid (∀ V, MS w k V → MVoid V (.pointer (some ⟨w.heap.size + 1, 0, none⟩))) := Lib.hid (fun V h => .inr ⟨_, rfl, h.2.1⟩)
      go_wp2_with fail
      refine (mcopy_void _ wr (HP.out _ HS.out)).mono ?_
      rintro e w1 ⟨rfl, rfl⟩
      go_wp2_with fail
      refine wp_region_sched (fun V => V.cell? ⟨w.heap.size + 1 + 1, 1, none⟩ = some (.pointer (some ⟨w.heap.size + 1, 0, none⟩)) ∧ MS w k V) [.t 0, .t 1, .t 2, .s 3, .e 4 true, .e 5 true, .t 6, .t 7, .t 8, .t 9, .t 10] (by kernel_rfl) (by kernel_rfl) (by intro c a d v w h; cases d <;> exact h) ?_
      replace HS := Lib.hid (HS.out.below (Below.refl _ _).drew)
      clear hc
      generalize wr.drew = V at *
      iterate 3
        refine wpS_t rfl (v := ?_) (by rfl) (fun W => ?_) ?_
        rotate_left
        · go_simp
          try rfl
        try simp only [Act.put, List.setIfInBounds_toArray, List.set_cons_zero, List.set_cons_succ]
      refine wpS_s (by exact ⟨HC.out _ HS.out, HS.out⟩) rfl (v := ?_) (by rfl) (fun W hSW => ?_) ?_
      rotate_left
      · go_simp
        try rfl
      try simp only [Act.put, List.setIfInBounds_toArray, List.set_cons_zero, List.set_cons_succ]
      refine wpS_k rfl (by rfl) (fun K hK => ?_)
      refine wp_load_sum _ (by rfl) w.heap.size 0 (by rfl) k HS.out.1 ?_
      refine hK _ _ ⟨by exact ⟨HC.out _ HS.out, HS.out⟩, ?_⟩; clear hK K
      try simp only [Act.put, List.setIfInBounds_toArray, List.set_cons_zero, List.set_cons_succ]
      refine wpS_k rfl (by rfl) (fun K hK => ?_)
      go_simp
      refine (mget_void k _ V (HP.out _ HS.out)).mono ?_
      rintro e V ⟨rfl, hb⟩
      replace HS := Lib.hid (HS.out.below hb); clear hb
      refine hK _ _ ⟨by exact ⟨HC.out _ HS.out, HS.out⟩, ?_⟩; clear hK K
      try simp only [Act.put, List.setIfInBounds_toArray, List.set_cons_zero, List.set_cons_succ]
      iterate 5
        refine wpS_t rfl (v := ?_) (by rfl) (fun W => ?_) ?_
        rotate_left
        · go_simp
          try rfl
        try simp only [Act.put, List.setIfInBounds_toArray, List.set_cons_zero, List.set_cons_succ]
      refine wpS_done ?_
      go_wp2_with fail
      refine wp_region_sched (fun V => V.cell? ⟨w.heap.size + 1 + 1, 1, none⟩ = some (.pointer (some ⟨w.heap.size + 1, 0, none⟩)) ∧ MS w k V) [.t 0, .t 1, .t 2, .t 3, .t 4, .t 5, .t 6, .t 7, .t 8, .t 9, .t 10, .t 11, .t 12, .t 13, .t 14, .t 15, .t 16, .t 17, .t 18, .t 21, .s 19, .e 20 true, .e 22 true, .t 23, .t 24, .t 25, .t 26, .t 27, .t 28, .t 31, .e 29 true, .e 30 true, .t 32, .t 33, .t 34, .t 35, .t 36, .t 37, .e 38 true, .e 39 true, .t 40, .t 41, .t 42] (by kernel_rfl) (by kernel_rfl) (by intro c a d v w h; cases d <;> exact h) ?_
      replace HS := Lib.hid (HS.out.below (Below.refl _ _).drew)
      generalize World.drew _ = V at *
      iterate 20
        refine wpS_t rfl (v := ?_) (by rfl) (fun W => ?_) ?_
        rotate_left
        · go_simp
          try rfl
        try simp only [Act.put, List.setIfInBounds_toArray, List.set_cons_zero, List.set_cons_succ]
      refine wpS_s (by exact ⟨HC.out _ HS.out, HS.out⟩) rfl (v := ?_) (by rfl) (fun W hSW => ?_) ?_
      rotate_left
      · go_simp
        try rfl
      try simp only [Act.put, List.setIfInBounds_toArray, List.set_cons_zero, List.set_cons_succ]
      refine wpS_k rfl (by rfl) (fun K hK => ?_)
      refine wp_load_sum _ (by rfl) w.heap.size 0 (by rfl) k HS.out.1 ?_
      refine hK _ _ ⟨by exact ⟨HC.out _ HS.out, HS.out⟩, ?_⟩; clear hK K
      try simp only [Act.put, List.setIfInBounds_toArray, List.set_cons_zero, List.set_cons_succ]
      refine wpS_k rfl (by rfl) (fun K hK => ?_)
      go_simp
      refine (mput_void k _ _ V (HP.out _ HS.out)).mono ?_
      rintro e V ⟨rfl, hb⟩
      replace HS := Lib.hid (HS.out.below hb); clear hb
      refine hK _ _ ⟨by exact ⟨HC.out _ HS.out, HS.out⟩, ?_⟩; clear hK K
      try simp only [Act.put, List.setIfInBounds_toArray, List.set_cons_zero, List.set_cons_succ]
      iterate 7
        refine wpS_t rfl (v := ?_) (by rfl) (fun W => ?_) ?_
        rotate_left
        · go_simp
          try rfl
        try simp only [Act.put, List.setIfInBounds_toArray, List.set_cons_zero, List.set_cons_succ]
      have hc := HC.out _ HS.out
      refine wpS_k rfl (by rfl) (fun K hK => ?_)
      go_simp
      refine hK _ _ ⟨by exact ⟨HC.out _ HS.out, HS.out⟩, ?_⟩; clear hK K
      try simp only [Act.put, List.setIfInBounds_toArray, List.set_cons_zero, List.set_cons_succ]
      clear hc
      refine wpS_k rfl (by rfl) (fun K hK => ?_)
      go_simp
      refine (mroot_void _ V (HP.out _ HS.out)).mono ?_
      rintro e V ⟨rfl, hb⟩
      replace HS := Lib.hid (HS.out.below hb); clear hb
      refine hK _ _ ⟨by exact ⟨HC.out _ HS.out, HS.out⟩, ?_⟩; clear hK K
      try simp only [Act.put, List.setIfInBounds_toArray, List.set_cons_zero, List.set_cons_succ]
      have hq := mequal_zero
      iterate 6
        refine wpS_t rfl (v := ?_) (by rfl) (fun W => ?_) ?_
        rotate_left
        · go_simp
          try rfl
        try simp only [Act.put, List.setIfInBounds_toArray, List.set_cons_zero, List.set_cons_succ]
      clear hq
      have hc := HC.out _ HS.out
      refine wpS_k rfl (by rfl) (fun K hK => ?_)
      go_simp
      refine hK _ _ ⟨by exact ⟨HC.out _ HS.out, HS.out⟩, ?_⟩; clear hK K
      try simp only [Act.put, List.setIfInBounds_toArray, List.set_cons_zero, List.set_cons_succ]
      clear hc
      refine wpS_k rfl (by rfl) (fun K hK => ?_)
      go_simp
      refine (mpairs_void _ V (HP.out _ HS.out)).mono ?_
      rintro e V ⟨rfl, rfl⟩
      refine hK _ _ ⟨by exact ⟨HC.out _ HS.out, HS.out⟩, ?_⟩; clear hK K
      try simp only [Act.put, List.setIfInBounds_toArray, List.set_cons_zero, List.set_cons_succ]
      iterate 3
        refine wpS_t rfl (v := ?_) (by rfl) (fun W => ?_) ?_
        rotate_left
        · go_simp
          try rfl
        try simp only [Act.put, List.setIfInBounds_toArray, List.set_cons_zero, List.set_cons_succ]
      refine wpS_done ?_
      go_wp2_with fail
      exact ⟨⟨2, by omega, rfl, HS.out⟩, by simp [intOf]⟩
    · go_wp2_with fail
      exact bodyPost_ret (results_tmp rfl _ _ _) rfl ⟨rfl, HS.out.2.2.2.2⟩
end Go.Proofs.Ytfmgoehnbaiamaa
