/-
  Walk: shas.eight.took: the eight numbers behind a block (printed by gen_took.py).
-/
import Derived.Test.YtfmgoehnbaiamaaGreatDoorZAH
open Go Go.RowKit Alm
namespace Go.Proofs.YtfmgoehnbaiamaaGreatDoor
theorem And5 {W0 W W' : World} {b o1 o2 o3 o4 : Nat} {v1 v2 v3 v4 : Value} (hb : Below W.heap.size W W') (hl : b < W0.heap.size)
    (h : W.cell? ⟨b, o1, none⟩ = some v1 ∧ W.cell? ⟨b, o2, none⟩ = some v2 ∧ W.cell? ⟨b, o3, none⟩ = some v3 ∧ W.cell? ⟨b, o4, none⟩ = some v4 ∧ Below W0.heap.size W0 W) :
    W'.cell? ⟨b, o1, none⟩ = some v1 ∧ W'.cell? ⟨b, o2, none⟩ = some v2 ∧ W'.cell? ⟨b, o3, none⟩ = some v3 ∧ W'.cell? ⟨b, o4, none⟩ = some v4 ∧ Below W0.heap.size W0 W' := by
  obtain ⟨h1, h2, h3, h4, h5⟩ := h
  have hl' : b < W.heap.size := Nat.lt_of_lt_of_le hl h5.size
  exact ⟨(hb.cell (p := ⟨b, o1, none⟩) hl').trans h1, (hb.cell (p := ⟨b, o2, none⟩) hl').trans h2, (hb.cell (p := ⟨b, o3, none⟩) hl').trans h3, (hb.cell (p := ⟨b, o4, none⟩) hl').trans h4, h5.trans (hb.mono h5.size)⟩
set_option maxRecDepth 100000 in
set_option maxHeartbeats 4000000 in
theorem took_any (s : List UInt32) (b : List UInt8) (w : World) (hs : s.length = 8) (hb : b.length = 64) :
    Calls Tryz.prog 186 #[.agg (cells32 s).toArray, .agg (cells8 b).toArray] w fun e w' => e = .returned (.agg (cells32 (took s b)).toArray) ∧ Below w.heap.size w w' := by
  have Hs := Lib.hid hs; clear hs
  have Hb := Lib.hid hb; clear hb
  go_enter Tryz.func186, Tryz.ntmps186
  go_wp2_with (first
    | (refine wpList_load_mid rfl _ _ rfl (w.heap.size + 1) 0 rfl (cells8 b) (.array 64 5) (World.rangeAt_alloc (World.rangeAt_alloc (by have := range_new (w.alloc (Obj.cells (cells32 s).toArray 231)) (cells8 b).toArray 233 _ rfl; simpa using this) _) _) Tryz.underlying233 rfl (by rw [length_cells8, Hb.out]; kernel_rfl) ?_))
  go_loopw [21] (fun i W => ∃ k : Nat, k ≤ 64 ∧ i = .int .i64 k ∧ Below w.heap.size w W ∧ Row32 W w.heap.size 231 s ∧ Row32 W (w.heap.size + 1 + 1) 231 (List.replicate 8 0) ∧ Row32 W (w.heap.size + 1 + 1 + 1) 241 (words b k)) (fun i _ => 64 - (intOf i).toNat)
  case atStart =>
    refine ⟨0, by omega, rfl, al (al (al (al (Below.refl _ _) _) _) _) _, ?_, ?_, ?_⟩
    · exact Row32.alloc (Row32.alloc (Row32.alloc (Row32.new _ rfl rfl) _) _) _
    · refine Row32.alloc ?_ _
      refine Row32.new _ rfl ?_
      rw [World.size_alloc, World.size_alloc]
    · refine Row32.new _ rfl ?_
      rw [World.size_alloc, World.size_alloc, World.size_alloc]
  case round =>
    obtain ⟨k, hk, rfl, hB, h1, h2, h3⟩ := hrel
    by_cases hlt : k < 64
    · have hix := fun W => run_index_one (P := Tryz.prog) (cells8 b).toArray k _ .i64 Tryz.underlying233 hlt Tryz.sizeOf5 Tryz.isAgg5 (get_cells8 (by rw [Hb.out]; exact hlt)) W
      have hl3 := length_words b k
      have hc3 := h3.cell (i := k / 4) (by omega)
      have hf3 := h3.free (k / 4)
      have hset := h3.set (k / 4) (((words b k).getD (k / 4) 0 <<< 8) ||| (b.getD k 0).toUInt32)
      have e3 := uv_or ((words b k).getD (k / 4) 0 <<< 8) (b.getD k 0).toUInt32
      have e1 := uv_shl ((words b k).getD (k / 4) 0) 8 (by decide)
      have e2 : (((b.getD k 0).toNat : Nat) : Int) % 4294967296 = uv (b.getD k 0).toUInt32 := by
        rw [← uv_byte]; have := (b.getD k 0).toNat_lt; omega
      have Hw := Lib.hid (show words b (k + 1) = (words b k).set (k / 4) (((words b k).getD (k / 4) 0 <<< 8) ||| (b.getD k 0).toUInt32) from rfl)
      rw [show (2 : Int) ^ 8 = 256 from rfl, show UInt32.ofNat 8 = 8 from rfl] at e1
      generalize (words b k).getD (k / 4) 0 = x at *
      generalize b.getD k 0 = c at *
      clear hl3
      have HS := Lib.hid hset; clear hset
      go_wp2_with fail
      refine ⟨⟨k + 1, by omega, by go_num, hB.setCell (by simp; omega) _, h1.other _ _ (by simp; omega), h2.other _ _ (by simp), ?_⟩, by simp [intOf]; omega⟩
      rw [Hw.out]; exact HS.out
    · obtain rfl : k = 64 := by omega
      have hvb := h3.lt
      have hz : Row32 (wr.alloc (.cells (cells32 (List.replicate 8 0)).toArray 231)) wr.heap.size 231 (List.replicate 8 0) := Row32.new _ rfl rfl
      have hsz : (cells32 s).toArray.size = 8 := by simp only [cells32, List.size_toArray, List.length_map]; exact Hs.out
      have hth : (wr.alloc (.cells (cells32 (List.replicate 8 0)).toArray 231)).there wr.heap.size 0 (cells32 s).toArray.size := by
        rw [hsz]; exact hz.there
      clear hsz
      go_wp2_with (first
        | (refine wpList_load_mid rfl _ _ rfl w.heap.size 0 rfl (cells32 s) (.array 8 160) h1.range Tryz.underlying231 rfl (by rw [length_cells32, Hs.out]; exact info8) ?_)
        | (refine wpList_store_mid rfl _ _ _ rfl wr.heap.size 0 _ rfl rfl hth (by rw [List.size_toArray, length_cells32, Hs.out]; exact info8) (all_oneCell_toArray (oneCell_cells32 s)) ?_)
        | (go_at_call 190; refine (table_any _).mono ?_; rintro e w1 ⟨rfl, hb1⟩))
      have g0 := hz.whole (l' := s) (by rw [Hs.out]; rfl)
      have g1 := (h1.alloc (.cells (cells32 (List.replicate 8 0)).toArray 231)).setCells wr.heap.size (by have := h1.lt; omega) 0 (cells32 s)
      have g2 := (h2.alloc (.cells (cells32 (List.replicate 8 0)).toArray 231)).setCells wr.heap.size (by have := h2.lt; omega) 0 (cells32 s)
      have g3 := (h3.alloc (.cells (cells32 (List.replicate 8 0)).toArray 231)).setCells wr.heap.size (by have := h3.lt; omega) 0 (cells32 s)
      have gB := setCells_below wr.heap.size hB.size (cells32 s) 0 _ _ (hB.alloc hB.size (.cells (cells32 (List.replicate 8 0)).toArray 231))
      have f0 := g0.below hb1 g0.lt
      have f1 := g1.below hb1 g1.lt
      have f2 := g2.below hb1 g2.lt
      have f3 := g3.below hb1 g3.lt
      have fB := gB.trans (hb1.mono gB.size)
      clear g0 g1 g2 g3 gB hz hb1 hlt hk h1 h2 h3
      generalize wr.heap.size = vb at *
      clear hB
      go_loopw [39] (fun i W => ∃ k : Nat, k ≤ 64 ∧ i = .int .i64 k ∧ Below w.heap.size w W ∧ Row32 W w.heap.size 231 s ∧ Row32 W (w.heap.size + 1 + 1) 231 (List.replicate 8 0) ∧ Row32 W (w.heap.size + 1 + 1 + 1) 241 (times s b k).2 ∧ Row32 W vb 231 (times s b k).1) (fun i _ => 64 - (intOf i).toNat)
      case atStart =>
        refine ⟨0, by omega, rfl, fB, f1, f2, ?_, ?_⟩
        · simp only [times]; exact f3
        · simp only [times]; exact f0
      case round =>
        clear fB f1 f2 f3 f0
        obtain ⟨k, hk, rfl, hB, h1, h2, h3, h4⟩ := hrel
        by_cases hlt : k < 64
        · have hix := fun W => run_index_one (P := Tryz.prog) (cells32 table).toArray k _ .i64 Tryz.underlying220 hlt Tryz.sizeOf160 Tryz.isAgg160 (get_cells32 (show k < table.length from hlt)) W
          have Ht : Hid (times s b (k + 1) = (time k (table.getD k 0) (times s b k).1 (sched k (times s b k).2), sched k (times s b k).2)) := rfl
          have Hl := Lib.hid (length_times s b Hs.out k)
          generalize table.getD k 0 = tk at *
          generalize times s b k = st at *
          obtain ⟨v, ws⟩ := st
          simp only at h3 h4 Ht Hl
          clear hth
          have ua := uv_add
          have uo := uv_or
          have ux := uv_xor
          have un := uv_and
          obtain ⟨i0, hi0⟩ : ∃ i0, i0 = k % 16 := ⟨_, rfl⟩
          have l0' : i0 < 16 := by omega
          have m0' : (i0 : Int) < 16 := by omega
          have q0 : (k : Int) % 16 = (i0 : Int) := by omega
          have I0 := Lib.hid hi0; clear hi0
          by_cases h16 : k < 16
          · have e16 : sched k ws = ws := if_pos h16
            have k1 := h1
            have k2 := h2
            have k3 : Row32 wr (w.heap.size + 1 + 1 + 1) 241 (sched k ws) := by rw [e16]; exact h3
            have k4 := h4
            have kB := hB
            clear e16 h1 h2 h3 h4 hB
            go_wp2_with fail
            obtain ⟨j4, hj4⟩ : ∃ j, j = turn8 4 k := ⟨_, rfl⟩
            have r4 : IntKind.i64.wrap (4 - (k : Int)) = 4 - (k : Int) := by rw [IntKind.wrap_i64]; omega
            have a4 : bits .and .i64 (4 - (k : Int)) 7 = (j4 : Int) := by rw [hj4]; have := and7 4 k (by omega) (by omega); simpa using this
            have l4 : j4 < 8 := by rw [hj4]; exact turn8_lt _ _
            have m4 : (j4 : Int) < 8 := by omega
            have c4 := k4.cell (i := j4) (by rw [Hl.out.1]; exact l4)
            obtain ⟨x4, hx4⟩ : ∃ x, x = v.getD j4 0 := ⟨_, rfl⟩
            rw [← hx4] at c4
            have J4 := Lib.hid hj4; clear hj4
            have X4 := Lib.hid hx4; clear hx4
            obtain ⟨j5, hj5⟩ : ∃ j, j = turn8 5 k := ⟨_, rfl⟩
            have r5 : IntKind.i64.wrap (5 - (k : Int)) = 5 - (k : Int) := by rw [IntKind.wrap_i64]; omega
            have a5 : bits .and .i64 (5 - (k : Int)) 7 = (j5 : Int) := by rw [hj5]; have := and7 5 k (by omega) (by omega); simpa using this
            have l5 : j5 < 8 := by rw [hj5]; exact turn8_lt _ _
            have m5 : (j5 : Int) < 8 := by omega
            have c5 := k4.cell (i := j5) (by rw [Hl.out.1]; exact l5)
            obtain ⟨x5, hx5⟩ : ∃ x, x = v.getD j5 0 := ⟨_, rfl⟩
            rw [← hx5] at c5
            have J5 := Lib.hid hj5; clear hj5
            have X5 := Lib.hid hx5; clear hx5
            obtain ⟨j6, hj6⟩ : ∃ j, j = turn8 6 k := ⟨_, rfl⟩
            have r6 : IntKind.i64.wrap (6 - (k : Int)) = 6 - (k : Int) := by rw [IntKind.wrap_i64]; omega
            have a6 : bits .and .i64 (6 - (k : Int)) 7 = (j6 : Int) := by rw [hj6]; have := and7 6 k (by omega) (by omega); simpa using this
            have l6 : j6 < 8 := by rw [hj6]; exact turn8_lt _ _
            have m6 : (j6 : Int) < 8 := by omega
            have c6 := k4.cell (i := j6) (by rw [Hl.out.1]; exact l6)
            obtain ⟨x6, hx6⟩ : ∃ x, x = v.getD j6 0 := ⟨_, rfl⟩
            rw [← hx6] at c6
            have J6 := Lib.hid hj6; clear hj6
            have X6 := Lib.hid hx6; clear hx6
            obtain ⟨j0, hj0⟩ : ∃ j, j = turn8 0 k := ⟨_, rfl⟩
            have r0 : IntKind.i64.wrap (-(k : Int)) = -(k : Int) := by rw [IntKind.wrap_i64]; omega
            have a0 : bits .and .i64 (-(k : Int)) 7 = (j0 : Int) := by rw [hj0]; have := and7 0 k (by omega) (by omega); simpa using this
            have l0 : j0 < 8 := by rw [hj0]; exact turn8_lt _ _
            have m0 : (j0 : Int) < 8 := by omega
            have c0 := k4.cell (i := j0) (by rw [Hl.out.1]; exact l0)
            obtain ⟨x0, hx0⟩ : ∃ x, x = v.getD j0 0 := ⟨_, rfl⟩
            rw [← hx0] at c0
            have J0 := Lib.hid hj0; clear hj0
            have X0 := Lib.hid hx0; clear hx0
            obtain ⟨j1, hj1⟩ : ∃ j, j = turn8 1 k := ⟨_, rfl⟩
            have r1 : IntKind.i64.wrap (1 - (k : Int)) = 1 - (k : Int) := by rw [IntKind.wrap_i64]; omega
            have a1 : bits .and .i64 (1 - (k : Int)) 7 = (j1 : Int) := by rw [hj1]; have := and7 1 k (by omega) (by omega); simpa using this
            have l1 : j1 < 8 := by rw [hj1]; exact turn8_lt _ _
            have m1 : (j1 : Int) < 8 := by omega
            have c1 := k4.cell (i := j1) (by rw [Hl.out.1]; exact l1)
            obtain ⟨x1, hx1⟩ : ∃ x, x = v.getD j1 0 := ⟨_, rfl⟩
            rw [← hx1] at c1
            have J1 := Lib.hid hj1; clear hj1
            have X1 := Lib.hid hx1; clear hx1
            obtain ⟨j2, hj2⟩ : ∃ j, j = turn8 2 k := ⟨_, rfl⟩
            have r2 : IntKind.i64.wrap (2 - (k : Int)) = 2 - (k : Int) := by rw [IntKind.wrap_i64]; omega
            have a2 : bits .and .i64 (2 - (k : Int)) 7 = (j2 : Int) := by rw [hj2]; have := and7 2 k (by omega) (by omega); simpa using this
            have l2 : j2 < 8 := by rw [hj2]; exact turn8_lt _ _
            have m2 : (j2 : Int) < 8 := by omega
            have c2 := k4.cell (i := j2) (by rw [Hl.out.1]; exact l2)
            obtain ⟨x2, hx2⟩ : ∃ x, x = v.getD j2 0 := ⟨_, rfl⟩
            rw [← hx2] at c2
            have J2 := Lib.hid hj2; clear hj2
            have X2 := Lib.hid hx2; clear hx2
            obtain ⟨j7, hj7⟩ : ∃ j, j = turn8 7 k := ⟨_, rfl⟩
            have r7 : IntKind.i64.wrap (7 - (k : Int)) = 7 - (k : Int) := by rw [IntKind.wrap_i64]; omega
            have a7 : bits .and .i64 (7 - (k : Int)) 7 = (j7 : Int) := by rw [hj7]; have := and7 7 k (by omega) (by omega); simpa using this
            have l7 : j7 < 8 := by rw [hj7]; exact turn8_lt _ _
            have m7 : (j7 : Int) < 8 := by omega
            have c7 := k4.cell (i := j7) (by rw [Hl.out.1]; exact l7)
            obtain ⟨x7, hx7⟩ : ∃ x, x = v.getD j7 0 := ⟨_, rfl⟩
            rw [← hx7] at c7
            have J7 := Lib.hid hj7; clear hj7
            have X7 := Lib.hid hx7; clear hx7
            obtain ⟨j3, hj3⟩ : ∃ j, j = turn8 3 k := ⟨_, rfl⟩
            have r3 : IntKind.i64.wrap (3 - (k : Int)) = 3 - (k : Int) := by rw [IntKind.wrap_i64]; omega
            have a3 : bits .and .i64 (3 - (k : Int)) 7 = (j3 : Int) := by rw [hj3]; have := and7 3 k (by omega) (by omega); simpa using this
            have l3 : j3 < 8 := by rw [hj3]; exact turn8_lt _ _
            have m3 : (j3 : Int) < 8 := by omega
            have c3 := k4.cell (i := j3) (by rw [Hl.out.1]; exact l3)
            obtain ⟨x3, hx3⟩ : ∃ x, x = v.getD j3 0 := ⟨_, rfl⟩
            rw [← hx3] at c3
            have J3 := Lib.hid hj3; clear hj3
            have X3 := Lib.hid hx3; clear hx3
            have ci := k3.cell (i := i0) (by rw [length_sched]; rw [Hl.out.2]; exact l0')
            obtain ⟨yy, hyy⟩ : ∃ x, x = (sched k ws).getD i0 0 := ⟨_, rfl⟩
            rw [← hyy] at ci
            have YY := Lib.hid hyy; clear hyy
            have f3 := k4.free j3
            have hset := k4.set j3 (x3 + (x7 + tk + yy + three x4 6 11 25 + (x4 &&& (x5 ^^^ x6) ^^^ x6)))
            have d7 := hset.cell (i := j7) (by rw [List.length_set]; rw [Hl.out.1]; exact l7)
            have g7 := hset.free j7
            have hset2 := hset.set j7 ((x7 + tk + yy + three x4 6 11 25 + (x4 &&& (x5 ^^^ x6) ^^^ x6)) + three x0 2 13 22 + (x0 &&& (x1 ||| x2) ||| x1 &&& x2))
            obtain ⟨z7, hz7⟩ : ∃ z, z = (v.set j3 (x3 + (x7 + tk + yy + three x4 6 11 25 + (x4 &&& (x5 ^^^ x6) ^^^ x6)))).getD j7 0 := ⟨_, rfl⟩
            rw [← hz7] at d7
            clear hz7 hset
            have HS := Lib.hid hset2; clear hset2
            go_wp2_with fail
            go_region_held3 (fun W => W.cell? ⟨vb, j4, none⟩ = some (.int .u32 (uv x4)) ∧ W.cell? ⟨vb, j5, none⟩ = some (.int .u32 (uv x5)) ∧ W.cell? ⟨vb, j6, none⟩ = some (.int .u32 (uv x6))) (first | assumption | exact ⟨c4, c5, c6⟩) (fail)
            go_wp2_with fail
            go_region_held3 (fun W => W.cell? ⟨vb, j0, none⟩ = some (.int .u32 (uv x0)) ∧ W.cell? ⟨vb, j1, none⟩ = some (.int .u32 (uv x1)) ∧ W.cell? ⟨vb, j2, none⟩ = some (.int .u32 (uv x2))) (first | assumption | exact ⟨c0, c1, c2⟩) (fail)
            go_wp2_with fail
            go_region_held3 (fun W => W.cell? ⟨vb, j7, none⟩ = some (.int .u32 (uv x7)) ∧ W.cell? ⟨w.heap.size + 1 + 1 + 1, i0, none⟩ = some (.int .u32 (uv yy))) (first | assumption | exact ⟨c7, ci⟩) ((go_at_call 192; (with_reducible refine (three_a x4 _).mono ?_); rintro e w' ⟨rfl, rfl⟩))
            go_wp2_with (go_at_call 192; (with_reducible refine (three_b x0 _).mono ?_); rintro e w' ⟨rfl, rfl⟩)
            refine ⟨⟨k + 1, by omega, by go_num, ?_, ?_, ?_, ?_, ?_⟩, by simp [intOf]; omega⟩
            · exact (((((kB.setCell (p := ⟨vb, j3, none⟩) (by simp; omega) _).setCell (p := ⟨vb, j7, none⟩) (by simp; omega) _).drew).drew).drew)
            · exact ((k1.other ⟨vb, j3, none⟩ _ (by simp; omega)).other ⟨vb, j7, none⟩ _ (by simp; omega))
            · exact ((k2.other ⟨vb, j3, none⟩ _ (by simp; omega)).other ⟨vb, j7, none⟩ _ (by simp; omega))
            · rw [Ht.out]; exact ((k3.other ⟨vb, j3, none⟩ _ (by simp; omega)).other ⟨vb, j7, none⟩ _ (by simp; omega))
            · rw [Ht.out]
              have ht : time k tk v (sched k ws) = (v.set j3 (x3 + (x7 + tk + yy + three x4 6 11 25 + (x4 &&& (x5 ^^^ x6) ^^^ x6)))).set j7 ((x7 + tk + yy + three x4 6 11 25 + (x4 &&& (x5 ^^^ x6) ^^^ x6)) + three x0 2 13 22 + (x0 &&& (x1 ||| x2) ||| x1 &&& x2)) := by
                rw [X0.out, X1.out, X2.out, X3.out, X4.out, X5.out, X6.out, X7.out, YY.out, J0.out, J1.out, J2.out, J3.out, J4.out, J5.out, J6.out, J7.out, I0.out]; rfl
              show Row32 _ _ _ (time k tk v (sched k ws))
              rw [ht]; exact HS.out
          · have cw0 := h3.cell (i := i0) (by rw [Hl.out.2]; exact l0')
            obtain ⟨y0, hy0⟩ : ∃ x, x = ws.getD i0 0 := ⟨_, rfl⟩
            rw [← hy0] at cw0
            have Y0 := Lib.hid hy0; clear hy0
            obtain ⟨n1, hn1⟩ : ∃ j, j = (k + 1) % 16 := ⟨_, rfl⟩
            have rw1 : IntKind.i64.wrap ((k : Int) + 1) = (k : Int) + 1 := by rw [IntKind.wrap_i64]; omega
            have tm1 : ((k : Int) + 1).tmod 16 = (n1 : Int) := by rw [Int.tmod_eq_emod_of_nonneg (by omega)]; omega
            have em1 : ((k : Int) + 1) % 16 = (n1 : Int) := by omega
            have ln1 : n1 < 16 := by omega
            have mn1 : (n1 : Int) < 16 := by omega
            have cw1 := h3.cell (i := n1) (by rw [Hl.out.2]; exact ln1)
            obtain ⟨y1, hy1⟩ : ∃ x, x = ws.getD n1 0 := ⟨_, rfl⟩
            rw [← hy1] at cw1
            have N1 := Lib.hid hn1; clear hn1
            have Y1 := Lib.hid hy1; clear hy1
            obtain ⟨n9, hn9⟩ : ∃ j, j = (k + 9) % 16 := ⟨_, rfl⟩
            have rw9 : IntKind.i64.wrap ((k : Int) + 9) = (k : Int) + 9 := by rw [IntKind.wrap_i64]; omega
            have tm9 : ((k : Int) + 9).tmod 16 = (n9 : Int) := by rw [Int.tmod_eq_emod_of_nonneg (by omega)]; omega
            have em9 : ((k : Int) + 9) % 16 = (n9 : Int) := by omega
            have ln9 : n9 < 16 := by omega
            have mn9 : (n9 : Int) < 16 := by omega
            have cw9 := h3.cell (i := n9) (by rw [Hl.out.2]; exact ln9)
            obtain ⟨y9, hy9⟩ : ∃ x, x = ws.getD n9 0 := ⟨_, rfl⟩
            rw [← hy9] at cw9
            have N9 := Lib.hid hn9; clear hn9
            have Y9 := Lib.hid hy9; clear hy9
            obtain ⟨n14, hn14⟩ : ∃ j, j = (k + 14) % 16 := ⟨_, rfl⟩
            have rw14 : IntKind.i64.wrap ((k : Int) + 14) = (k : Int) + 14 := by rw [IntKind.wrap_i64]; omega
            have tm14 : ((k : Int) + 14).tmod 16 = (n14 : Int) := by rw [Int.tmod_eq_emod_of_nonneg (by omega)]; omega
            have em14 : ((k : Int) + 14) % 16 = (n14 : Int) := by omega
            have ln14 : n14 < 16 := by omega
            have mn14 : (n14 : Int) < 16 := by omega
            have cw14 := h3.cell (i := n14) (by rw [Hl.out.2]; exact ln14)
            obtain ⟨y14, hy14⟩ : ∃ x, x = ws.getD n14 0 := ⟨_, rfl⟩
            rw [← hy14] at cw14
            have N14 := Lib.hid hn14; clear hn14
            have Y14 := Lib.hid hy14; clear hy14
            go_wp2_with fail
            refine wp_region_quiet_put (fun W => W.cell? ⟨w.heap.size + 1 + 1 + 1, i0, none⟩ = some (.int .u32 (uv y0)) ∧ W.cell? ⟨w.heap.size + 1 + 1 + 1, n1, none⟩ = some (.int .u32 (uv y1)) ∧ W.cell? ⟨w.heap.size + 1 + 1 + 1, n9, none⟩ = some (.int .u32 (uv y9)) ∧ W.cell? ⟨w.heap.size + 1 + 1 + 1, n14, none⟩ = some (.int .u32 (uv y14)) ∧ Below wr.heap.size wr W) (by kernel_rfl) (by simp) rfl rfl (by kernel_rfl) (by kernel_rfl) (by kernel_rfl) ⟨cw0, cw1, cw9, cw14, (Below.refl _ _).drew⟩ ?_
            simp only [List.dropLast_cons_cons, List.dropLast_singleton, List.getLast_cons_cons, List.getLast_singleton, List.cons_append, List.nil_append, idle]
            iterate 8
              refine wpQuiet_take rfl (v := ?_) (fun W hS => ?_) ?_
              rotate_left
              · obtain ⟨s1, s2, s3, s4, s5⟩ := hS
                go_simp
                rfl
              rotate_left
              try simp only [Act.put, List.setIfInBounds_toArray, List.set_cons_zero, List.set_cons_succ]
            refine wpQuiet_take rfl (v := .int .u32 (uv (two y1 7 18 3))) (fun W hS => ?_) ?_
            · go_simp
              refine (two_a y1 _).mono ?_
              rintro e w' ⟨rfl, hb⟩
              exact ⟨rfl, And5 hb (World.block_lt_of_cell? _ _ cw0) hS⟩
            try simp only [Act.put, List.setIfInBounds_toArray, List.set_cons_zero, List.set_cons_succ]
            iterate 11
              refine wpQuiet_take rfl (v := ?_) (fun W hS => ?_) ?_
              rotate_left
              · obtain ⟨s1, s2, s3, s4, s5⟩ := hS
                go_simp
                rfl
              rotate_left
              try simp only [Act.put, List.setIfInBounds_toArray, List.set_cons_zero, List.set_cons_succ]
            refine wpQuiet_take rfl (v := .int .u32 (uv (two y14 17 19 10))) (fun W hS => ?_) ?_
            · go_simp
              refine (two_b y14 _).mono ?_
              rintro e w' ⟨rfl, hb⟩
              exact ⟨rfl, And5 hb (World.block_lt_of_cell? _ _ cw0) hS⟩
            try simp only [Act.put, List.setIfInBounds_toArray, List.set_cons_zero, List.set_cons_succ]
            iterate 3
              refine wpQuiet_take rfl (v := ?_) (fun W hS => ?_) ?_
              rotate_left
              · obtain ⟨s1, s2, s3, s4, s5⟩ := hS
                go_simp
                rfl
              rotate_left
              try simp only [Act.put, List.setIfInBounds_toArray, List.set_cons_zero, List.set_cons_succ]
            refine wpQuiet_nil ?_
            intro W hS
            obtain ⟨s1, _, _, _, s5⟩ := hS
            have p3 := h3.below s5 h3.lt
            have fw0 := p3.free i0
            have k1 := (h1.below s5 h1.lt).other ⟨w.heap.size + 1 + 1 + 1, i0, none⟩ (.int .u32 (uv (y0 + (two y1 7 18 3 + y9 + two y14 17 19 10)))) (by simp; omega)
            have k2 := (h2.below s5 h2.lt).other ⟨w.heap.size + 1 + 1 + 1, i0, none⟩ (.int .u32 (uv (y0 + (two y1 7 18 3 + y9 + two y14 17 19 10)))) (by simp)
            have k4 := (h4.below s5 h4.lt).other ⟨w.heap.size + 1 + 1 + 1, i0, none⟩ (.int .u32 (uv (y0 + (two y1 7 18 3 + y9 + two y14 17 19 10)))) (by simp; omega)
            have k3 := p3.set i0 (y0 + (two y1 7 18 3 + y9 + two y14 17 19 10))
            have kB := (hB.trans (s5.mono hB.size)).setCell (p := ⟨w.heap.size + 1 + 1 + 1, i0, none⟩) (by simp; omega) (.int .u32 (uv (y0 + (two y1 7 18 3 + y9 + two y14 17 19 10))))
            have e16 : sched k ws = ws.set i0 (y0 + (two y1 7 18 3 + y9 + two y14 17 19 10)) := by rw [Y0.out, Y1.out, Y9.out, Y14.out, N1.out, N9.out, N14.out, I0.out]; exact if_neg h16
            rw [← e16] at k3
            have K1 := Lib.hid k1; clear k1
            have K2 := Lib.hid k2; clear k2
            have K3 := Lib.hid k3; clear k3
            have K4 := Lib.hid k4; clear k4
            have KB := Lib.hid kB; clear kB
            clear e16 h1 h2 h3 h4 hB p3 cw0 cw1 cw9 cw14 s5
            rename_i _
            go_simp
            generalize W.setCell ⟨w.heap.size + 1 + 1 + 1, i0, none⟩ (.int .u32 (uv (y0 + (two y1 7 18 3 + y9 + two y14 17 19 10)))) = W2 at K1 K2 K3 K4 KB ⊢
            have k1 := K1.out; clear K1
            have k2 := K2.out; clear K2
            have k3 := K3.out; clear K3
            have k4 := K4.out; clear K4
            have kB := KB.out; clear KB
            clear s1 fw0 rw1 tm1 em1 ln1 mn1 N1 Y1 rw9 tm9 em9 ln9 mn9 N9 Y9 rw14 tm14 em14 ln14 mn14 N14 Y14 Y0
            go_wp2_with fail
            obtain ⟨j4, hj4⟩ : ∃ j, j = turn8 4 k := ⟨_, rfl⟩
            have r4 : IntKind.i64.wrap (4 - (k : Int)) = 4 - (k : Int) := by rw [IntKind.wrap_i64]; omega
            have a4 : bits .and .i64 (4 - (k : Int)) 7 = (j4 : Int) := by rw [hj4]; have := and7 4 k (by omega) (by omega); simpa using this
            have l4 : j4 < 8 := by rw [hj4]; exact turn8_lt _ _
            have m4 : (j4 : Int) < 8 := by omega
            have c4 := k4.cell (i := j4) (by rw [Hl.out.1]; exact l4)
            obtain ⟨x4, hx4⟩ : ∃ x, x = v.getD j4 0 := ⟨_, rfl⟩
            rw [← hx4] at c4
            have J4 := Lib.hid hj4; clear hj4
            have X4 := Lib.hid hx4; clear hx4
            obtain ⟨j5, hj5⟩ : ∃ j, j = turn8 5 k := ⟨_, rfl⟩
            have r5 : IntKind.i64.wrap (5 - (k : Int)) = 5 - (k : Int) := by rw [IntKind.wrap_i64]; omega
            have a5 : bits .and .i64 (5 - (k : Int)) 7 = (j5 : Int) := by rw [hj5]; have := and7 5 k (by omega) (by omega); simpa using this
            have l5 : j5 < 8 := by rw [hj5]; exact turn8_lt _ _
            have m5 : (j5 : Int) < 8 := by omega
            have c5 := k4.cell (i := j5) (by rw [Hl.out.1]; exact l5)
            obtain ⟨x5, hx5⟩ : ∃ x, x = v.getD j5 0 := ⟨_, rfl⟩
            rw [← hx5] at c5
            have J5 := Lib.hid hj5; clear hj5
            have X5 := Lib.hid hx5; clear hx5
            obtain ⟨j6, hj6⟩ : ∃ j, j = turn8 6 k := ⟨_, rfl⟩
            have r6 : IntKind.i64.wrap (6 - (k : Int)) = 6 - (k : Int) := by rw [IntKind.wrap_i64]; omega
            have a6 : bits .and .i64 (6 - (k : Int)) 7 = (j6 : Int) := by rw [hj6]; have := and7 6 k (by omega) (by omega); simpa using this
            have l6 : j6 < 8 := by rw [hj6]; exact turn8_lt _ _
            have m6 : (j6 : Int) < 8 := by omega
            have c6 := k4.cell (i := j6) (by rw [Hl.out.1]; exact l6)
            obtain ⟨x6, hx6⟩ : ∃ x, x = v.getD j6 0 := ⟨_, rfl⟩
            rw [← hx6] at c6
            have J6 := Lib.hid hj6; clear hj6
            have X6 := Lib.hid hx6; clear hx6
            obtain ⟨j0, hj0⟩ : ∃ j, j = turn8 0 k := ⟨_, rfl⟩
            have r0 : IntKind.i64.wrap (-(k : Int)) = -(k : Int) := by rw [IntKind.wrap_i64]; omega
            have a0 : bits .and .i64 (-(k : Int)) 7 = (j0 : Int) := by rw [hj0]; have := and7 0 k (by omega) (by omega); simpa using this
            have l0 : j0 < 8 := by rw [hj0]; exact turn8_lt _ _
            have m0 : (j0 : Int) < 8 := by omega
            have c0 := k4.cell (i := j0) (by rw [Hl.out.1]; exact l0)
            obtain ⟨x0, hx0⟩ : ∃ x, x = v.getD j0 0 := ⟨_, rfl⟩
            rw [← hx0] at c0
            have J0 := Lib.hid hj0; clear hj0
            have X0 := Lib.hid hx0; clear hx0
            obtain ⟨j1, hj1⟩ : ∃ j, j = turn8 1 k := ⟨_, rfl⟩
            have r1 : IntKind.i64.wrap (1 - (k : Int)) = 1 - (k : Int) := by rw [IntKind.wrap_i64]; omega
            have a1 : bits .and .i64 (1 - (k : Int)) 7 = (j1 : Int) := by rw [hj1]; have := and7 1 k (by omega) (by omega); simpa using this
            have l1 : j1 < 8 := by rw [hj1]; exact turn8_lt _ _
            have m1 : (j1 : Int) < 8 := by omega
            have c1 := k4.cell (i := j1) (by rw [Hl.out.1]; exact l1)
            obtain ⟨x1, hx1⟩ : ∃ x, x = v.getD j1 0 := ⟨_, rfl⟩
            rw [← hx1] at c1
            have J1 := Lib.hid hj1; clear hj1
            have X1 := Lib.hid hx1; clear hx1
            obtain ⟨j2, hj2⟩ : ∃ j, j = turn8 2 k := ⟨_, rfl⟩
            have r2 : IntKind.i64.wrap (2 - (k : Int)) = 2 - (k : Int) := by rw [IntKind.wrap_i64]; omega
            have a2 : bits .and .i64 (2 - (k : Int)) 7 = (j2 : Int) := by rw [hj2]; have := and7 2 k (by omega) (by omega); simpa using this
            have l2 : j2 < 8 := by rw [hj2]; exact turn8_lt _ _
            have m2 : (j2 : Int) < 8 := by omega
            have c2 := k4.cell (i := j2) (by rw [Hl.out.1]; exact l2)
            obtain ⟨x2, hx2⟩ : ∃ x, x = v.getD j2 0 := ⟨_, rfl⟩
            rw [← hx2] at c2
            have J2 := Lib.hid hj2; clear hj2
            have X2 := Lib.hid hx2; clear hx2
            obtain ⟨j7, hj7⟩ : ∃ j, j = turn8 7 k := ⟨_, rfl⟩
            have r7 : IntKind.i64.wrap (7 - (k : Int)) = 7 - (k : Int) := by rw [IntKind.wrap_i64]; omega
            have a7 : bits .and .i64 (7 - (k : Int)) 7 = (j7 : Int) := by rw [hj7]; have := and7 7 k (by omega) (by omega); simpa using this
            have l7 : j7 < 8 := by rw [hj7]; exact turn8_lt _ _
            have m7 : (j7 : Int) < 8 := by omega
            have c7 := k4.cell (i := j7) (by rw [Hl.out.1]; exact l7)
            obtain ⟨x7, hx7⟩ : ∃ x, x = v.getD j7 0 := ⟨_, rfl⟩
            rw [← hx7] at c7
            have J7 := Lib.hid hj7; clear hj7
            have X7 := Lib.hid hx7; clear hx7
            obtain ⟨j3, hj3⟩ : ∃ j, j = turn8 3 k := ⟨_, rfl⟩
            have r3 : IntKind.i64.wrap (3 - (k : Int)) = 3 - (k : Int) := by rw [IntKind.wrap_i64]; omega
            have a3 : bits .and .i64 (3 - (k : Int)) 7 = (j3 : Int) := by rw [hj3]; have := and7 3 k (by omega) (by omega); simpa using this
            have l3 : j3 < 8 := by rw [hj3]; exact turn8_lt _ _
            have m3 : (j3 : Int) < 8 := by omega
            have c3 := k4.cell (i := j3) (by rw [Hl.out.1]; exact l3)
            obtain ⟨x3, hx3⟩ : ∃ x, x = v.getD j3 0 := ⟨_, rfl⟩
            rw [← hx3] at c3
            have J3 := Lib.hid hj3; clear hj3
            have X3 := Lib.hid hx3; clear hx3
            have ci := k3.cell (i := i0) (by rw [length_sched]; rw [Hl.out.2]; exact l0')
            obtain ⟨yy, hyy⟩ : ∃ x, x = (sched k ws).getD i0 0 := ⟨_, rfl⟩
            rw [← hyy] at ci
            have YY := Lib.hid hyy; clear hyy
            have f3 := k4.free j3
            have hset := k4.set j3 (x3 + (x7 + tk + yy + three x4 6 11 25 + (x4 &&& (x5 ^^^ x6) ^^^ x6)))
            have d7 := hset.cell (i := j7) (by rw [List.length_set]; rw [Hl.out.1]; exact l7)
            have g7 := hset.free j7
            have hset2 := hset.set j7 ((x7 + tk + yy + three x4 6 11 25 + (x4 &&& (x5 ^^^ x6) ^^^ x6)) + three x0 2 13 22 + (x0 &&& (x1 ||| x2) ||| x1 &&& x2))
            obtain ⟨z7, hz7⟩ : ∃ z, z = (v.set j3 (x3 + (x7 + tk + yy + three x4 6 11 25 + (x4 &&& (x5 ^^^ x6) ^^^ x6)))).getD j7 0 := ⟨_, rfl⟩
            rw [← hz7] at d7
            clear hz7 hset
            have HS := Lib.hid hset2; clear hset2
            go_wp2_with fail
            go_region_held3 (fun W => W.cell? ⟨vb, j4, none⟩ = some (.int .u32 (uv x4)) ∧ W.cell? ⟨vb, j5, none⟩ = some (.int .u32 (uv x5)) ∧ W.cell? ⟨vb, j6, none⟩ = some (.int .u32 (uv x6))) (first | assumption | exact ⟨c4, c5, c6⟩) (fail)
            go_wp2_with fail
            go_region_held3 (fun W => W.cell? ⟨vb, j0, none⟩ = some (.int .u32 (uv x0)) ∧ W.cell? ⟨vb, j1, none⟩ = some (.int .u32 (uv x1)) ∧ W.cell? ⟨vb, j2, none⟩ = some (.int .u32 (uv x2))) (first | assumption | exact ⟨c0, c1, c2⟩) (fail)
            go_wp2_with fail
            go_region_held3 (fun W => W.cell? ⟨vb, j7, none⟩ = some (.int .u32 (uv x7)) ∧ W.cell? ⟨w.heap.size + 1 + 1 + 1, i0, none⟩ = some (.int .u32 (uv yy))) (first | assumption | exact ⟨c7, ci⟩) ((go_at_call 192; (with_reducible refine (three_a x4 _).mono ?_); rintro e w' ⟨rfl, rfl⟩))
            go_wp2_with (go_at_call 192; (with_reducible refine (three_b x0 _).mono ?_); rintro e w' ⟨rfl, rfl⟩)
            refine ⟨⟨k + 1, by omega, by go_num, ?_, ?_, ?_, ?_, ?_⟩, by simp [intOf]; omega⟩
            · exact (((((kB.setCell (p := ⟨vb, j3, none⟩) (by simp; omega) _).setCell (p := ⟨vb, j7, none⟩) (by simp; omega) _).drew).drew).drew)
            · exact ((k1.other ⟨vb, j3, none⟩ _ (by simp; omega)).other ⟨vb, j7, none⟩ _ (by simp; omega))
            · exact ((k2.other ⟨vb, j3, none⟩ _ (by simp; omega)).other ⟨vb, j7, none⟩ _ (by simp; omega))
            · rw [Ht.out]; exact ((k3.other ⟨vb, j3, none⟩ _ (by simp; omega)).other ⟨vb, j7, none⟩ _ (by simp; omega))
            · rw [Ht.out]
              have ht : time k tk v (sched k ws) = (v.set j3 (x3 + (x7 + tk + yy + three x4 6 11 25 + (x4 &&& (x5 ^^^ x6) ^^^ x6)))).set j7 ((x7 + tk + yy + three x4 6 11 25 + (x4 &&& (x5 ^^^ x6) ^^^ x6)) + three x0 2 13 22 + (x0 &&& (x1 ||| x2) ||| x1 &&& x2)) := by
                rw [X0.out, X1.out, X2.out, X3.out, X4.out, X5.out, X6.out, X7.out, YY.out, J0.out, J1.out, J2.out, J3.out, J4.out, J5.out, J6.out, J7.out, I0.out]; rfl
              show Row32 _ _ _ (time k tk v (sched k ws))
              rw [ht]; exact HS.out
        · obtain rfl : k = 64 := by omega
          clear hth hlt hk
          have hlv := length_times s b Hs.out 64
          obtain ⟨v, hv⟩ : ∃ v, v = (times s b 64).1 := ⟨_, rfl⟩
          rw [← hv] at h4 hlv
          have HV := Lib.hid hv; clear hv
          have Hv := Lib.hid hlv.1; clear hlv h3
          go_wp2_with fail
          rw [show ((64 : Nat) : Int) = (64 : Int) from rfl]
          go_loopw [150] (fun i W => ∃ k : Nat, k ≤ 8 ∧ i = .int .i64 k ∧ Below w.heap.size w W ∧ Row32 W w.heap.size 231 (sums8 s v k) ∧ Row32 W (w.heap.size + 1 + 1) 231 (List.replicate 8 0) ∧ Row32 W vb 231 v) (fun i _ => 8 - (intOf i).toNat)
          case atStart => exact ⟨0, by omega, rfl, hB, h1, h2, h4⟩
          case round =>
            clear hB h1 h2 h4
            obtain ⟨k, hk, rfl, hB, h1, h2, h4⟩ := hrel
            by_cases hlt : k < 8
            · have hl8 := length_sums8 s v k
              have e0 := h1.cell (i := k) (by rw [hl8, Hs.out]; exact hlt)
              have e1 := h4.cell (i := k) (by rw [Hv.out]; exact hlt)
              have e2 := h1.free k
              have hset := h1.set k ((sums8 s v k).getD k 0 + v.getD k 0)
              have Hn : Hid (sums8 s v (k + 1) = (sums8 s v k).set k ((sums8 s v k).getD k 0 + v.getD k 0)) := rfl
              have ua := uv_add
              have mk : (k : Int) < 8 := by omega
              have mk0 : (0 : Int) ≤ (k : Int) := by omega
              have HS := Lib.hid hset; clear hset hl8
              generalize (sums8 s v k).getD k 0 = x at *
              generalize v.getD k 0 = y at *
              go_wp2_with fail
              refine wp_region_quiet_put (fun W => W = wr.drew) (by kernel_rfl) (by simp) rfl rfl (by kernel_rfl) (by kernel_rfl) (by kernel_rfl) rfl ?_
              simp only [List.dropLast_cons_cons, List.dropLast_singleton, List.getLast_cons_cons, List.getLast_singleton, List.cons_append, List.nil_append, idle]
              iterate 8
                refine wpQuiet_take rfl (v := ?_) (fun W hS => ?_) ?_
                rotate_left
                · subst hS
                  go_simp
                  rfl
                rotate_left
                try simp only [Act.put, List.setIfInBounds_toArray, List.set_cons_zero, List.set_cons_succ]
              refine wpQuiet_nil ?_
              intro W hS
              subst hS
              go_simp
              go_wp2_with fail
              refine ⟨⟨k + 1, by omega, by go_num, ?_, ?_, ?_, ?_⟩, by simp [intOf]; omega⟩
              · exact (hB.setCell (p := ⟨w.heap.size, k, none⟩) (by simp) _).drew
              · rw [Hn.out]; exact HS.out
              · exact h2.other ⟨w.heap.size, k, none⟩ _ (by simp; omega)
              · exact h4.other ⟨w.heap.size, k, none⟩ _ (by simp; omega)
            · obtain rfl : k = 8 := by omega
              have HT := Lib.hid (show took s b = sums8 s v 8 by unfold took; rw [HV.out])
              have hl8 := length_sums8 s v 8
              rw [Hs.out] at hl8
              generalize sums8 s v 8 = r at *
              have Hr := Lib.hid hl8; clear hl8
              have hth : wr.there (w.heap.size + 1 + 1) 0 (cells32 r).toArray.size := by
                have := h2.there
                rw [show (cells32 r).toArray.size = 8 from by simp only [cells32, List.size_toArray, List.length_map]; exact Hr.out]
                exact this
              have hi8 : (Tryz.prog.info? 231).map (·.size) = some (cells32 r).toArray.size := by
                rw [show (cells32 r).toArray.size = 8 from by simp only [cells32, List.size_toArray, List.length_map]; exact Hr.out]
                exact info8
              have hwh := h2.whole (l' := r) (by rw [Hr.out]; rfl)
              have HI := Lib.hid hi8; clear hi8
              have HW := Lib.hid hwh; clear hwh
              go_wp2_with (first
                | (refine wpList_load_mid rfl _ _ rfl w.heap.size 0 rfl (cells32 r) (.array 8 160) h1.range Tryz.underlying231 rfl (by rw [length_cells32, Hr.out]; exact info8) ?_)
                | (refine wpList_store_mid rfl _ _ _ rfl (w.heap.size + 1 + 1) 0 _ rfl rfl hth HI.out (all_oneCell_toArray (oneCell_cells32 r)) ?_))
              exact bodyPost_ret (results_mid Tryz.results186 _ _ (w.heap.size + 1 + 1) 0 (cells32 r) _ rfl HW.out.range Tryz.underlying231 rfl (by rw [length_cells32, Hr.out]; exact info8)) rfl ⟨by rw [HT.out], setCells_below _ (by omega) _ _ _ _ hB⟩
end Go.Proofs.YtfmgoehnbaiamaaGreatDoor
