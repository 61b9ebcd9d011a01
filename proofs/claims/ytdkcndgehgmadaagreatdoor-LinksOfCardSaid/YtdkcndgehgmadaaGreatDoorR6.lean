/-
  Walks: the document's sum: a block taken.
-/
import Derived.Test.YtdkcndgehgmadaaGreatDoorR5
open Go Go.RowKit Alm
namespace Go.Proofs.YtdkcndgehgmadaaGreatDoor
set_option maxRecDepth 100000 in
set_option maxHeartbeats 4000000 in
theorem take_any (s : List UInt32) (b : List UInt8) (w : World) (g o cap : Nat) (hs : s.length = 8) (hb : b.length = 64) (hv : BytesAt w (.slice (some ⟨g, o, none⟩) 64 cap) b) :
    Calls Tryz.prog 174 #[.agg (cells32 s).toArray, .slice (some ⟨g, o, none⟩) 64 cap] w fun e w' => e = .returned (.agg (cells32 (took s b)).toArray) ∧ Below w.heap.size w w' := by
  have Hs := Lib.hid hs; clear hs
  have Hb := Lib.hid hb; clear hb
  have HV := Lib.hid hv; clear hv
  go_enter Tryz.func174, Tryz.ntmps174
  refine wp_cut 3 ?_
  intro T hT
  dsimp only [cutN]
  replace hT := Lib.hid hT
  go_wp2_with fail
  have hK0 : TK w (((w.alloc (.cells (cells32 s).toArray 216)).alloc (.cells (cells32 (List.replicate 8 0)).toArray 216)).alloc (.cells (cells32 (List.replicate 64 0)).toArray 233)) w.heap.size (w.heap.size + 1) (w.heap.size + 1 + 1) s (rws b 0) := by
    refine ⟨al (al (al (Below.refl _ _) _) _) _, Row32.alloc (Row32.alloc (Row32.new _ rfl rfl) _) _, Row32.alloc (Row32.new _ rfl ?_) _, Row32.new _ rfl ?_, by omega, by omega, by omega, by omega, by omega, by omega⟩
    · rw [World.size_alloc]
    · rw [World.size_alloc, World.size_alloc]
  obtain ⟨Sb, hSb⟩ : ∃ x, x = w.heap.size := ⟨_, rfl⟩
  obtain ⟨Rb, hRb⟩ : ∃ x, x = w.heap.size + 1 := ⟨_, rfl⟩
  obtain ⟨Wb, hWb⟩ : ∃ x, x = w.heap.size + 1 + 1 := ⟨_, rfl⟩
  rw [← hWb, ← hRb, ← hSb]
  have hK1 : TK w (((w.alloc (.cells (cells32 s).toArray 216)).alloc (.cells (cells32 (List.replicate 8 0)).toArray 216)).alloc (.cells (cells32 (List.replicate 64 0)).toArray 233)) Sb Rb Wb s (rws b 0) := by rw [hWb, hRb, hSb]; exact hK0
  have HK0 := Lib.hid hK1
  clear hK0 hK1 hSb hRb hWb
  go_loopw [6, 7, 8, 9] (fun i _ _ _ W => ∃ k : Nat, k ≤ 64 ∧ i = .int .i64 (k : Int) ∧ TK w W Sb Rb Wb s (rws b k)) (fun i _ _ _ _ => 64 - (intOf i).toNat)
  case atStart => exact ⟨0, by omega, rfl, HK0.out⟩
  case round =>
    clear HK0
    obtain ⟨k, hk, rfl, hK⟩ := hrel
    by_cases hlt : k < 64
    · have hlt' : (k : Int) < 64 := by omega
      by_cases h16 : k < 16
      · have h16' : (k : Int) < 16 := by omega
        have HK := Lib.hid hK; clear hK
        go_wp2_with fail
        go_loopw [7] (fun i W => ∃ j : Nat, j ≤ 4 ∧ i = .int .i64 (j : Int) ∧ TK w W Sb Rb Wb s ((rws b k).set k (word4 b k j))) (fun i _ => 4 - (intOf i).toNat)
        case atStart => exact ⟨0, by omega, rfl, by rw [show word4 b k 0 = 0 from rfl, set_same (rws_zero b k k (Nat.le_refl _))]; exact HK.out⟩
        case round =>
          obtain ⟨j, hj, rfl, hK⟩ := hrel
          by_cases hj4 : j < 4
          · have hj4' : (j : Int) < 4 := by omega
            have hl : ((rws b k).set k (word4 b k j)).length = 64 := by rw [List.length_set, length_rws]
            have c1 := hK.drew.l.cell (i := k) (by rw [hl]; exact hlt)
            rw [getD_set (by rw [length_rws]; exact hlt), if_pos rfl] at c1
            have f1 := hK.drew.l.free k
            obtain ⟨q, hq⟩ : ∃ q, q = 4 * k + j := ⟨_, rfl⟩
            obtain ⟨p, hp⟩ : ∃ p, p = 4 * k := ⟨_, rfl⟩
            have hp' : IntKind.i64.wrap (4 * (k : Int)) = (p : Int) := by rw [IntKind.wrap_i64]; omega
            have hq' : IntKind.i64.wrap ((p : Int) + (j : Int)) = (q : Int) := by rw [IntKind.wrap_i64]; omega
            have q0 : (0 : Int) ≤ (q : Int) := by omega
            have q1 : (q : Int) < 64 := by omega
            have k0 : (0 : Int) ≤ (k : Int) := by omega
            have k1 : (k : Int) < 64 := by omega
            have c2 := bytes_cell (bytes_below HV.out hK.drew.below (Nat.le_refl _)) (i := q) (by rw [Hb.out]; omega)
            have hst : word4 b k (j + 1) = 256 * word4 b k j + (b.getD q 0).toUInt32 := by rw [word4, hq]
            generalize b.getD q 0 = c at *
            have m1 := uv_mul256 (word4 b k j)
            have a1 := uv_add (256 * word4 b k j) c.toUInt32
            have e2 : ((c.toNat : Nat) : Int) % 4294967296 = uv c.toUInt32 := by
              rw [← uv_byte]; have := c.toNat_lt; omega
            have ev : (uv (256 * word4 b k j) + ((c.toNat : Nat) : Int) % 4294967296) % 4294967296 = uv (256 * word4 b k j + c.toUInt32) := by rw [e2, ← a1, IntKind.wrap_u32]
            have EV := Lib.hid ev
            clear a1 e2 ev
            generalize word4 b k j = x at *
            have HST := Lib.hid hst; clear hst
            have HK4 := Lib.hid hK; clear hK
            clear hl hq hp
            go_wp2_with fail
            refine wp_region_sched (fun V => V = wr.drew) [.t 0, .t 1, .t 2, .t 5, .t 6, .t 7, .t 8, .t 9, .t 10, .s 3, .t 4, .s 11, .t 12, .t 13, .t 14, .e 15 false] (by kernel_rfl) (by kernel_rfl) (by intro c a d v w h; cases d <;> exact h) ?_
            have HK5 := Lib.hid HK4.out.drew
            clear HK4
            generalize wr.drew = V at *
            iterate 9
              refine wpS_t rfl (v := ?_) (by rfl) (fun W => ?_) ?_
              rotate_left
              · go_simp
                try rfl
              try simp only [Act.put, List.setIfInBounds_toArray, List.set_cons_zero, List.set_cons_succ]
            refine wpS_s rfl rfl (v := ?_) (by rfl) (fun W hSW => ?_) ?_
            rotate_left
            · subst hSW
              go_simp
              try rfl
            try simp only [Act.put, List.setIfInBounds_toArray, List.set_cons_zero, List.set_cons_succ]
            iterate 1
              refine wpS_t rfl (v := ?_) (by rfl) (fun W => ?_) ?_
              rotate_left
              · go_simp
                try rfl
              try simp only [Act.put, List.setIfInBounds_toArray, List.set_cons_zero, List.set_cons_succ]
            refine wpS_s rfl rfl (v := ?_) (by rfl) (fun W hSW => ?_) ?_
            rotate_left
            · subst hSW
              go_simp
              try rfl
            try simp only [Act.put, List.setIfInBounds_toArray, List.set_cons_zero, List.set_cons_succ]
            iterate 3
              refine wpS_t rfl (v := ?_) (by rfl) (fun W => ?_) ?_
              rotate_left
              · go_simp
                try rfl
              try simp only [Act.put, List.setIfInBounds_toArray, List.set_cons_zero, List.set_cons_succ]
            refine wpS_e rfl (by rfl) (fun K hK => ?_)
            go_simp
            refine hK _ _ ?_; clear hK K
            try simp only [Act.put, List.setIfInBounds_toArray, List.set_cons_zero, List.set_cons_succ]
            refine wpS_done ?_
            go_wp2_with fail
            refine ⟨⟨j + 1, by omega, by simp, ?_⟩, by simp [intOf]; omega⟩
            rw [HST.out]
            have := HK5.out.set k (256 * x + c.toUInt32)
            rw [List.set_set, ← EV.out] at this
            exact this
          · obtain rfl : j = 4 := by omega
            have HK4 := Lib.hid hK; clear hK
            go_wp2_with fail
            refine ⟨⟨k + 1, by omega, by simp, ?_⟩, by simp [intOf]; omega⟩
            rw [rws, if_pos h16]; exact HK4.out
      · have h16' : ¬ (k : Int) < 16 := by omega
        have cell := fun (i : Nat) (hi : i < 64) => hK.l.cell (i := i) (by rw [length_rws]; exact hi)
        have celd := fun (i : Nat) (hi : i < 64) => hK.drew.l.cell (i := i) (by rw [length_rws]; exact hi)
        have f1 := hK.drew.l.free k
        obtain ⟨i15, h15⟩ : ∃ i, i = k - 15 := ⟨_, rfl⟩
        obtain ⟨i2, h2⟩ : ∃ i, i = k - 2 := ⟨_, rfl⟩
        obtain ⟨i16, hi16⟩ : ∃ i, i = k - 16 := ⟨_, rfl⟩
        obtain ⟨i7, h7⟩ : ∃ i, i = k - 7 := ⟨_, rfl⟩
        have e15 : (k : Int) - 15 = (i15 : Int) := by omega
        have e2 : (k : Int) - 2 = (i2 : Int) := by omega
        have w16 : IntKind.i64.wrap ((k : Int) - 16) = (i16 : Int) := by rw [IntKind.wrap_i64]; omega
        have w7 : IntKind.i64.wrap ((k : Int) - 7) = (i7 : Int) := by rw [IntKind.wrap_i64]; omega
        have l15 : (i15 : Int) < 64 := by omega
        have l2 : (i2 : Int) < 64 := by omega
        have l16 : (i16 : Int) < 64 := by omega
        have l7 : (i7 : Int) < 64 := by omega
        have c15 := cell i15 (by omega)
        have c2 := cell i2 (by omega)
        have c16 := celd i16 (by omega)
        have c7 := celd i7 (by omega)
        have c0 := celd k hlt
        have hst : rws b (k + 1) = (rws b k).set k ((rws b k).getD i16 0 + (rws b k).getD i7 0 + two ((rws b k).getD i15 0) 7 18 3 + two ((rws b k).getD i2 0) 17 19 10) := by
          rw [rws, if_neg h16, h15, h2, hi16, h7]
        generalize (rws b k).getD k 0 = x0 at *
        generalize (rws b k).getD i15 0 = x15 at *
        generalize (rws b k).getD i2 0 = x2 at *
        generalize (rws b k).getD i16 0 = x16 at *
        generalize (rws b k).getD i7 0 = x7 at *
        have HST := Lib.hid hst
        have HK4 := Lib.hid hK
        have k0 : (0 : Int) ≤ (k : Int) := by omega
        clear hst hK cell celd h15 h2 hi16 h7
        go_wp2_with fail
        have ua := uv_add
        have ux := uv_xor
        have s3 : uv x15 / 8 = uv (x15 >>> UInt32.ofNat 3) := uv_shr x15 3 (by decide)
        have s10 : uv x2 / 1024 = uv (x2 >>> UInt32.ofNat 10) := uv_shr x2 10 (by decide)
        refine wp_region_sched (fun V => V = wr.drew) [.t 0, .t 1, .t 2, .t 3, .t 5, .t 6, .t 7, .t 10, .t 12, .t 15, .t 16, .t 19, .t 21, .t 24, .t 25, .s 4, .s 8, .t 9, .e 11 true, .e 13 true, .t 14, .t 17, .t 18, .e 20 true, .e 22 true, .t 23, .t 26, .t 27, .t 28, .e 29 false] (by kernel_rfl) (by kernel_rfl) (by intro c a d v w h; cases d <;> exact h) ?_
        have HK5 := Lib.hid HK4.out.drew
        clear HK4 c15 c2 e15 e2 l15 l2
        generalize wr.drew = V at *
        iterate 15
          refine wpS_t rfl (v := ?_) (by rfl) (fun W => ?_) ?_
          rotate_left
          · go_simp
            try rfl
          try simp only [Act.put, List.setIfInBounds_toArray, List.set_cons_zero, List.set_cons_succ]
        refine wpS_s rfl rfl (v := ?_) (by rfl) (fun W hSW => ?_) ?_
        rotate_left
        · subst hSW
          go_simp
          try rfl
        try simp only [Act.put, List.setIfInBounds_toArray, List.set_cons_zero, List.set_cons_succ]
        refine wpS_s rfl rfl (v := ?_) (by rfl) (fun W hSW => ?_) ?_
        rotate_left
        · subst hSW
          go_simp
          try rfl
        try simp only [Act.put, List.setIfInBounds_toArray, List.set_cons_zero, List.set_cons_succ]
        iterate 1
          refine wpS_t rfl (v := ?_) (by rfl) (fun W => ?_) ?_
          rotate_left
          · go_simp
            try rfl
          try simp only [Act.put, List.setIfInBounds_toArray, List.set_cons_zero, List.set_cons_succ]
        refine wpS_k rfl (by rfl) (fun K hK => ?_)
        go_simp
        refine (refr_7 x15 V).mono ?_
        rintro e V1 ⟨rfl, rfl⟩
        refine hK _ _ ⟨by rfl, ?_⟩; clear hK K
        try simp only [Act.put, List.setIfInBounds_toArray, List.set_cons_zero, List.set_cons_succ]
        refine wpS_k rfl (by rfl) (fun K hK => ?_)
        go_simp
        refine (refr_18 x15 V).mono ?_
        rintro e V1 ⟨rfl, rfl⟩
        refine hK _ _ ⟨by rfl, ?_⟩; clear hK K
        try simp only [Act.put, List.setIfInBounds_toArray, List.set_cons_zero, List.set_cons_succ]
        iterate 3
          refine wpS_t rfl (v := ?_) (by rfl) (fun W => ?_) ?_
          rotate_left
          · go_simp
            try rfl
          try simp only [Act.put, List.setIfInBounds_toArray, List.set_cons_zero, List.set_cons_succ]
        refine wpS_k rfl (by rfl) (fun K hK => ?_)
        go_simp
        refine (refr_17 x2 V).mono ?_
        rintro e V1 ⟨rfl, rfl⟩
        refine hK _ _ ⟨by rfl, ?_⟩; clear hK K
        try simp only [Act.put, List.setIfInBounds_toArray, List.set_cons_zero, List.set_cons_succ]
        refine wpS_k rfl (by rfl) (fun K hK => ?_)
        go_simp
        refine (refr_19 x2 V).mono ?_
        rintro e V1 ⟨rfl, rfl⟩
        refine hK _ _ ⟨by rfl, ?_⟩; clear hK K
        try simp only [Act.put, List.setIfInBounds_toArray, List.set_cons_zero, List.set_cons_succ]
        iterate 4
          refine wpS_t rfl (v := ?_) (by rfl) (fun W => ?_) ?_
          rotate_left
          · go_simp
            try rfl
          try simp only [Act.put, List.setIfInBounds_toArray, List.set_cons_zero, List.set_cons_succ]
        refine wpS_e rfl (by rfl) (fun K hK => ?_)
        go_simp
        refine hK _ _ ?_; clear hK K
        try simp only [Act.put, List.setIfInBounds_toArray, List.set_cons_zero, List.set_cons_succ]
        refine wpS_done ?_
        go_wp2_with fail
        refine ⟨⟨k + 1, by omega, by simp, ?_⟩, by simp [intOf]; omega⟩
        rw [HST.out]
        exact HK5.out.set k _
    · obtain rfl : k = 64 := by omega
      go_wp2_with fail
      refine hT.out _ _ ?_
      exact take_mid s b w _ Sb Rb Wb hK Hs.out
end Go.Proofs.YtdkcndgehgmadaaGreatDoor
