/-
  Joined: R6, R7, R8.
-/
import Derived.Test.YtfmgoehnbaiamaaGreatDoorR5
import Derived.Test.YtfmgoehnbaiamaaGreatDoorZAW
import Derived.Test.YtfmgoehnbaiamaaGreatDoorZAL
import Derived.Deep.AppendLies
-- Walks: the document's sum: a block taken.
open Go Go.RowKit Alm
namespace Go.Proofs.YtfmgoehnbaiamaaGreatDoor
set_option maxRecDepth 100000 in
set_option maxHeartbeats 4000000 in
theorem take_any (s : List UInt32) (b : List UInt8) (w : World) (g o cap : Nat) (hs : s.length = 8) (hb : b.length = 64) (hv : BytesAt w (.slice (some ⟨g, o, none⟩) 64 cap) b) :
    Calls Tryz.prog 158 #[.agg (cells32 s).toArray, .slice (some ⟨g, o, none⟩) 64 cap] w fun e w' => e = .returned (.agg (cells32 (took s b)).toArray) ∧ Below w.heap.size w w' := by
  have Hs := Lib.hid hs; clear hs
  have Hb := Lib.hid hb; clear hb
  have HV := Lib.hid hv; clear hv
  go_enter Tryz.func158, Tryz.ntmps158
  refine Alm.wp_cut 3 ?_
  intro T hT
  dsimp only [cutN]
  replace hT := Lib.hid hT
  go_wp2_with fail
  have hK0 : TK w (((w.alloc (.cells (cells32 s).toArray 201)).alloc (.cells (cells32 (List.replicate 8 0)).toArray 201)).alloc (.cells (cells32 (List.replicate 64 0)).toArray 220)) w.heap.size (w.heap.size + 1) (w.heap.size + 1 + 1) s (rws b 0) := by
    refine ⟨al (al (al (Below.refl _ _) _) _) _, Row32.alloc (Row32.alloc (Row32.new _ rfl rfl) _) _, Row32.alloc (Row32.new _ rfl ?_) _, Row32.new _ rfl ?_, by omega, by omega, by omega, by omega, by omega, by omega⟩
    · rw [World.size_alloc]
    · rw [World.size_alloc, World.size_alloc]
  obtain ⟨Sb, hSb⟩ : ∃ x, x = w.heap.size := ⟨_, rfl⟩
  obtain ⟨Rb, hRb⟩ : ∃ x, x = w.heap.size + 1 := ⟨_, rfl⟩
  obtain ⟨Wb, hWb⟩ : ∃ x, x = w.heap.size + 1 + 1 := ⟨_, rfl⟩
  rw [← hWb, ← hRb, ← hSb]
  have hK1 : TK w (((w.alloc (.cells (cells32 s).toArray 201)).alloc (.cells (cells32 (List.replicate 8 0)).toArray 201)).alloc (.cells (cells32 (List.replicate 64 0)).toArray 220)) Sb Rb Wb s (rws b 0) := by rw [hWb, hRb, hSb]; exact hK0
  have HK0 := Lib.hid hK1
  clear hK0 hK1 hSb hRb hWb
  go_loopw [6, 7, 8, 9] (fun i _ _ _ W => ∃ k : Nat, k ≤ 64 ∧ i = .int .i64 (k : Int) ∧ TK w W Sb Rb Wb s (rws b k)) (fun i _ _ _ _ => 64 - (intOf i).toNat)
  case atStart => exact ⟨0, by omega, rfl, HK0.out⟩
  case round =>
    clear HK0
    obtain ⟨k, hk, rfl, hK⟩ := hrel
    by_cases hlt : k < 64
    · have hlt' : (k : Int) < 64 := by omega
      by_cases h16 : k < 16
      · have h16' : (k : Int) < 16 := by omega
        have HK := Lib.hid hK; clear hK
        go_wp2_with fail
        go_loopw [7] (fun i W => ∃ j : Nat, j ≤ 4 ∧ i = .int .i64 (j : Int) ∧ TK w W Sb Rb Wb s ((rws b k).set k (word4 b k j))) (fun i _ => 4 - (intOf i).toNat)
        case atStart => exact ⟨0, by omega, rfl, by rw [show word4 b k 0 = 0 from rfl, set_same (rws_zero b k k (Nat.le_refl _))]; exact HK.out⟩
        case round =>
          obtain ⟨j, hj, rfl, hK⟩ := hrel
          by_cases hj4 : j < 4
          · have hj4' : (j : Int) < 4 := by omega
            have hl : ((rws b k).set k (word4 b k j)).length = 64 := by rw [List.length_set, length_rws]
            have c1 := hK.drew.l.cell (i := k) (by rw [hl]; exact hlt)
            rw [getD_set (by rw [length_rws]; exact hlt), if_pos rfl] at c1
            have f1 := hK.drew.l.free k
            obtain ⟨q, hq⟩ : ∃ q, q = 4 * k + j := ⟨_, rfl⟩
            obtain ⟨p, hp⟩ : ∃ p, p = 4 * k := ⟨_, rfl⟩
            have hp' : IntKind.i64.wrap (4 * (k : Int)) = (p : Int) := by rw [IntKind.wrap_i64]; omega
            have hq' : IntKind.i64.wrap ((p : Int) + (j : Int)) = (q : Int) := by rw [IntKind.wrap_i64]; omega
            have q0 : (0 : Int) ≤ (q : Int) := by omega
            have q1 : (q : Int) < 64 := by omega
            have k0 : (0 : Int) ≤ (k : Int) := by omega
            have k1 : (k : Int) < 64 := by omega
            have c2 := bytes_cell (bytes_below HV.out hK.drew.below (Nat.le_refl _)) (i := q) (by rw [Hb.out]; omega)
            have hst : word4 b k (j + 1) = 256 * word4 b k j + (b.getD q 0).toUInt32 := by rw [word4, hq]
            generalize b.getD q 0 = c at *
            have m1 := uv_mul256 (word4 b k j)
            have a1 := uv_add (256 * word4 b k j) c.toUInt32
            have e2 : ((c.toNat : Nat) : Int) % 4294967296 = uv c.toUInt32 := by
              rw [← uv_byte]; have := c.toNat_lt; omega
            have ev : (uv (256 * word4 b k j) + ((c.toNat : Nat) : Int) % 4294967296) % 4294967296 = uv (256 * word4 b k j + c.toUInt32) := by rw [e2, ← a1, IntKind.wrap_u32]
            have EV := Lib.hid ev
            clear a1 e2 ev
            generalize word4 b k j = x at *
            have HST := Lib.hid hst; clear hst
            have HK4 := Lib.hid hK; clear hK
            clear hl hq hp
            go_wp2_with fail
            refine wp_region_sched (fun V => V = wr.drew) [.t 0, .t 1, .t 2, .t 5, .t 6, .t 7, .t 8, .t 9, .t 10, .s 3, .t 4, .s 11, .t 12, .t 13, .t 14, .e 15 false] (by kernel_rfl) (by kernel_rfl) (by intro c a d v w h; cases d <;> exact h) ?_
            have HK5 := Lib.hid HK4.out.drew
            clear HK4
            generalize wr.drew = V at *
            iterate 9
              refine wpS_t rfl (v := ?_) (by rfl) (fun W => ?_) ?_
              rotate_left
              · go_simp
                try rfl
              try simp only [Act.put, List.setIfInBounds_toArray, List.set_cons_zero, List.set_cons_succ]
            refine wpS_s rfl rfl (v := ?_) (by rfl) (fun W hSW => ?_) ?_
            rotate_left
            · subst hSW
              go_simp
              try rfl
            try simp only [Act.put, List.setIfInBounds_toArray, List.set_cons_zero, List.set_cons_succ]
            iterate 1
              refine wpS_t rfl (v := ?_) (by rfl) (fun W => ?_) ?_
              rotate_left
              · go_simp
                try rfl
              try simp only [Act.put, List.setIfInBounds_toArray, List.set_cons_zero, List.set_cons_succ]
            refine wpS_s rfl rfl (v := ?_) (by rfl) (fun W hSW => ?_) ?_
            rotate_left
            · subst hSW
              go_simp
              try rfl
            try simp only [Act.put, List.setIfInBounds_toArray, List.set_cons_zero, List.set_cons_succ]
            iterate 3
              refine wpS_t rfl (v := ?_) (by rfl) (fun W => ?_) ?_
              rotate_left
              · go_simp
                try rfl
              try simp only [Act.put, List.setIfInBounds_toArray, List.set_cons_zero, List.set_cons_succ]
            refine wpS_e rfl (by rfl) (fun K hK => ?_)
            go_simp
            refine hK _ _ ?_; clear hK K
            try simp only [Act.put, List.setIfInBounds_toArray, List.set_cons_zero, List.set_cons_succ]
            refine wpS_done ?_
            go_wp2_with fail
            refine ⟨⟨j + 1, by omega, by simp, ?_⟩, by simp [intOf]; omega⟩
            rw [HST.out]
            have := HK5.out.set k (256 * x + c.toUInt32)
            rw [List.set_set, ← EV.out] at this
            exact this
          · obtain rfl : j = 4 := by omega
            have HK4 := Lib.hid hK; clear hK
            go_wp2_with fail
            refine ⟨⟨k + 1, by omega, by simp, ?_⟩, by simp [intOf]; omega⟩
            rw [rws, if_pos h16]; exact HK4.out
      · have h16' : ¬ (k : Int) < 16 := by omega
        have cell := fun (i : Nat) (hi : i < 64) => hK.l.cell (i := i) (by rw [length_rws]; exact hi)
        have celd := fun (i : Nat) (hi : i < 64) => hK.drew.l.cell (i := i) (by rw [length_rws]; exact hi)
        have f1 := hK.drew.l.free k
        obtain ⟨i15, h15⟩ : ∃ i, i = k - 15 := ⟨_, rfl⟩
        obtain ⟨i2, h2⟩ : ∃ i, i = k - 2 := ⟨_, rfl⟩
        obtain ⟨i16, hi16⟩ : ∃ i, i = k - 16 := ⟨_, rfl⟩
        obtain ⟨i7, h7⟩ : ∃ i, i = k - 7 := ⟨_, rfl⟩
        have e15 : (k : Int) - 15 = (i15 : Int) := by omega
        have e2 : (k : Int) - 2 = (i2 : Int) := by omega
        have w16 : IntKind.i64.wrap ((k : Int) - 16) = (i16 : Int) := by rw [IntKind.wrap_i64]; omega
        have w7 : IntKind.i64.wrap ((k : Int) - 7) = (i7 : Int) := by rw [IntKind.wrap_i64]; omega
        have l15 : (i15 : Int) < 64 := by omega
        have l2 : (i2 : Int) < 64 := by omega
        have l16 : (i16 : Int) < 64 := by omega
        have l7 : (i7 : Int) < 64 := by omega
        have c15 := cell i15 (by omega)
        have c2 := cell i2 (by omega)
        have c16 := celd i16 (by omega)
        have c7 := celd i7 (by omega)
        have c0 := celd k hlt
        have hst : rws b (k + 1) = (rws b k).set k ((rws b k).getD i16 0 + (rws b k).getD i7 0 + two ((rws b k).getD i15 0) 7 18 3 + two ((rws b k).getD i2 0) 17 19 10) := by
          rw [rws, if_neg h16, h15, h2, hi16, h7]
        generalize (rws b k).getD k 0 = x0 at *
        generalize (rws b k).getD i15 0 = x15 at *
        generalize (rws b k).getD i2 0 = x2 at *
        generalize (rws b k).getD i16 0 = x16 at *
        generalize (rws b k).getD i7 0 = x7 at *
        have HST := Lib.hid hst
        have HK4 := Lib.hid hK
        have k0 : (0 : Int) ≤ (k : Int) := by omega
        clear hst hK cell celd h15 h2 hi16 h7
        go_wp2_with fail
        have ua := uv_add
        have ux := uv_xor
        have s3 : uv x15 / 8 = uv (x15 >>> UInt32.ofNat 3) := uv_shr x15 3 (by decide)
        have s10 : uv x2 / 1024 = uv (x2 >>> UInt32.ofNat 10) := uv_shr x2 10 (by decide)
        refine wp_region_sched (fun V => V = wr.drew) [.t 0, .t 1, .t 2, .t 3, .t 5, .t 6, .t 7, .t 10, .t 12, .t 15, .t 16, .t 19, .t 21, .t 24, .t 25, .s 4, .s 8, .t 9, .e 11 true, .e 13 true, .t 14, .t 17, .t 18, .e 20 true, .e 22 true, .t 23, .t 26, .t 27, .t 28, .e 29 false] (by kernel_rfl) (by kernel_rfl) (by intro c a d v w h; cases d <;> exact h) ?_
        have HK5 := Lib.hid HK4.out.drew
        clear HK4 c15 c2 e15 e2 l15 l2
        generalize wr.drew = V at *
        iterate 15
          refine wpS_t rfl (v := ?_) (by rfl) (fun W => ?_) ?_
          rotate_left
          · go_simp
            try rfl
          try simp only [Act.put, List.setIfInBounds_toArray, List.set_cons_zero, List.set_cons_succ]
        refine wpS_s rfl rfl (v := ?_) (by rfl) (fun W hSW => ?_) ?_
        rotate_left
        · subst hSW
          go_simp
          try rfl
        try simp only [Act.put, List.setIfInBounds_toArray, List.set_cons_zero, List.set_cons_succ]
        refine wpS_s rfl rfl (v := ?_) (by rfl) (fun W hSW => ?_) ?_
        rotate_left
        · subst hSW
          go_simp
          try rfl
        try simp only [Act.put, List.setIfInBounds_toArray, List.set_cons_zero, List.set_cons_succ]
        iterate 1
          refine wpS_t rfl (v := ?_) (by rfl) (fun W => ?_) ?_
          rotate_left
          · go_simp
            try rfl
          try simp only [Act.put, List.setIfInBounds_toArray, List.set_cons_zero, List.set_cons_succ]
        refine wpS_k rfl (by rfl) (fun K hK => ?_)
        go_simp
        refine (refr_7 x15 V).mono ?_
        rintro e V1 ⟨rfl, rfl⟩
        refine hK _ _ ⟨by rfl, ?_⟩; clear hK K
        try simp only [Act.put, List.setIfInBounds_toArray, List.set_cons_zero, List.set_cons_succ]
        refine wpS_k rfl (by rfl) (fun K hK => ?_)
        go_simp
        refine (refr_18 x15 V).mono ?_
        rintro e V1 ⟨rfl, rfl⟩
        refine hK _ _ ⟨by rfl, ?_⟩; clear hK K
        try simp only [Act.put, List.setIfInBounds_toArray, List.set_cons_zero, List.set_cons_succ]
        iterate 3
          refine wpS_t rfl (v := ?_) (by rfl) (fun W => ?_) ?_
          rotate_left
          · go_simp
            try rfl
          try simp only [Act.put, List.setIfInBounds_toArray, List.set_cons_zero, List.set_cons_succ]
        refine wpS_k rfl (by rfl) (fun K hK => ?_)
        go_simp
        refine (refr_17 x2 V).mono ?_
        rintro e V1 ⟨rfl, rfl⟩
        refine hK _ _ ⟨by rfl, ?_⟩; clear hK K
        try simp only [Act.put, List.setIfInBounds_toArray, List.set_cons_zero, List.set_cons_succ]
        refine wpS_k rfl (by rfl) (fun K hK => ?_)
        go_simp
        refine (refr_19 x2 V).mono ?_
        rintro e V1 ⟨rfl, rfl⟩
        refine hK _ _ ⟨by rfl, ?_⟩; clear hK K
        try simp only [Act.put, List.setIfInBounds_toArray, List.set_cons_zero, List.set_cons_succ]
        iterate 4
          refine wpS_t rfl (v := ?_) (by rfl) (fun W => ?_) ?_
          rotate_left
          · go_simp
            try rfl
          try simp only [Act.put, List.setIfInBounds_toArray, List.set_cons_zero, List.set_cons_succ]
        refine wpS_e rfl (by rfl) (fun K hK => ?_)
        go_simp
        refine hK _ _ ?_; clear hK K
        try simp only [Act.put, List.setIfInBounds_toArray, List.set_cons_zero, List.set_cons_succ]
        refine wpS_done ?_
        go_wp2_with fail
        refine ⟨⟨k + 1, by omega, by simp, ?_⟩, by simp [intOf]; omega⟩
        rw [HST.out]
        exact HK5.out.set k _
    · obtain rfl : k = 64 := by omega
      go_wp2_with fail
      refine hT.out _ _ ?_
      exact take_mid s b w _ Sb Rb Wb hK Hs.out
end Go.Proofs.YtfmgoehnbaiamaaGreatDoor
-- Walks: the document's sum: End.
namespace Go.Proofs.YtfmgoehnbaiamaaGreatDoor
theorem wpList_append_b8 {w : World} {ops : Array Oper} {rest : List Oper} {o : Oper} {a : Act} {Q : Exit → Act → World → Prop} (hgd : o.guard = none) (s x : Operand)
    (ho : o.op = .call { callee := .builtin .append, args := #[s, x], argTypes := #[39, 39] })
    (base : Nat) (v : Value) (l ys : List UInt8) (n m : Nat) (_hn : l.length = n) (hm : ys.length = m) (hs : a.eval s = v) (hown : w.ownsRow base 5 1 v n (cells8 l))
    (b off c : Nat) (hx : a.eval x = .slice (some ⟨b, off, none⟩) m c) (hr : w.rangeAt b off (cells8 ys)) (h0 : 0 < m) (hl : n + m < 4000000000000) (hB : base ≤ w.heap.size)
    (h : ∀ g cap w', w'.ownsRow base 5 1 (.slice (some ⟨g, 0, none⟩) (n + m) cap) (n + m) (cells8 (l ++ ys)) → w.grownBy w' v.ownBlock → n + m ≤ cap → cap ≤ maxLen → wpList Tryz.prog ops Q rest (a.put o.dst (.slice (some ⟨g, 0, none⟩) (n + m) cap)) w') : wpList Tryz.prog ops Q (o :: rest) a w := by
  obtain ⟨i, hi, hz⟩ := Option.map_eq_some_iff.1 infoByteZ
  simp only [Prod.mk.injEq] at hz
  refine wpList_plain hgd fun K hK => ?_
  refine wp_append_lies w s x _ ho base _ i (.int .u8 0) 1 1 Tryz.underlying39 hi hz.1 hz.2.1 hz.2.2 rfl (by omega) v n (cells8 l) hs hown ⟨b, off, none⟩ m c (cells8 ys) hx (by rw [length_cells8, hm]; omega) (fun j u hj => by rw [Addr.add_mid]; exact hr j u hj) (oneCell_cells8 ys) h0 (by unfold maxLen; omega) (by omega) hB w.heap.size rfl ?_
  intro g cap w' ho' hg hat hlt
  have hc : n + m ≤ cap ∧ cap ≤ maxLen := by
    rcases ho'.2 with ⟨h1, _⟩ | ⟨g', cap', cur, h1, h2, h3, h4, h5, h6⟩
    · cases h1
    · simp only [Value.slice.injEq] at h1
      obtain ⟨_, _, rfl⟩ := h1
      exact ⟨h4, h5⟩
  refine hK _ _ (h g cap w' ?_ hg hc.1 hc.2)
  rw [cells8_append]; exact ho'
theorem own_grown {W0 W W' : World} {B : Nat} {v : Value} {n : Nat} {xs : List Value} {e : TypeId} {size : Nat} (hb : Below B W0 W) (ho : W.ownsRow B e size v n xs) (hg : W.grownBy W' v.ownBlock) (hB : B ≤ W.heap.size) : Below B W0 W' :=
  hb.trans ⟨hg.os, hg.tape, hg.output, hg.size, fun k hk => hg.block k (by omega) (fun e => by have := ho.lt k e.symm; omega)⟩
theorem own_one {w : World} (c : UInt8) (C : Array Value) (hC : C = #[.int .u8 ((c.toNat : Nat) : Int)]) : (w.alloc (.cells C 5)).ownsRow w.heap.size 5 1 (.slice (some ⟨w.heap.size, 0, none⟩) 1 1) 1 (cells8 [c]) := by
  subst hC
  exact ⟨by simp [cells8], .inr ⟨w.heap.size, 1, _, rfl, Nat.le_refl _, heap_alloc_new w _, Nat.le_refl _, by unfold maxLen; omega, by simp, by simp [cells8, u8v]⟩⟩
theorem end_nums {n m : Nat} (hn : n < 1000000000) (hm : m ≤ 100) : wrap64 ((n : Int) + (m : Int)) = ((n + m : Nat) : Int) ∧ wrap64 (((n + m : Nat) : Int) + 8) = ((n + m + 8 : Nat) : Int) ∧ Int.tmod ((n + m + 8 : Nat) : Int) 64 = (((n + m + 8) % 64 : Nat) : Int) ∧ ((n + m + 8 : Nat) : Int) % 64 = (((n + m + 8) % 64 : Nat) : Int) := by
  refine ⟨by unfold wrap64; omega, by unfold wrap64; omega, by rw [Int.tmod_eq_emod_of_nonneg (by omega)]; omega, by omega⟩
theorem end_more {n k m8 : Nat} (hn : n < 1000000000) (hk : k < 8) (h8 : m8 = n * 8) : (7 : Int) - (k : Int) = ((7 - k : Nat) : Int) ∧ wrap64 (8 * ((7 - k : Nat) : Int)) = ((56 - 8 * k : Nat) : Int) ∧ wrap64 (8 * (n : Int)) = (m8 : Int) ∧ (m8 : Int) < 18446744073709551616 ∧ ((56 - 8 * k : Nat) : Int) ≤ 56 ∧ ((7 - k : Nat) : Int) ≤ 7 := by
  refine ⟨by omega, by unfold wrap64; omega, by unfold wrap64; omega, by omega, by omega, by omega⟩
def lenB : Value → Nat | .slice _ n _ => n | _ => 0
set_option maxRecDepth 100000 in
set_option maxHeartbeats 1000000 in
theorem refend_any (n : Nat) (w : World) (hn : n < 1000000000) :
    Calls Tryz.prog 156 #[.int .i64 (n : Int)] w fun e w' => ∃ v, e = .returned v ∧ w'.ownsRow w.heap.size 5 1 v (rend n).length (cells8 (rend n)) ∧ Below w.heap.size w w' := by
  obtain ⟨z, hz⟩ : ∃ z, z = (120 - (n + 1) % 64) % 64 := ⟨_, rfl⟩
  have hz64 : z < 64 := by omega
  obtain ⟨m8, hm8⟩ : ∃ m, m = n * 8 := ⟨_, rfl⟩
  have HE := Lib.hid (show rend n = 128 :: (List.replicate z 0 ++ be8 m8) by rw [hz, hm8]; rfl)
  have HZ := Lib.hid hz; clear hz
  have HM := Lib.hid hm8
  have HNN := Lib.hid hn
  clear hn hm8
  go_enter Tryz.func156, Tryz.ntmps156
  go_wp2_with fail
  go_loopw [3] (fun v W => ∃ j g c : Nat, j ≤ z ∧ v = .slice (some ⟨g, 0, none⟩) (j + 1) c ∧ j + 1 ≤ c ∧ c ≤ maxLen ∧ W.ownsRow w.heap.size 5 1 (.slice (some ⟨g, 0, none⟩) (j + 1) c) (j + 1) (cells8 (128 :: List.replicate j 0)) ∧ Below w.heap.size w W) (fun v _ => 100 - lenB v)
  case atStart => exact ⟨0, w.heap.size, 1, by omega, rfl, by omega, by unfold maxLen; omega, own_one 128 _ rfl, al (Below.refl _ _) _⟩
  case round =>
    obtain ⟨j, g, c, hj, rfl, hc1, hc2, ho, hB⟩ := hrel
    obtain ⟨m, hm⟩ : ∃ m, m = j + 1 := ⟨_, rfl⟩
    rw [← hm] at ho hc1 ⊢
    have HO := Lib.hid ho
    have HB := Lib.hid hB
    clear ho hB
    unfold maxLen at hc2
    obtain ⟨p, hp⟩ : ∃ p, p = (n + m + 8) % 64 := ⟨_, rfl⟩
    obtain ⟨q1, hq1⟩ : ∃ q, q = n + m := ⟨_, rfl⟩
    obtain ⟨q2, hq2⟩ : ∃ q, q = q1 + 8 := ⟨_, rfl⟩
    have hn := HNN.out
    have hm100 : m ≤ 100 := by omega
    obtain ⟨e1, e2, e3, e4⟩ := end_nums hn hm100
    rw [← hq1] at e1 e2 e3 e4
    rw [← hq2] at e2 e3 e4
    rw [hq2, hq1, ← hp, ← hq1, ← hq2] at e3 e4
    have hp5 := hp
    have HQ := Lib.hid (And.intro hq1 hq2)
    clear hq1 hq2 hn
    by_cases hlt : j < z
    · have hp0 : ¬ (p : Int) = 0 := by have := HZ.out; omega
      have hp1 : 1 ≤ (p : Int) := by omega
      have HX : Hid ((wr.alloc (.cells #[.int .u8 0] 5)).rangeAt wr.heap.size 0 (cells8 [0])) := range_new wr _ _ _ rfl
      have HL := Lib.hid (And.intro hm (And.intro hlt (And.intro hp hm100)))
      have HB2 := Lib.hid (al HB.out (.cells #[.int .u8 0] 5))
      have HO2 := Lib.hid (HO.out.alloc (.cells #[.int .u8 0] 5))
      clear hm hlt hp hp5 hj hc1 hc2 HB HO hm100
      go_wp2_with (first
        | (at_builtin; refine wpList_append_b8 rfl _ _ rfl w.heap.size _ (128 :: List.replicate j 0) [0] m 1 (by have := HL.out.1; simp; omega) rfl (by rfl) HO2.out wr.heap.size 0 1 rfl HX.out (by omega) (by have := HL.out.2.2.2; omega) HB2.out.size ?_; intro g4 c4 w4 ho4 hg4 h41 h42))
      have e1 : (128 :: List.replicate j 0 : List UInt8) ++ [0] = 128 :: List.replicate (j + 1) 0 := by rw [List.replicate_succ']; rfl
      rw [e1] at ho4
      have hj1 := HL.out.1
      subst hj1
      exact ⟨⟨j + 1, g4, c4, HL.out.2.1, rfl, h41, h42, ho4, own_grown HB2.out HO2.out hg4 HB2.out.size⟩, by have := HL.out.2.1; simp [lenB]; omega⟩
    · obtain rfl : j = z := by omega
      have hp0 : (p : Int) = 0 := by have := HZ.out; omega
      have HL := Lib.hid (And.intro hm (And.intro hp hc2))
      clear hlt hj hp hp5 hm hc2
      go_wp2_with fail
      have HO3 := Lib.hid (show _ ∧ m ≤ 100 ∧ m = j + 1 ∧ m ≤ c ∧ c ≤ maxLen from And.intro HO.out (And.intro hm100 (And.intro HL.out.1 (And.intro hc1 HL.out.2.2))))
      have HMM := Lib.hid (And.intro hm100 HL.out.1)
      clear HO e1 e2 e3 e4 HQ hp0 hm100 hc1 HL
      go_loopw [3, 4] (fun v iv W => ∃ k g c : Nat, k ≤ 8 ∧ iv = .int .i64 (7 - (k : Int)) ∧ v = .slice (some ⟨g, 0, none⟩) (m + k) c ∧ m + k ≤ c ∧ c ≤ maxLen ∧ W.ownsRow w.heap.size 5 1 (.slice (some ⟨g, 0, none⟩) (m + k) c) (m + k) (cells8 (128 :: List.replicate j 0 ++ (be8 m8).take k)) ∧ Below w.heap.size w W) (fun _ iv _ => (intOf iv + 1).toNat)
      case atStart => exact ⟨0, g, c, by omega, rfl, rfl, HO3.out.2.2.2.1, HO3.out.2.2.2.2, by simpa using HO3.out.1, HB.out⟩
      case round =>
        clear HB HO3
        obtain ⟨k, g, c, hk, rfl, rfl, hc1, hc2, ho, hB⟩ := hrel
        by_cases hlt : k < 8
        · obtain ⟨f1, f2, f3, f4, f5, f6⟩ := end_more HNN.out hlt HM.out
          obtain ⟨i, hi⟩ : ∃ i, i = 7 - k := ⟨_, rfl⟩
          have e8 : 56 - 8 * k = 8 * i := by omega
          have hx : (m8 : Int) / 2 ^ (8 * i) % 256 = (((UInt8.ofNat (m8 >>> (8 * i))).toNat : Nat) : Int) := by
            rw [UInt8.toNat_ofNat', Nat.shiftRight_eq_div_pow]; push_cast; rfl
          have Hx := Lib.hid hx
          have htk := Lib.hid (be8_take m8 k hlt)
          rw [e8] at htk
          rw [f1]
          rw [← hi] at f1 f6 ⊢
          have HF := Lib.hid (And.intro f1 (And.intro hlt hi))
          have HO := Lib.hid (And.intro ho (And.intro hc1 hc2))
          have HB := Lib.hid hB
          obtain ⟨mk, hmk⟩ : ∃ x, x = m + k := ⟨_, rfl⟩
          rw [← hmk] at HO ⊢
          have HK := Lib.hid hmk
          clear hx f1 f2 f5 e8 hi ho hc1 hc2 hB hmk hlt hk
          go_wp2_with (at_builtin; refine Hid.out ?_)
          refine Lib.hid ?_
          rw [Hx.out]
          generalize UInt8.ofNat (m8 >>> (8 * i)) = b at *
          have HX : Hid ((wr.alloc (.cells #[.int .u8 ((b.toNat : Nat) : Int)] 5)).rangeAt wr.heap.size 0 (cells8 [b])) := range_new wr _ _ _ rfl
          have HB2 := Lib.hid (al HB.out (.cells #[.int .u8 ((b.toNat : Nat) : Int)] 5))
          have HO2 := Lib.hid (HO.out.1.alloc (.cells #[.int .u8 ((b.toNat : Nat) : Int)] 5))
          refine wpList_append_b8 rfl _ _ rfl w.heap.size _ (128 :: List.replicate j 0 ++ (be8 m8).take k) [b] mk 1 (by have := HK.out; have := HMM.out; have := HF.out.2.1; simp [be8]; omega) rfl (by rfl) HO2.out wr.heap.size 0 1 rfl HX.out (by omega) (by have := HK.out; have := HMM.out; have := HF.out.2.1; omega) HB2.out.size ?_
          intro g4 c4 w4 ho4 hg4 h41 h42
          have hb4 := own_grown HB2.out HO2.out hg4 HB2.out.size
          rw [List.append_assoc, ← htk.out] at ho4
          have H4 := Lib.hid (And.intro ho4 (And.intro h41 (And.intro h42 hb4)))
          clear ho4 h41 h42 hb4 hg4
          go_wp2_with fail
          have hk1 : mk + 1 = m + (k + 1) := by have := HK.out; omega
          have hi1 : (i : Int) - 1 = 7 - ((k + 1 : Nat) : Int) := by have := HF.out; omega
          have hk8 := HF.out.2.1
          have H5 := H4.out
          clear H4 HO2 HB2 HX htk Hx HB HO HMM HE HZ HNN HM f3 f4
          exact ⟨⟨k + 1, g4, c4, hk8, by rw [hi1], by rw [hk1], by rw [← hk1]; exact H5.2.1, H5.2.2.1, by rw [← hk1]; exact H5.1, H5.2.2.2⟩, by simp only [intOf]; omega⟩
        · obtain rfl : k = 8 := by omega
          rw [show (7 : Int) - ((8 : Nat) : Int) = -1 from rfl]
          have ht8 : (be8 m8).take 8 = be8 m8 := List.take_of_length_le (by simp [be8])
          rw [ht8] at ho
          have hlen : (rend n).length = m + 8 := by rw [HE.out]; have := HMM.out.2; simp [be8]; omega
          have hrow : wr.ownsRow w.heap.size 5 1 (.slice (some ⟨g, 0, none⟩) (m + 8) c) (rend n).length (cells8 (rend n)) := by
            rw [hlen, HE.out]; exact ho
          have HR := Lib.hid (And.intro hrow hB)
          clear ht8 ho hlen hrow hB hc1 hc2
          go_wp2_with fail
          refine bodyPost_ret (results_tmp rfl _ _ _) rfl ?_
          exact ⟨_, rfl, HR.out⟩
end Go.Proofs.YtfmgoehnbaiamaaGreatDoor
-- Walks: the document's sum: Sum.
namespace Go.Proofs.YtfmgoehnbaiamaaGreatDoor
theorem sum_nums {i t : Nat} (hi : i < 32) (ht : t = 8 * (3 - i % 4)) : Int.tmod (i : Int) 4 = ((i % 4 : Nat) : Int) ∧ wrap64 (8 * ((i % 4 : Nat) : Int)) = ((8 * (i % 4) : Nat) : Int) ∧ wrap64 (24 - ((8 * (i % 4) : Nat) : Int)) = (t : Int) ∧ (t : Int) < 32 ∧ Int.tdiv (i : Int) 4 = ((i / 4 : Nat) : Int) := by
  refine ⟨by rw [Int.tmod_eq_emod_of_nonneg (by omega)]; omega, by unfold wrap64; omega, by unfold wrap64; omega, by omega, by rw [Int.tdiv_eq_ediv_of_nonneg (by omega)]; omega⟩
set_option maxRecDepth 100000 in
set_option maxHeartbeats 2000000 in
theorem refsum_any (s : List UInt32) (w : World) (hs : s.length = 8) : Calls Tryz.prog 159 #[.agg (cells32 s).toArray] w fun e w' => e = .returned (sv (sumBytes (told32 s 32) (length_told32 _ _))) ∧ Below w.heap.size w w' := by
  have h8 := list8 s hs
  have H8 := Lib.hid h8
  have hE : Row32 ((w.alloc (.cells (cells32 s).toArray 201)).alloc (.cells (cells8 (List.replicate 32 0)).toArray 24)) w.heap.size 201 s := (Row32.new _ rfl rfl).alloc _
  have e0 := hE.cell (i := 0) (by omega)
  have e1 := hE.cell (i := 1) (by omega)
  have e2 := hE.cell (i := 2) (by omega)
  have e3 := hE.cell (i := 3) (by omega)
  have e4 := hE.cell (i := 4) (by omega)
  have e5 := hE.cell (i := 5) (by omega)
  have e6 := hE.cell (i := 6) (by omega)
  have e7 := hE.cell (i := 7) (by omega)
  have hs2 : s = [s.getD 0 0, s.getD 1 0, s.getD 2 0, s.getD 3 0, s.getD 4 0, s.getD 5 0, s.getD 6 0, s.getD 7 0] := h8
  obtain ⟨x0, h0⟩ : ∃ x, x = s.getD 0 0 := ⟨_, rfl⟩
  obtain ⟨x1, h1⟩ : ∃ x, x = s.getD 1 0 := ⟨_, rfl⟩
  obtain ⟨x2, h2⟩ : ∃ x, x = s.getD 2 0 := ⟨_, rfl⟩
  obtain ⟨x3, h3⟩ : ∃ x, x = s.getD 3 0 := ⟨_, rfl⟩
  obtain ⟨x4, h4⟩ : ∃ x, x = s.getD 4 0 := ⟨_, rfl⟩
  obtain ⟨x5, h5⟩ : ∃ x, x = s.getD 5 0 := ⟨_, rfl⟩
  obtain ⟨x6, h6⟩ : ∃ x, x = s.getD 6 0 := ⟨_, rfl⟩
  obtain ⟨x7, h7⟩ : ∃ x, x = s.getD 7 0 := ⟨_, rfl⟩
  rw [← h0] at e0 hs2
  rw [← h1] at e1 hs2
  rw [← h2] at e2 hs2
  rw [← h3] at e3 hs2
  rw [← h4] at e4 hs2
  rw [← h5] at e5 hs2
  rw [← h6] at e6 hs2
  rw [← h7] at e7 hs2
  have HS := Lib.hid hs2
  clear hs hE h8 H8 h0 h1 h2 h3 h4 h5 h6 h7 hs2
  have hB0 : Below w.heap.size w ((w.alloc (.cells (cells32 s).toArray 201)).alloc (.cells (cells8 (List.replicate 32 0)).toArray 24)) := al (al (Below.refl _ _) _) _
  have hth0 : ((w.alloc (.cells (cells32 s).toArray 201)).alloc (.cells (cells8 (List.replicate 32 0)).toArray 24)).there (w.heap.size + 1) 0 32 := by
    have := there_new (w.alloc (.cells (cells32 s).toArray 201)) (cells8 (List.replicate 32 0)).toArray 24
    rwa [World.size_alloc] at this
  have HB0 := Lib.hid (And.intro hB0 (And.intro hth0 (show ((w.alloc (.cells (cells32 s).toArray 201)).alloc (.cells (cells8 (List.replicate 32 0)).toArray 24)).heap.size = w.heap.size + 2 by rw [World.size_alloc, World.size_alloc])))
  clear hB0 hth0
  go_enter Tryz.func159, Tryz.ntmps159
  refine Alm.wp_cut 1 ?_
  intro T hT
  dsimp only [cutN]
  replace hT := Lib.hid hT
  go_wp2_with fail
  refine hT.out _ _ ?_
  clear hT
  dsimp only [dropN]
  change Code.wp _ _ _ _ ((w.alloc (.cells (cells32 s).toArray 201)).alloc (.cells (cells8 (List.replicate 32 0)).toArray 24))
  generalize hW : (w.alloc (.cells (cells32 s).toArray 201)).alloc (.cells (cells8 (List.replicate 32 0)).toArray 24) = W at *
  clear hW
  go_wp2_with fail
  have hL0 : Row32 ((W.alloc (.cells (cells32 s).toArray 160)).alloc (.cells (cells8 (List.replicate 32 0)).toArray 24)) W.heap.size 160 s := (Row32.new _ rfl rfl).alloc _
  have hO0 : Row8 ((W.alloc (.cells (cells32 s).toArray 160)).alloc (.cells (cells8 (List.replicate 32 0)).toArray 24)) (W.heap.size + 1) 24 (told32 s 0) := Row8.new _ rfl (by rw [World.size_alloc])
  have hB1 : Below w.heap.size w ((W.alloc (.cells (cells32 s).toArray 160)).alloc (.cells (cells8 (List.replicate 32 0)).toArray 24)) := al (al HB0.out.1 _) _
  have hT1 : ((W.alloc (.cells (cells32 s).toArray 160)).alloc (.cells (cells8 (List.replicate 32 0)).toArray 24)).there (w.heap.size + 1) 0 32 := World.there_alloc (World.there_alloc HB0.out.2.1 _) _
  rw [show (cells32 s) = cells32 [x0, x1, x2, x3, x4, x5, x6, x7] by rw [HS.out]] at hL0 hO0 hB1 hT1
  have H0 := Lib.hid (And.intro hL0 (And.intro hO0 (And.intro hB1 hT1)))
  have HW := Lib.hid HB0.out.2.2
  clear hL0 hO0 hB1 hT1 HB0 e0 e1 e2 e3 e4 e5 e6 e7
  have hlen : s.length = 8 := by rw [HS.out]; rfl
  go_loopw [5] (fun v V => ∃ i : Nat, i ≤ 32 ∧ v = .int .i64 (i : Int) ∧ Row32 V W.heap.size 160 s ∧ Row8 V (W.heap.size + 1) 24 (told32 s i) ∧ Below w.heap.size w V ∧ V.there (w.heap.size + 1) 0 32) (fun v _ => 32 - (intOf v).toNat)
  case atStart => exact ⟨0, by omega, rfl, H0.out⟩
  case round =>
    clear H0
    obtain ⟨i, hi, rfl, hL, hO, hB, hT⟩ := hrel
    by_cases hlt : i < 32
    · have c5 := hL.cell (i := i / 4) (by omega)
      have hl2 := length_told32 s i
      have c6 := hO.cell (i := i) (by omega)
      have f6 := hO.free i
      have hset := hO.set i (UInt8.ofNat ((s.getD (i / 4) 0).toNat >>> (8 * (3 - i % 4))))
      have hold : (told32 s i).set i (UInt8.ofNat ((s.getD (i / 4) 0).toNat >>> (8 * (3 - i % 4)))) = told32 s (i + 1) := rfl
      rw [hold] at hset
      clear hold hl2
      generalize (told32 s i).getD i 0 = old at c6
      generalize s.getD (i / 4) 0 = x at *
      obtain ⟨t, ht⟩ : ∃ t, t = 8 * (3 - i % 4) := ⟨_, rfl⟩
      rw [← ht] at hset
      obtain ⟨n1, n2, n3, n4, n5⟩ := sum_nums hlt ht
      have hx : uv x / 2 ^ t % 256 = (((UInt8.ofNat (x.toNat >>> t)).toNat : Nat) : Int) := by
        rw [UInt8.toNat_ofNat', Nat.shiftRight_eq_div_pow]; unfold uv; push_cast; rfl
      have Hx := Lib.hid hx
      have HSE := Lib.hid (And.intro hset (And.intro hB hT))
      have hi' : (i : Int) < 32 := by omega
      have hi0 : (0 : Int) ≤ (i : Int) := by omega
      have HLL := Lib.hid (And.intro hL hlt)
      clear hset hB hT hx ht hL hO hlen
      obtain ⟨d4, hd4⟩ : ∃ d, d = i / 4 := ⟨_, rfl⟩
      obtain ⟨m4, hm4⟩ : ∃ d, d = i % 4 := ⟨_, rfl⟩
      obtain ⟨k4, hk4⟩ : ∃ d, d = 8 * m4 := ⟨_, rfl⟩
      rw [← hm4] at n1 n2 n3
      rw [← hk4] at n2 n3
      rw [← hd4] at n5 c5
      have hd8 : (d4 : Int) < 8 := by omega
      clear hd4 hm4 hk4
      go_wp2_with fail
      rw [Hx.out]
      have hsb : w.heap.size ≤ W.heap.size + 1 := by have := HW.out; omega
      have h5 := HSE.out
      have h6 := HLL.out
      clear HSE HLL Hx n1 n2 n3 n4 n5 c5 c6 f6 hd8
      exact ⟨⟨i + 1, h6.2, rfl, h6.1.other _ _ (by simp), h5.1, h5.2.1.setCell hsb _, World.there_setCells h5.2.2 (W.heap.size + 1) i [_]⟩, by simp only [intOf]; omega⟩
    · obtain rfl : i = 32 := by omega
      have hrg : wr.rangeAt (W.heap.size + 1) 0 (cellsOf (sumBytes (told32 s 32) (length_told32 _ _))) := by rw [cellsOf_sumBytes]; exact hO.range
      have HG := Lib.hid (And.intro hrg (And.intro hT hB))
      clear hrg hT hB hO hL
      go_wp2_with (first
        | (refine wpList_load_sum rfl _ rfl (W.heap.size + 1) 0 rfl (sumBytes (told32 s 32) (length_told32 _ _)) HG.out.1 ?_)
        | (refine wpList_store_sum rfl _ _ rfl (w.heap.size + 1) 0 (sumBytes (told32 s 32) (length_told32 _ _)) rfl rfl HG.out.2.1 ?_))
      exact bodyPost_ret (results_sum Tryz.results159 _ _ _ _ rfl (World.there_setCells HG.out.2.1 _ _ _)) rfl ⟨rfl, setCells_below _ (Nat.le_succ _) _ _ _ _ HG.out.2.2⟩
end Go.Proofs.YtfmgoehnbaiamaaGreatDoor
