/-
  Merged: S13, S14, S15.
-/
import Derived.Test.YtfmgoehnbaiamaaZS2
import Derived.Test.YtfmgoehnbaiamaaSched3
-- Walks: law 16's great, of, bits.
open Go Go.RowKit Alm
namespace Go.Proofs.Ytfmgoehnbaiamaa
set_option maxRecDepth 100000 in
theorem great16_any (P : List Keys.Pr) (v : Value) (w : World) (hv : PairsAt w v P) : Calls Try.prog 36 #[v] w fun e w' => ∃ r : Bool, e = .returned (.bool r) ∧ (r = false → P.length ≤ 16) ∧ Below w.heap.size w w' := by
  have HV := Lib.hid hv
  obtain ⟨a, cap, rfl, h1, h2⟩ := pairs_form hv
  by_cases hlt : 16 < P.length
  · obtain ⟨N, hN⟩ : ∃ N, N = P.length := ⟨_, rfl⟩
    rw [← hN] at HV h1 hlt ⊢
    clear hv hN h2
    have c1 : decide (16 < N) = true := by simpa using hlt
    have c1' : decide ((16 : Int) < (N : Int)) = true := by simp; omega
    go_enter Try.func36, Try.ntmps36
    go_wp2_with fail
    exact bodyPost_ret (results_tmp rfl _ _ _) rfl ⟨true, rfl, fun h => by (first | cases h | simp at h), Below.refl _ _⟩
  · obtain ⟨N, hN⟩ : ∃ N, N = P.length := ⟨_, rfl⟩
    rw [← hN] at HV h1 hlt ⊢
    have HN := Lib.hid hN
    clear hv hN h2
    have c1 : decide (16 < N) = false := by simpa using hlt
    have c1' : decide ((16 : Int) < (N : Int)) = false := by simp; omega
    go_enter Try.func36, Try.ntmps36
    go_wp2_with fail
    refine (psize_any P _ _ HV.out (by rw [← HN.out]; omega)).mono ?_
    rintro e w1 ⟨⟨m, rfl⟩, hb1⟩
    have HB := Lib.hid hb1
    clear hb1
    go_wp2_with fail
    exact bodyPost_ret (results_tmp rfl _ _ _) rfl ⟨_, rfl, fun _ => by omega, HB.out⟩
/-- Pairs in memory stay where maps alone were written. -/
theorem RawAt.put {w W : World} {X : Nat → Prop} {v : Value} {n : Nat} (h : RawAt w v n) (hX : OnMaps X w) (hk : Keeps X w W) : RawAt W v n := by
  obtain ⟨a, cap, cs, rfl, h1, h2, h3, h4⟩ := h
  refine ⟨a, cap, cs, rfl, h1, h2, h3, ?_⟩
  rcases h4 with h4 | ⟨b, o, rfl, hr⟩
  · exact .inl h4
  · by_cases hn : n = 0
    · exact .inl hn
    · refine .inr ⟨b, o, rfl, hk.range hr (range_maps hX hr fun e => ?_)⟩
      have := length_cellsP cs
      rw [e] at this
      simp at this
      omega
/-- What law 16's of has in hand. -/
structure OF (w W : World) (p b j : Nat) (l : List Ent) (L : List Keys.Pr) (xv : Value) (n : Nat) : Prop where
  bw : Below w.heap.size w W
  map : MapIn W p b j l
  prs : prs l = L
  raw : RawAt W xv n
  le : n ≤ j
theorem OF.below {w W W' : World} {p b j : Nat} {l : List Ent} {L : List Keys.Pr} {xv : Value} {n : Nat} (h : OF w W p b j l L xv n) (hb : Below W.heap.size W W') : OF w W' p b j l L xv n :=
  ⟨h.bw.trans (hb.mono h.bw.size), h.map.below hb, h.prs, h.raw.below hb, h.le⟩
set_option maxRecDepth 100000 in
set_option maxHeartbeats 8000000 in
theorem of16_any (P : List Keys.Pr) (v : Value) (w : World) (hv : PairsAt w v P) (hn : P.length < 100000) : Calls Try.prog 38 #[v] w fun e w' => ∃ p b l x, e = .returned (.tuple #[.pointer (some ⟨p, 0, none⟩), x]) ∧ MapIn w' p b P.length l ∧ prs l = puts [] P ∧ w.heap.size ≤ p ∧ w.heap.size ≤ b ∧ p ≠ b ∧ Below w.heap.size w w' := by
  have HV := Lib.hid hv
  obtain ⟨a, cap, rfl, h1, h2⟩ := pairs_form hv
  obtain ⟨N, hN⟩ : ∃ N, N = P.length := ⟨_, rfl⟩
  rw [← hN] at HV h1 hn ⊢
  have HN := Lib.hid (And.intro hN hn)
  clear hv hN h2
  have k1 : (N : Int) ≤ (cap : Int) := by omega
  go_enter Try.func38, Try.ntmps38
  go_wp2_with fail
  refine (mnew_any w).mono ?_
  rintro e w1 ⟨rfl, hm1, hb1⟩
  obtain ⟨p, hp⟩ : ∃ p, p = w.heap.size + 1 := ⟨_, rfl⟩
  obtain ⟨b, hb⟩ : ∃ b, b = w.heap.size := ⟨_, rfl⟩
  rw [← hp, ← hb] at hm1
  rw [← hp]
  have HP := Lib.hid (And.intro hp hb)
  have H1 := Lib.hid (And.intro hm1 hb1)
  clear hm1 hb1 hp hb
  go_wp2_with fail
  go_loopw [5, 6] (fun xv iv W => ∃ (j : Nat) (l : List Ent) (n : Nat) (xw : Value), j ≤ N ∧ iv = .int .i64 (j : Int) ∧ xw = xv ∧ OF w W p b j l (puts [] (P.take j)) xw n) (fun _ iv _ => N - (intOf iv).toNat)
  case atStart => exact ⟨0, [], 0, _, by omega, rfl, rfl, ⟨H1.out.2, H1.out.1, rfl, ⟨none, 0, [], rfl, Nat.le_refl _, by unfold maxLen; omega, rfl, .inl rfl⟩, Nat.le_refl _⟩⟩
  case round =>
    clear H1
    obtain ⟨j, l, n, xv, hj, rfl, rfl, hO⟩ := hrel
    have HB := Lib.hid hO
    clear hO
    by_cases hlt : j < N
    · have c1 : decide (j < N) = true := by simpa using hlt
      have c1' : decide ((j : Int) < (N : Int)) = true := by simp; omega
      have hj0 : (0 : Int) ≤ (j : Int) := by omega
      have hlt' : (j : Int) < (N : Int) := by omega
      obtain ⟨ba, oa, ca', y, xs, he1, hr1, hy1, hg1⟩ := pairs_one (HV.out.below HB.out.bw.drew) (i := j) (by rw [← HN.out.1]; exact hlt)
      simp only [Value.slice.injEq] at he1
      obtain ⟨rfl, -, rfl⟩ := he1
      have HX := Lib.hid (And.intro hr1 hy1)
      have HG := Lib.hid hg1
      have HJ := Lib.hid (And.intro hj hlt)
      clear hr1 hy1 hg1
      go_wp2_with fail
      have hcell : wr.drew.cell? ⟨ba, oa + j * 33 + 32, none⟩ = some (peV y) := by
        have := HX.out.1 32 (peV y) (by rw [encP, List.getElem?_append_right (by rw [length_cellsOf]; omega), length_cellsOf]; rfl)
        exact this
      have HC := Lib.hid (And.intro (encP_key HX.out.1) hcell)
      clear hcell
      refine wp_region_sched (fun W => W.rangeAt ba (oa + j * 33) (cellsOf y.1) ∧ W.cell? ⟨ba, oa + j * 33 + 32, none⟩ = some (peV y)) [.t 0, .t 1, .t 2, .t 3, .t 4, .t 6, .t 7, .t 8, .t 9, .s 5, .e 10 true, .e 11 false, .t 12] (by kernel_rfl) (by kernel_rfl) (by intro c a d v w h; cases d <;> exact h) ?_
      have HBD := Lib.hid (HB.out.below (Below.refl wr.heap.size wr).drew)
      clear HB
      generalize wr.drew = V at *
      iterate 9
        refine wpS_t rfl (v := ?_) (by rfl) (fun W => ?_) ?_
        rotate_left
        · go_simp
          try rfl
        try simp only [Act.put, List.setIfInBounds_toArray, List.set_cons_zero, List.set_cons_succ]
      refine wpS_load_sum (by exact HC.out) rfl (by rfl) _ (by rfl) ba (oa + j * 33) (by rfl) y.1 (fun V hV => hV.1) ?_
      try simp only [Act.put, List.setIfInBounds_toArray, List.set_cons_zero, List.set_cons_succ]
      refine wpS_k rfl (by rfl) (fun K hK => ?_)
      have g := HC.out.2
      go_simp
      refine hK _ _ ⟨by exact HC.out, ?_⟩; clear hK K
      try simp only [Act.put, List.setIfInBounds_toArray, List.set_cons_zero, List.set_cons_succ]
      clear g
      refine wpS_e rfl (by rfl) (fun K hK => ?_)
      go_simp
      refine (mput_any y.1 xs (peV y) V p b j l HBD.out.map (by have := HN.out.2; omega) HX.out.2).mono ?_
      rintro e V2 ⟨rfl, l2, hm2, hp2, hk2⟩
      have hbelow : Below w.heap.size w V2 := HBD.out.bw.trans (hk2.below (B := w.heap.size) HBD.out.bw.size (fun k hk => by have := HP.out.2; omega))
      have H2 := Lib.hid (show OF w V2 p b (j + 1) l2 (puts [] (P.take (j + 1))) xv n from ⟨hbelow, hm2, by rw [puts_take [] P HG.out, hp2, HBD.out.prs], HBD.out.raw.put HBD.out.map.on hk2, by have := HBD.out.le; omega⟩)
      have hle := HBD.out.le
      have HLE := Lib.hid hle
      clear hm2 hp2 hk2 hbelow HBD HC HX hle
      refine hK _ _ ?_; clear hK K
      try simp only [Act.put, List.setIfInBounds_toArray, List.set_cons_zero, List.set_cons_succ]
      by_cases hx : xs.length > 256
      · rw [if_pos hx]
        clear hx
        iterate 1
          refine wpS_t rfl (v := ?_) (by rfl) (fun W => ?_) ?_
          rotate_left
          · go_simp
            try rfl
          try simp only [Act.put, List.setIfInBounds_toArray, List.set_cons_zero, List.set_cons_succ]
        refine wpS_done ?_
        go_wp2_with fail
        exact ⟨⟨j + 1, l2, n, _, by omega, by simp, rfl, H2.out⟩, by simp [intOf]; omega⟩
      · rw [if_neg hx]
        have HXX := Lib.hid hx
        clear hx
        iterate 1
          refine wpS_t rfl (v := ?_) (by rfl) (fun W => ?_) ?_
          rotate_left
          · go_simp
            try rfl
          try simp only [Act.put, List.setIfInBounds_toArray, List.set_cons_zero, List.set_cons_succ]
        refine wpS_done ?_
        go_wp2_with fail
        obtain ⟨b2, o2, c2, y2, xs2, he1, hr1, hy1, hg1⟩ := pairs_one (HV.out.below H2.out.bw.drew) (i := j) (by rw [← HN.out.1]; exact hlt)
        simp only [Value.slice.injEq, Option.some.injEq, Addr.mk.injEq, and_true] at he1
        obtain ⟨⟨rfl, rfl⟩, -, rfl⟩ := he1
        have HX := Lib.hid (And.intro hr1 hy1)
        have hszx : xs2.length < 4000000000 := by have h := HG.out; rw [hg1] at h; simp only [Option.some.injEq, Prod.mk.injEq] at h; rw [h.2]; have := HXX.out; omega
        have HSX := Lib.hid hszx
        clear hr1 hy1 hg1 hszx
        have hcell : V2.drew.cell? ⟨ba, oa + j * 33 + 32, none⟩ = some (peV y2) := by
          have := HX.out.1 32 (peV y2) (by rw [encP, List.getElem?_append_right (by rw [length_cellsOf]; omega), length_cellsOf]; rfl)
          exact this
        have HC := Lib.hid (And.intro (encP_key HX.out.1) hcell)
        clear hcell
        refine wp_region_sched (fun W => W.rangeAt ba (oa + j * 33) (cellsOf y2.1) ∧ W.cell? ⟨ba, oa + j * 33 + 32, none⟩ = some (peV y2)) [.t 0, .t 1, .t 2, .t 3, .t 4, .t 6, .t 7, .t 8, .t 9, .s 5, .e 10 true, .e 11 false, .t 12] (by kernel_rfl) (by kernel_rfl) (by intro c a d v w h; cases d <;> exact h) ?_
        have HBD := Lib.hid (H2.out.below (Below.refl V2.heap.size V2).drew)
        clear H2
        generalize V2.drew = V3 at *
        iterate 9
          refine wpS_t rfl (v := ?_) (by rfl) (fun W => ?_) ?_
          rotate_left
          · go_simp
            try rfl
          try simp only [Act.put, List.setIfInBounds_toArray, List.set_cons_zero, List.set_cons_succ]
        refine wpS_load_sum (by exact HC.out) rfl (by rfl) _ (by rfl) ba (oa + j * 33) (by rfl) y2.1 (fun V hV => hV.1) ?_
        try simp only [Act.put, List.setIfInBounds_toArray, List.set_cons_zero, List.set_cons_succ]
        refine wpS_k rfl (by rfl) (fun K hK => ?_)
        have g := HC.out.2
        go_simp
        refine hK _ _ ⟨by exact HC.out, ?_⟩; clear hK K
        try simp only [Act.put, List.setIfInBounds_toArray, List.set_cons_zero, List.set_cons_succ]
        clear g
        refine wpS_e rfl (by rfl) (fun K hK => ?_)
        go_simp
        refine (rput_any y2.1 xs2 (peV y2) xv n V3 HBD.out.raw HX.out.2 HSX.out (by have := HLE.out; have := HN.out.2; omega)).mono ?_
        rintro e V4 ⟨v', n', rfl, hr4, hn4, hb4⟩
        have H4 := Lib.hid (show OF w V4 p b (j + 1) l2 (puts [] (P.take (j + 1))) v' n' from ⟨HBD.out.bw.trans (hb4.mono HBD.out.bw.size), HBD.out.map.below hb4, HBD.out.prs, hr4, by have := HLE.out; omega⟩)
        clear hr4 hn4 hb4 HBD HC HX
        refine hK _ _ ?_; clear hK K
        try simp only [Act.put, List.setIfInBounds_toArray, List.set_cons_zero, List.set_cons_succ]
        iterate 1
          refine wpS_t rfl (v := ?_) (by rfl) (fun W => ?_) ?_
          rotate_left
          · go_simp
            try rfl
          try simp only [Act.put, List.setIfInBounds_toArray, List.set_cons_zero, List.set_cons_succ]
        refine wpS_done ?_
        go_wp2_with fail
        exact ⟨⟨j + 1, l2, n', _, by omega, by simp, rfl, H4.out⟩, by simp [intOf]; omega⟩
    · have hjn : j = N := by omega
      subst hjn
      go_wp2_with fail
      refine bodyPost_ret (results_tmp2 rfl _ _ _) rfl ⟨p, b, l, xv, ?_, HB.out.map, ?_, by have := HP.out.1; omega, by have := HP.out.2; omega, by have := HP.out; omega, HB.out.bw⟩
      · rfl
      rw [HB.out.prs, List.take_of_length_le (by rw [← HN.out.1]; exact Nat.le_refl _)]
theorem shift_mod (x i : Nat) : (x >>> i) % 2 = if x.testBit i then 1 else 0 := by
  rw [Nat.testBit_eq_decide_div_mod_eq, Nat.shiftRight_eq_div_pow]
  by_cases h : x / 2 ^ i % 2 = 1
  · rw [h]; simp
  · rw [decide_eq_false h]; simp; omega
theorem cnt_le (which : Sum) : ∀ n, cnt which n ≤ n
  | 0 => Nat.le_refl _
  | n + 1 => by have := cnt_le which n; rw [cnt]; split <;> omega
set_option maxRecDepth 100000 in
set_option maxHeartbeats 1000000 in
theorem bits_any (k : Sum) (w : World) : Calls Try.prog 40 #[sv k] w fun e w' => e = .returned (.int .i64 (cnt k 256 : Int)) ∧ Below w.heap.size w w' := by
  have hb0 := al (Below.refl _ w) (.cells (cellsOf k).toArray 29)
  obtain ⟨z, hz⟩ : ∃ z, z = w.heap.size := ⟨_, rfl⟩
  have hr0 : (w.alloc (.cells (cellsOf k).toArray 29)).rangeAt z 0 (cellsOf k) := by rw [hz]; exact range_new w (cellsOf k).toArray 29 _ rfl
  have H0 := Lib.hid (And.intro hr0 hb0)
  have HZ := Lib.hid hz
  clear hb0 hz hr0
  obtain ⟨C, hC⟩ : ∃ C, C = cnt k 256 := ⟨_, rfl⟩
  rw [← hC]
  have HC := Lib.hid hC
  clear hC
  go_enter Try.func40, Try.ntmps40
  go_wp2_with fail
  rw [← HZ.out]
  go_loopw [3, 4] (fun nv iv W => ∃ (j n : Nat), j ≤ 256 ∧ nv = .int .i64 (n : Int) ∧ iv = .int .i64 (j : Int) ∧ n + cnt k (256 - j) = C ∧ Below w.heap.size w W ∧ W.rangeAt z 0 (cellsOf k)) (fun _ iv _ => 256 - (intOf iv).toNat)
  case atStart => exact ⟨0, 0, by omega, rfl, rfl, by rw [HC.out]; simp, H0.out.2, H0.out.1⟩
  case round =>
    obtain ⟨j, n, hj, rfl, rfl, hc, hB, hR⟩ := hrel
    have HB := Lib.hid (And.intro hB (And.intro hR hc))
    clear hB hR hc
    by_cases hlt : j < 256
    · have c1 : decide (j < 256) = true := by simpa using hlt
      have c1' : decide ((j : Int) < 256) = true := by simp; omega
      have HJ := Lib.hid hlt
      clear hj
      go_wp2_with (refine wpList_load_sum rfl _ rfl z 0 rfl k HB.out.2.1 ?_)
      refine (bit_any k j wr HJ.out).mono ?_
      rintro e V ⟨rfl, hb1⟩
      have hstep : cnt k (256 - j) = cnt k (256 - (j + 1)) + (Keys.kn k >>> (255 - j)) % 2 := by
        have hlt := HJ.out
        rw [show 256 - j = (255 - j) + 1 by omega, cnt, shift_mod, show 256 - (j + 1) = 255 - j by omega]
      have hq2 : (Keys.kn k >>> (255 - j)) % 2 < 2 := Nat.mod_lt _ (by omega)
      obtain ⟨q, hq⟩ : ∃ q, q = (Keys.kn k >>> (255 - j)) % 2 := ⟨_, rfl⟩
      rw [← hq] at hstep hq2 ⊢
      have hk1 := cnt_le k 256
      have hnq : n + q ≤ 256 := by have := HB.out.2.2; have := HC.out; omega
      have H1 := Lib.hid (And.intro (HB.out.1.trans (hb1.mono HB.out.1.size)) (And.intro ((Keeps.of_below (X := fun _ => False) hb1).range HB.out.2.1 (fun h => h)) (show n + q + cnt k (256 - (j + 1)) = C by have := HB.out.2.2; omega)))
      have HQ := Lib.hid hnq
      have hwn : wrap64 ((n : Int) + (q : Int)) = ((n + q : Nat) : Int) := by unfold wrap64; omega
      have hwj : wrap64 ((j : Int) + 1) = ((j + 1 : Nat) : Int) := by have := HJ.out; unfold wrap64; omega
      clear hb1 hstep hq2 hq hk1 hnq HB hlt
      go_wp2_with fail
      try rw [hwn]
      try rw [hwj]
      refine ⟨⟨j + 1, n + q, by have := HJ.out; omega, ?_, ?_, H1.out.2.2, H1.out.1, H1.out.2.1⟩, by simp only [intOf]; have := HJ.out; omega⟩
      · first | rfl | simp
      · first | rfl | simp
    · have hjn : j = 256 := by omega
      subst hjn
      go_wp2_with fail
      refine bodyPost_ret (results_tmp rfl _ _ _) rfl ⟨?_, HB.out.1⟩
      have := HB.out.2.2
      have e : n = C := by simpa [cnt] using this
      show Ending.returned (.int .i64 (n : Int)) = _
      rw [e]
end Go.Proofs.Ytfmgoehnbaiamaa
-- Walk: law 16's alive.
namespace Alm
theorem join {α β : Type} {G : α → β → Prop} {g : Prop} (F : α → β → Prop) (main : (∀ a b, F a b → G a b) → g) (key : ∀ a b, F a b → G a b) : g := main key
theorem heap_freeze {w : World} {b k : Nat} {C : Array Value} {e : TypeId} {fr : Nat × Nat} (h : w.heap[b]? = some (.cells C e fr)) : ∃ fr', (w.freeze ⟨b, k, none⟩ 1).heap[b]? = some (.cells C e fr') := by
  obtain ⟨lo, hi⟩ := fr
  refine ⟨(if lo == hi then (k, k + 1) else (min lo k, max hi (k + 1))), ?_⟩
  unfold World.freeze
  rw [if_neg (by decide)]
  simp [Array.getElem?_modify, h]
theorem keeps_freeze (w : World) (b k : Nat) : Keeps (fun i => i = b) w (w.freeze ⟨b, k, none⟩ 1) := by
  unfold World.freeze
  rw [if_neg (by decide)]
  refine ⟨rfl, rfl, rfl, by simp, fun i hi hne => ?_⟩
  have hne' : ¬ b = i := fun e => hne e.symm
  simp [Array.getElem?_modify, hne']
end Alm
theorem Alm.heap_new (w : World) (o : Obj) : (w.alloc o).heap[w.heap.size]? = some o := by
  show (w.heap.push _)[w.heap.size]? = _
  simp
namespace Go.Proofs.Ytfmgoehnbaiamaa
theorem conv_own {w : World} {b n c : Nat} {C : Array Value} {fr : Nat × Nat} (h : w.heap[b]? = some (.cells C 5 fr)) : (convert 34 34 (.slice (some ⟨b, 0, none⟩) n c)).run Try.prog w = .ok (.slice (some ⟨b, 0, none⟩) n c) (w.freeze ⟨b, C.size, none⟩ 1) := by
  have hsh : w.shape? b = some (5, C.size) := by unfold World.shape?; rw [h]
  simp [convert, run_underlying Try.underlying34, run_underlying Try.underlying5, markStringish, hsh]
theorem bytes_heap {w : World} {b : Nat} {x : UInt8} {fr : Nat × Nat} (h : w.heap[b]? = some (.cells #[.int .u8 ((x.toNat : Nat) : Int)] 5 fr)) : BytesAt w (.slice (some ⟨b, 0, none⟩) 1 1) [x] := by
  refine ⟨_, 1, rfl, Nat.le_refl _, by decide, .inr ⟨b, 0, rfl, fun j v hv => ?_⟩⟩
  rw [cell_of_row _ _ _ _ _ fr h, Nat.zero_add]
  have hj : j < 1 := by have := (List.getElem?_eq_some_iff.1 hv).1; simpa [cells8] using this
  have : j = 0 := by omega
  subst this
  simpa [cells8, u8v] using hv
/-! ### a show in a variable -/
theorem wpList_var_show {ops : Array Oper} {rest : List Oper} {op : Oper} {a : Act} {w : World} {C : Array Value} {t : TypeId} {Q : Exit → Act → World → Prop} (hC : C.size = 33) (hgd : op.guard = none) (x y : Operand) (ho : op.op = .store 59 x y) (which : Sum) (v : Value) (hv : v.oneCell' = true)
    (hx : a.eval x = .pointer (some ⟨w.heap.size, 0, none⟩)) (hy : a.eval y = shV which v)
    (h : ∀ W', Below w.heap.size w W' → W'.rangeAt w.heap.size 0 (cellsShow which v) → wpList Try.prog ops Q rest (a.put op.dst undef) W') : wpList Try.prog ops Q (op :: rest) a (w.alloc (.cells C t)) := by
  have ht : (w.alloc (.cells C t)).there w.heap.size 0 33 := by rw [← hC]; exact there_new _ _ _
  have hsz : (cellsShow which v).toArray.size = 33 := by rw [List.size_toArray, length_cellsShow]
  have ht2 := World.there_setCells ht w.heap.size 0 (cellsShow which v)
  exact wpList_store_mid hgd _ x y ho w.heap.size 0 _ hx hy (by rw [hsz]; exact ht) (by rw [hsz]; exact infoShow) (one_cellsShow which hv) (h _ (setCells_below _ (Nat.le_refl _) _ 0 _ _ (al (Below.refl _ _) _)) (range_stored _ _ _ _ (by rw [length_cellsShow]; exact ht2)))
theorem wpT_load_sum {md : Region.Mode} {S : World → Prop} {ops : List Oper} {Q : Exit → Act → World → Prop} {r : List MvT} {a : Act} {w : World} {o : Oper} {i : Nat} (hS : S w) (ho : ops[i]? = some o) (hg : Region.wanted o (yielded ops.toArray a.tmps) = true) (x : Operand) (hop : o.op = .load 29 x) (b off : Nat) (hx : a.eval x = .pointer (some ⟨b, off, none⟩)) (s : Sum)
    (hc : ∀ W, S W → W.rangeAt b off (cellsOf s)) (h : wpT Try.prog md ops.toArray Q S r (a.put o.dst (sv s)) w) : wpT Try.prog md ops.toArray Q S (.s i :: r) a w :=
  wpT_load_mid hS ho hg _ x hop b off hx (cellsOf s) _ hc Try.underlying29 rfl (by rw [length_cellsOf]; exact infoSum) h
theorem wpT_load_show {md : Region.Mode} {S : World → Prop} {ops : List Oper} {Q : Exit → Act → World → Prop} {r : List MvT} {a : Act} {w : World} {o : Oper} {i : Nat} (hS : S w) (ho : ops[i]? = some o) (hg : Region.wanted o (yielded ops.toArray a.tmps) = true) (x : Operand) (hop : o.op = .load 59 x) (b off : Nat) (hx : a.eval x = .pointer (some ⟨b, off, none⟩)) (which : Sum) (v : Value)
    (hc : ∀ W, S W → W.rangeAt b off (cellsShow which v)) (h : wpT Try.prog md ops.toArray Q S r (a.put o.dst (shV which v)) w) : wpT Try.prog md ops.toArray Q S (.s i :: r) a w :=
  wpT_load_mid hS ho hg _ x hop b off hx (cellsShow which v) _ hc Try.underlying59 rfl (by rw [length_cellsShow]; exact infoShow) h
theorem wpS_load_show {md : Region.Mode} {S : World → Prop} {ops : List Oper} {Q : Exit → Act → World → Prop} {r : List Mv} {a : Act} {w : World} {o : Oper} {i : Nat} (hS : S w) (ho : ops[i]? = some o) (hg : Region.wanted o (yielded ops.toArray a.tmps) = true) (x : Operand) (hop : o.op = .load 59 x) (b off : Nat) (hx : a.eval x = .pointer (some ⟨b, off, none⟩)) (which : Sum) (v : Value)
    (hc : ∀ W, S W → W.rangeAt b off (cellsShow which v)) (h : wpS Try.prog md ops.toArray Q S r (a.put o.dst (shV which v)) w) : wpS Try.prog md ops.toArray Q S (.s i :: r) a w :=
  wpS_load_mid hS ho hg _ x hop b off hx (cellsShow which v) _ hc Try.underlying59 rfl (by rw [length_cellsShow]; exact infoShow) h
theorem cell_show {W : World} {z : Nat} {which : Sum} {v : Value} (h : W.rangeAt z 0 (cellsShow which v)) : W.cell? ⟨z, 32, none⟩ = some v := by
  have := h 32 v (by rw [cellsShow, List.getElem?_append_right (by rw [length_cellsOf]; omega), length_cellsOf]; rfl)
  simpa using this
theorem which_show {W : World} {z : Nat} {which : Sum} {v : Value} (h : W.rangeAt z 0 (cellsShow which v)) : W.rangeAt z 0 (cellsOf which) := range_left_ h
/-! ### what is told of none -/
theorem tells_nil (k : Sum) : ∀ n, tells k n [] = List.replicate n none
  | 0 => rfl
  | n + 1 => by
    rw [tells, show oth k n [] = [] from rfl, show mine k n [] = [] from rfl, atH_nil, if_pos rfl, tells_nil k n, List.replicate_succ]
theorem sides_none : ∀ n, sidesOf (List.replicate n none) = []
  | 0 => rfl
  | n + 1 => by rw [List.replicate_succ, sidesOf_cons, sides_none n]; rfl
theorem kn_zeroSum : Keys.kn zeroSum = 0 := by
  show Fast.bnum zeroSum.toList = 0
  decide +kernel
theorem which_none {which : Sum} (h : Bits which 256 (List.replicate 256 none)) : which = zeroSum := by
  refine Keys.kn_inj ?_
  rw [kn_zeroSum]
  refine Nat.eq_of_testBit_eq fun i => ?_
  rw [Nat.zero_testBit]
  by_cases hi : i < 256
  · have := h (255 - i) (by omega)
    rw [show 256 - 1 - (255 - i) = i by omega] at this
    rw [this, List.getD_eq_getElem?_getD, List.getElem?_replicate]
    split <;> rfl
  · have hlt : Keys.kn which < 2 ^ i := Nat.lt_of_lt_of_le (Fast.snum_lt which) (Nat.pow_le_pow_right (by omega) (by omega))
    exact Nat.testBit_lt_two_pow hlt
theorem tells_one (k : Sum) (v : List UInt8) : ∀ n, tells k n [(k, v)] = List.replicate n none
  | 0 => rfl
  | n + 1 => by
    have e1 : oth k n [(k, v)] = [] := by unfold oth; simp
    have e2 : mine k n [(k, v)] = [(k, v)] := by unfold mine; simp
    rw [tells, e1, e2, atH_nil, if_pos rfl, tells_one k v n, List.replicate_succ]
theorem bits_none (n : Nat) : Bits zeroSum n (List.replicate n none) := fun j hj => by
  rw [kn_zeroSum, Nat.zero_testBit, List.getD_eq_getElem?_getD, List.getElem?_replicate, if_pos hj]; rfl
theorem alive_yes (k : Sum) : checkOf (em 256) k [] zeroSum [] = true := by
  have h := check_tells (k := k) (which := zeroSum) (l := []) (T := tells k 256 []) List.Pairwise.nil (tells_ok k 256 []) (by rw [tells_nil]; exact bits_none 256)
  rw [root_nil, tells_nil, sides_none] at h
  exact h
theorem alive_no : checkOf (em 256) (lit 7) [97] zeroSum [] = false := by
  have hr : Keys.Rise [((lit 7, [97]) : Keys.Pr)] := List.pairwise_singleton _ _
  have h := run_tells (k := lit 7) (which := zeroSum) 256 [(lit 7, [97])] (tells (lit 7) 256 [(lit 7, [97])]) [] hr (near_top _ _) (tells_ok _ _ _) (by rw [tells_one]; exact bits_none 256)
  rw [tells_one, sides_none, one_get, List.append_nil] at h
  unfold checkOf
  rw [h]
  refine decide_eq_false fun hh => ?_
  exact root_one_ne hh.2.2
/-- What alive has in hand. -/
structure SHW (w W : World) (p b z : Nat) (zs : Sum) : Prop where
  bw : Below w.heap.size w W
  map : MapIn W p b 0 []
  shw : W.rangeAt z 0 (cellsShow zs (.slice none 0 0))
theorem SHW.below {w W W' : World} {p b z : Nat} {zs : Sum} (h : SHW w W p b z zs) (hb : Below W.heap.size W W') : SHW w W' p b z zs :=
  ⟨h.bw.trans (hb.mono h.bw.size), h.map.below hb, (Keeps.of_below (X := fun _ => False) hb).range h.shw (fun h => h)⟩
set_option maxRecDepth 100000 in
set_option maxHeartbeats 2000000 in
theorem alive16_any (w : World) : Calls Try.prog 37 #[] w fun e w' => e = .returned (.bool true) ∧ Below w.heap.size w w' := by
  obtain ⟨ea, hea⟩ : ∃ y, y = em 256 := ⟨_, rfl⟩
  obtain ⟨zs, hzs⟩ : ∃ y, y = zeroSum := ⟨_, rfl⟩
  have HY := Lib.hid (And.intro hea hzs)
  clear hea hzs
  go_enter Try.func37, Try.ntmps37
  go_wp2_with fail
  refine (mnew_any w).mono ?_
  rintro e w1 ⟨rfl, hm, hb⟩
  obtain ⟨p, hp⟩ : ∃ p, p = w.heap.size + 1 := ⟨_, rfl⟩
  obtain ⟨b, hbb⟩ : ∃ b, b = w.heap.size := ⟨_, rfl⟩
  rw [← hp, ← hbb] at hm
  rw [← hp]
  have HA := Lib.hid (And.intro hm hb)
  clear hm hb hp hbb
  go_wp2_with fail
  rw [val_7]
  refine (sof_any (lit 7) w1 p b 0 [] HA.out.1 (by simp)).mono ?_
  rintro e w2 ⟨which, v, rfl, hN, hBt, hb⟩
  rw [show prs [] = [] from rfl, tells_nil] at hN hBt
  rw [sides_none] at hN
  obtain rfl : v = .slice none 0 0 := by
    rcases hN with ⟨h, _⟩ | ⟨g, c, h, h0, _⟩
    · exact h
    · exact absurd rfl h0
  obtain rfl := which_none hBt
  rw [← HY.out.2]
  have HA2 := Lib.hid (And.intro (HA.out.2.trans (hb.mono HA.out.2.size)) (HA.out.1.below hb))
  clear HA hb hN hBt
  have HG := Lib.hid trivial
  go_wp2_with (have _ := HG; refine wpList_var_show (by rfl) rfl _ _ rfl zs (.slice none 0 0) (by rfl) rfl rfl ?_; intro w3 hb hr; obtain ⟨z, hz⟩ : ∃ x, x = w2.heap.size := ⟨_, rfl⟩; rw [← hz] at hr ⊢; have HS0 := Lib.hid (show SHW w w3 p b z zs from ⟨HA2.out.1.trans (hb.mono HA2.out.1.size), HA2.out.2.below hb, hr⟩); clear HG hb hr hz HA2)
  refine wp_region_schedT (fun V => SHW w V p b z zs) [.t 0, .t 1, .t 2, .t 3, .t 5, .e 4 true, .t 6, .t 7, .t 8, .t 9, .e 10 true, .t 11, .t 12, .t 13, .t 14, .t 15, .t 17, .s 18, .e 16 true, .e 19 true, .t 20, .t 21, .t 22, .t 24, .s 27, .g 23 25 26 true, .e 28 false, .t 29, .t 30, .t 31] (by kernel_rfl) (by kernel_rfl) (by intro c a d v w h; cases d <;> exact h) ?_
  have HS := Lib.hid (HS0.out.below (Below.refl _ _).drew)
  clear HS0
  generalize w3.drew = V at *
  have hes := eq_sums_same zs
  iterate 4
    refine wpT_t rfl (v := ?_) (by rfl) (fun W => ?_) ?_
    rotate_left
    · go_simp
      try rfl
    try simp only [Act.put, List.setIfInBounds_toArray, List.set_cons_zero, List.set_cons_succ]
  refine wpT_t rfl (v := sv zs) (by rfl) (fun W => ?_) ?_
  · go_simp
    rw [HY.out.2]
    rw [cellsOf_zeroSum]
    kernel_rfl
  try simp only [Act.put, List.setIfInBounds_toArray, List.set_cons_zero, List.set_cons_succ]
  refine wpT_k rfl (by rfl) (fun K hK => ?_)
  refine wp_load_sum _ (by rfl) z 0 (by rfl) zs (which_show HS.out.shw) ?_
  refine hK _ _ ⟨by exact HS.out, ?_⟩; clear hK K
  try simp only [Act.put, List.setIfInBounds_toArray, List.set_cons_zero, List.set_cons_succ]
  iterate 4
    refine wpT_t rfl (v := ?_) (by rfl) (fun W => ?_) ?_
    rotate_left
    · go_simp
      try rfl
    try simp only [Act.put, List.setIfInBounds_toArray, List.set_cons_zero, List.set_cons_succ]
  refine wpT_k rfl (by rfl) (fun K hK => ?_)
  have g := cell_show HS.out.shw
  go_simp
  refine hK _ _ ⟨by exact HS.out, ?_⟩; clear hK K
  try simp only [Act.put, List.setIfInBounds_toArray, List.set_cons_zero, List.set_cons_succ]
  clear g
  iterate 6
    refine wpT_t rfl (v := ?_) (by rfl) (fun W => ?_) ?_
    rotate_left
    · go_simp
      try rfl
    try simp only [Act.put, List.setIfInBounds_toArray, List.set_cons_zero, List.set_cons_succ]
  rw [val_7]
  refine wpT_load_show (by exact HS.out) rfl (by rfl) _ (by rfl) z 0 (by rfl) zs (.slice none 0 0) (fun W hW => hW.shw) ?_
  try simp only [Act.put, List.setIfInBounds_toArray, List.set_cons_zero, List.set_cons_succ]
  refine wpT_k rfl (by rfl) (fun K hK => ?_)
  go_simp
  have HR := Lib.hid (mroot_any V p b 0 [] HS.out.map (by simp))
  rw [show prs [] = [] from rfl, root_nil, ← HY.out.1] at HR
  refine HR.out.mono ?_
  rintro e V1 ⟨rfl, hb⟩
  have HS1 := Lib.hid (HS.out.below hb)
  clear HS HR hb
  refine hK _ _ ⟨by exact HS1.out, ?_⟩; clear hK K
  try simp only [Act.put, List.setIfInBounds_toArray, List.set_cons_zero, List.set_cons_succ]
  refine wpT_k rfl (by rfl) (fun K hK => ?_)
  go_simp
  refine (scheck_any ea (lit 7) zs (.slice none 0 0) (.slice none 0 0) [] [] V1 ⟨none, 0, rfl, by simp, by unfold maxLen; omega, .inl rfl⟩ ⟨none, 0, rfl, by simp, by unfold maxLen; omega, .inl rfl⟩ (by simp) (by simp)).mono ?_
  rw [HY.out.1, HY.out.2, alive_yes, ← HY.out.1, ← HY.out.2]
  rintro e V2 ⟨rfl, hb⟩
  have HS2 := Lib.hid (HS1.out.below hb)
  clear HS1 hb
  refine hK _ _ ⟨by exact HS2.out, ?_⟩; clear hK K
  try simp only [Act.put, List.setIfInBounds_toArray, List.set_cons_zero, List.set_cons_succ]
  iterate 4
    refine wpT_t rfl (v := ?_) (by rfl) (fun W => ?_) ?_
    rotate_left
    · go_simp
      try rfl
    try simp only [Act.put, List.setIfInBounds_toArray, List.set_cons_zero, List.set_cons_succ]
  rw [val_7]
  refine wpT_load_show (by exact HS2.out) rfl (by rfl) _ (by rfl) z 0 (by rfl) zs (.slice none 0 0) (fun W hW => hW.shw) ?_
  try simp only [Act.put, List.setIfInBounds_toArray, List.set_cons_zero, List.set_cons_succ]
  have hrt : ∀ U, SHW w U p b z zs → Calls Try.prog 23 #[.pointer (some ⟨p, 0, none⟩)] U fun e w' => e = .returned (sv ea) ∧ Below U.heap.size U w' := fun U hU => by
    have h := mroot_any U p b 0 [] hU.map (by simp)
    rw [show prs [] = [] from rfl, root_nil, ← HY.out.1] at h
    exact h
  have HRT := Lib.hid hrt
  clear hrt hes
  refine' Alm.join (fun (q : Nat) (W : World) => SHW w W p b z zs ∧ BytesAt W (.slice (some ⟨q, 0, none⟩) 1 1) [97]) (fun key => ?_) ?_
  rotate_left
  · refine wpT_g ?_ ?_
    · refine wpOp_of rfl (by rfl) (fun K hK => ?_)
      go_simp
      refine (HRT.out V2 HS2.out).mono ?_
      rintro e V3 ⟨rfl, hb⟩
      have HS3 := Lib.hid (HS2.out.below hb)
      clear hb
      refine hK _ _ ⟨by exact HS3.out, ?_⟩; clear hK K
      try simp only [Act.put, List.setIfInBounds_toArray, List.set_cons_zero, List.set_cons_succ]
      refine wpOp_of rfl (by rfl) (fun K hK => ?_)
      go_simp
      have hb1 : Below V3.heap.size V3 (V3.alloc (.cells #[.int .u8 97] 5)) := al (Below.refl _ V3) _
      have HB1 := Lib.hid hb1
      clear hb1
      refine hK _ _ ⟨by exact HS3.out.below HB1.out, ?_⟩; clear hK K
      try simp only [Act.put, List.setIfInBounds_toArray, List.set_cons_zero, List.set_cons_succ]
      have hh := heap_new V3 (.cells #[.int .u8 97] 5)
      refine wpOp_of rfl (by rfl) (fun K hK => ?_)
      have g := conv_own (n := 1) (c := 1) hh
      go_simp
      clear g
      obtain ⟨fr', hf⟩ := heap_freeze (k := 1) hh
      have hS4 : SHW w ((V3.alloc (.cells #[.int .u8 97] 5)).freeze ⟨V3.heap.size, 1, none⟩ 1) p b z zs := HS3.out.below (HB1.out.trans ((keeps_freeze _ _ _).below (B := V3.heap.size) HB1.out.size (fun k hk => by rw [hk]; exact Nat.le_refl _)))
      have HS4 := Lib.hid (And.intro hS4 (show BytesAt ((V3.alloc (.cells #[.int .u8 97] 5)).freeze ⟨V3.heap.size, 1, none⟩ 1) (.slice (some ⟨V3.heap.size, 0, none⟩) 1 1) [97] from bytes_heap (x := 97) hf))
      clear hh hf hS4
      refine hK _ _ ⟨by exact HS4.out.1, ?_⟩; clear hK K
      try simp only [Act.put, List.setIfInBounds_toArray, List.set_cons_zero, List.set_cons_succ]
      have HF := Lib.hid HS4.out
      clear HS4 HS3 HB1
      generalize ((V3.alloc (.cells #[.int .u8 97] 5)).freeze ⟨V3.heap.size, 1, none⟩ 1) = W9 at *
      generalize V3.heap.size = q9 at *
      exact key q9 W9 HF.out
    · refine wpOp_of rfl (by rfl) (fun K hK => ?_)
      go_simp
      have hb1 : Below V2.heap.size V2 (V2.alloc (.cells #[.int .u8 97] 5)) := al (Below.refl _ V2) _
      have hh := heap_new V2 (.cells #[.int .u8 97] 5)
      have HB1 := Lib.hid (And.intro hb1 hh)
      have HS3 := Lib.hid (HS2.out.below hb1)
      clear hb1 hh
      refine hK _ _ ⟨by exact HS3.out, ?_, ?_⟩ <;> clear hK K
      · skip
        try simp only [Act.put, List.setIfInBounds_toArray, List.set_cons_zero, List.set_cons_succ]
        refine wpOp_of rfl (by rfl) (fun K hK => ?_)
        go_simp
        refine (HRT.out (V2.alloc (.cells #[.int .u8 97] 5)) HS3.out).mono ?_
        rintro e V4 ⟨rfl, hb⟩
        have hlt : V2.heap.size < (V2.alloc (.cells #[.int .u8 97] 5)).heap.size := by rw [World.size_alloc]; omega
        have hh : V4.heap[V2.heap.size]? = some (.cells #[.int .u8 97] 5) := (hb.block _ hlt).trans HB1.out.2
        have hbb : Below V2.heap.size V2 V4 := HB1.out.1.trans (hb.mono HB1.out.1.size)
        have HB4 := Lib.hid (And.intro hbb hh)
        have HS4 := Lib.hid (HS2.out.below hbb)
        clear hb hh hlt hbb
        refine hK _ _ ⟨by exact HS4.out, ?_⟩; clear hK K
        try simp only [Act.put, List.setIfInBounds_toArray, List.set_cons_zero, List.set_cons_succ]
        have hh := HB4.out.2
        refine wpOp_of rfl (by rfl) (fun K hK => ?_)
        have g := conv_own (n := 1) (c := 1) hh
        go_simp
        clear g
        obtain ⟨fr', hf⟩ := heap_freeze (k := 1) hh
        have hS5 : SHW w (V4.freeze ⟨V2.heap.size, 1, none⟩ 1) p b z zs := HS2.out.below (HB4.out.1.trans ((keeps_freeze _ _ _).below (B := V2.heap.size) HB4.out.1.size (fun k hk => by rw [hk]; exact Nat.le_refl _)))
        have HS5 := Lib.hid (And.intro hS5 (show BytesAt (V4.freeze ⟨V2.heap.size, 1, none⟩ 1) (.slice (some ⟨V2.heap.size, 0, none⟩) 1 1) [97] from bytes_heap (x := 97) hf))
        clear hh hf hS5
        refine hK _ _ ⟨by exact HS5.out.1, ?_⟩; clear hK K
        try simp only [Act.put, List.setIfInBounds_toArray, List.set_cons_zero, List.set_cons_succ]
        have HF := Lib.hid HS5.out
        clear HS5 HS4 HB4 HS3 HB1
        generalize (V4.freeze ⟨V2.heap.size, 1, none⟩ 1) = W9 at *
        generalize V2.heap.size = q9 at *
        exact key q9 W9 HF.out
      · skip
        try simp only [Act.put, List.setIfInBounds_toArray, List.set_cons_zero, List.set_cons_succ]
        have hh := HB1.out.2
        refine wpOp_of rfl (by rfl) (fun K hK => ?_)
        have g := conv_own (n := 1) (c := 1) hh
        go_simp
        clear g
        obtain ⟨fr', hf⟩ := heap_freeze (k := 1) hh
        have hS5 : SHW w ((V2.alloc (.cells #[.int .u8 97] 5)).freeze ⟨V2.heap.size, 1, none⟩ 1) p b z zs := HS2.out.below (HB1.out.1.trans ((keeps_freeze _ _ _).below (B := V2.heap.size) HB1.out.1.size (fun k hk => by rw [hk]; exact Nat.le_refl _)))
        have HS5 := Lib.hid (And.intro hS5 (show BytesAt ((V2.alloc (.cells #[.int .u8 97] 5)).freeze ⟨V2.heap.size, 1, none⟩ 1) (.slice (some ⟨V2.heap.size, 0, none⟩) 1 1) [97] from bytes_heap (x := 97) hf))
        clear hh hf hS5
        refine hK _ _ ⟨by exact HS5.out.1, ?_⟩; clear hK K
        try simp only [Act.put, List.setIfInBounds_toArray, List.set_cons_zero, List.set_cons_succ]
        refine wpOp_of rfl (by rfl) (fun K hK => ?_)
        go_simp
        refine (HRT.out ((V2.alloc (.cells #[.int .u8 97] 5)).freeze ⟨V2.heap.size, 1, none⟩ 1) HS5.out.1).mono ?_
        rintro e V6 ⟨rfl, hb⟩
        have HS6 := Lib.hid (And.intro (HS5.out.1.below hb) (bytes_below HS5.out.2 hb (Nat.le_refl _)))
        clear hb
        refine hK _ _ ⟨by exact HS6.out.1, ?_⟩; clear hK K
        try simp only [Act.put, List.setIfInBounds_toArray, List.set_cons_zero, List.set_cons_succ]
        have HF := Lib.hid HS6.out
        clear HS6 HS5 HS3 HB1
        generalize V2.heap.size = q9 at *
        exact key q9 V6 HF.out
  · intro q W hF
    have HF := Lib.hid hF
    clear hF
    refine wpT_e rfl (by rfl) (fun K hK => ?_)
    go_simp
    refine (scheck_any ea (lit 7) zs (.slice (some ⟨q, 0, none⟩) 1 1) (.slice none 0 0) [97] [] W HF.out.2 ⟨none, 0, rfl, by simp, by unfold maxLen; omega, .inl rfl⟩ (by simp) (by simp)).mono ?_
    rw [HY.out.1, HY.out.2, alive_no, ← HY.out.1, ← HY.out.2]
    rintro e V7 ⟨rfl, hb⟩
    have HB7 := Lib.hid (HF.out.1.bw.trans (hb.mono HF.out.1.bw.size))
    clear hb HF
    refine hK _ _ ?_; clear hK K
    try simp only [Act.put, List.setIfInBounds_toArray, List.set_cons_zero, List.set_cons_succ]
    iterate 3
      refine wpT_t rfl (v := ?_) (by rfl) (fun W => ?_) ?_
      rotate_left
      · go_simp
        try rfl
      try simp only [Act.put, List.setIfInBounds_toArray, List.set_cons_zero, List.set_cons_succ]
    refine wpT_done ?_
    go_wp2_with fail
    exact bodyPost_ret (results_tmp rfl _ _ _) rfl ⟨rfl, HB7.out⟩
end Go.Proofs.Ytfmgoehnbaiamaa
-- What the laws of layer 16 have in hand.
namespace Go.Proofs.Ytfmgoehnbaiamaa
theorem sums_maps {X : Nat → Prop} {w w' : World} (hX : OnMaps X w) (hk : Keeps X w w') {v : Value} {l : List Sum} (h : SumsAt w v l) : SumsAt w' v l := by
  obtain ⟨a, cap, rfl, h1, h2, h3⟩ := h
  refine ⟨a, cap, rfl, h1, h2, ?_⟩
  rcases h3 with h3 | ⟨b, o, rfl, hr⟩
  · exact .inl h3
  · by_cases hl : l = []
    · exact .inl hl
    · refine .inr ⟨b, o, rfl, hk.range hr (range_maps hX hr fun e => ?_)⟩
      have := length_cellsAll l
      rw [e] at this
      have := List.length_pos_iff.2 hl
      simp at *
      omega
theorem sums_form {w : World} {v : Value} {l : List Sum} (h : SumsAt w v l) : ∃ a cap, v = .slice a l.length cap ∧ l.length ≤ cap ∧ cap ≤ maxLen := by
  obtain ⟨a, cap, rfl, h1, h2, _⟩ := h
  exact ⟨a, cap, rfl, h1, h2⟩
structure LW (w W : World) (p b n : Nat) (l : List Ent) (R : List (Nat × Sum)) (B : List (Value × List UInt8)) (H : List (Nat × Sum × Value × List Sum)) : Prop where
  bw : Below w.heap.size w W
  map : MapIn W p b n l
  hb : w.heap.size ≤ b
  r : ∀ q ∈ R, W.rangeAt q.1 0 (cellsOf q.2)
  y : ∀ q ∈ B, BytesAt W q.1 q.2
  s : ∀ q ∈ H, W.rangeAt q.1 0 (cellsShow q.2.1 q.2.2.1) ∧ SumsAt W q.2.2.1 q.2.2.2
theorem LW.below {w W W' : World} {p b n : Nat} {l : List Ent} {R : List (Nat × Sum)} {B : List (Value × List UInt8)} {H : List (Nat × Sum × Value × List Sum)} (h : LW w W p b n l R B H) (hb : Below W.heap.size W W') : LW w W' p b n l R B H :=
  have kk := Keeps.of_below (X := fun _ => False) hb
  ⟨h.bw.trans (hb.mono h.bw.size), h.map.below hb, h.hb, fun q hq => kk.range (h.r q hq) (fun h => h), fun q hq => bytes_below (h.y q hq) hb (Nat.le_refl _), fun q hq => ⟨kk.range (h.s q hq).1 (fun h => h), (h.s q hq).2.below hb (Nat.le_refl _)⟩⟩
theorem LW.addR {w W : World} {p b n : Nat} {l : List Ent} {R : List (Nat × Sum)} {B : List (Value × List UInt8)} {H : List (Nat × Sum × Value × List Sum)} (h : LW w W p b n l R B H) {z : Nat} {s : Sum} (hr : W.rangeAt z 0 (cellsOf s)) : LW w W p b n l ((z, s) :: R) B H :=
  ⟨h.bw, h.map, h.hb, fun q hq => by rcases List.mem_cons.1 hq with rfl | hq; exact hr; exact h.r q hq, h.y, h.s⟩
theorem LW.addY {w W : World} {p b n : Nat} {l : List Ent} {R : List (Nat × Sum)} {B : List (Value × List UInt8)} {H : List (Nat × Sum × Value × List Sum)} (h : LW w W p b n l R B H) {v : Value} {s : List UInt8} (hr : BytesAt W v s) : LW w W p b n l R ((v, s) :: B) H :=
  ⟨h.bw, h.map, h.hb, h.r, fun q hq => by rcases List.mem_cons.1 hq with rfl | hq; exact hr; exact h.y q hq, h.s⟩
theorem LW.addS {w W : World} {p b n : Nat} {l : List Ent} {R : List (Nat × Sum)} {B : List (Value × List UInt8)} {H : List (Nat × Sum × Value × List Sum)} (h : LW w W p b n l R B H) {z : Nat} {x : Sum} {v : Value} {S : List Sum} (hr : W.rangeAt z 0 (cellsShow x v)) (hs : SumsAt W v S) : LW w W p b n l R B ((z, x, v, S) :: H) :=
  ⟨h.bw, h.map, h.hb, h.r, h.y, fun q hq => by rcases List.mem_cons.1 hq with rfl | hq; exact ⟨hr, hs⟩; exact h.s q hq⟩
theorem LW.put {w W W' : World} {p b n n' : Nat} {l l' : List Ent} {R : List (Nat × Sum)} {B : List (Value × List UInt8)} {H : List (Nat × Sum × Value × List Sum)} (h : LW w W p b n l R B H) (hm : MapIn W' p b n' l') (hk : Keeps (fun i => i = b) W W') : LW w W' p b n' l' R B H :=
  ⟨h.bw.trans (hk.below h.bw.size (fun k hk => by have := h.hb; omega)), hm, h.hb, fun q hq => hk.range (h.r q hq) (range_maps h.map.on (h.r q hq) (cellsOf_ne _)), fun q hq => bytes_maps h.map.on hk (h.y q hq),
    fun q hq => ⟨hk.range (h.s q hq).1 (range_maps h.map.on (h.s q hq).1 (fun e => by have := length_cellsShow q.2.1 q.2.2.1; rw [e] at this; cases this)), sums_maps h.map.on hk (h.s q hq).2⟩⟩
theorem puts_few {P : List Keys.Pr} {l : List Ent} (h : prs l = puts [] P) (hP : P.length ≤ 16) : l.length ≤ 16 := by
  have h1 := congrArg List.length h
  have h2 := length_puts P []
  simp [prs] at h1 h2
  omega
theorem sides_few (k : Sum) {P : List Keys.Pr} {l : List Ent} (h : prs l = puts [] P) (hP : P.length ≤ 16) : (sidesOf (tells k 256 (prs l))).length ≤ 16 := by
  have h1 := length_sides k 256 (prs l)
  have h2 := puts_few h hP
  simp [prs] at h1 ⊢
  omega
theorem cnt_sides {which : Sum} {k : Sum} {l : List Keys.Pr} (h : Bits which 256 (tells k 256 l)) : cnt which 256 = (sidesOf (tells k 256 l)).length := cnt_bits 256 _ (length_tells k 256 l) h
end Go.Proofs.Ytfmgoehnbaiamaa
