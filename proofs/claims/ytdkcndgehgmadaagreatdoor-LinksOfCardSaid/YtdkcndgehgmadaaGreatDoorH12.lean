/-
  Walk: the law PathsOf.
-/
import Derived.Test.YtdkcndgehgmadaaGreatDoorZHC
open Go Go.RowKit Alm
namespace Go.Proofs.YtdkcndgehgmadaaGreatDoor
theorem brq {w V : World} (hV : Below w.heap.size w V) {b o : Nat} {cs : List Value} (h : w.rangeAt b o cs) : V.rangeAt b o cs := (Keeps.of_below (X := fun _ => False) hV).range h (fun h => h)
theorem brc {w V : World} (hV : Below w.heap.size w V) {a : Addr} {v : Value} (h : w.cell? a = some v) : V.cell? a = some v := (Keeps.of_below (X := fun _ => False) hV).cell h (fun h => h)
/-- What the region reads. -/
theorem qse {w1 V V' : World} {z m n : Nat} {v : Value} (h : V.cell? ⟨z, 32, none⟩ = some (.int .u64 (m : Int)) ∧ V.cell? ⟨z, 33, none⟩ = some (.int .u64 (n : Int)) ∧ V.cell? ⟨z, 34, none⟩ = some v ∧ Below w1.heap.size w1 V) (hb : Below V.heap.size V V') :
    V'.cell? ⟨z, 32, none⟩ = some (.int .u64 (m : Int)) ∧ V'.cell? ⟨z, 33, none⟩ = some (.int .u64 (n : Int)) ∧ V'.cell? ⟨z, 34, none⟩ = some v ∧ Below w1.heap.size w1 V' :=
  ⟨brc hb h.1, brc hb h.2.1, brc hb h.2.2.1, h.2.2.2.trans (hb.mono h.2.2.2.size)⟩
set_option maxRecDepth 100000 in
set_option maxHeartbeats 2000000 in
theorem pathsOf_law (l : List Sum) (vl : Value) (z : Int) (a : Sum) (m n : Nat) (vp : Value) (p : List Sum) (b : Sum) (w : World) (hl : SumsAt w vl l) (hp : SumsAt w vp p) (hn : n < 18446744073709551616) :
    Calls Tryz.prog 3 #[vl, .int .i64 z, said10 a m n vp b] w fun e w' => e = .returned (.bool true) ∧ Below w.heap.size w w' := by
  have HL := Lib.hid hl
  have HP := Lib.hid hp
  have HN := Lib.hid hn
  obtain ⟨al0, cl, rfl, _, _, _⟩ := hl
  obtain ⟨ap0, cp, rfl, _, _, _⟩ := hp
  obtain ⟨x, hx⟩ : ∃ x, x = l.length := ⟨_, rfl⟩
  obtain ⟨y, hy⟩ : ∃ y, y = p.length := ⟨_, rfl⟩
  rw [← hx] at HL ⊢
  rw [← hy] at HP ⊢
  have HXY := Lib.hid (And.intro hx hy)
  clear hx hy hn
  by_cases h1 : 100 < x
  · have h1' : (100 : Int) < (x : Int) := by omega
    go_enter Tryz.func3, Tryz.ntmps3
    go_wp2_with (refine wpList_box_qsaid rfl _ rfl a m n _ b rfl ?_; intro W1 hb1 _ hs1; have HB := Lib.hid hb1; clear hb1 hs1)
    exact bodyPost_ret (results_tmp rfl _ _ _) rfl ⟨rfl, HB.out⟩
  · have h1' : ¬ (100 : Int) < (x : Int) := by omega
    have h1d : decide (100 < x) = false := decide_eq_false h1
    by_cases h2 : 200 < y
    · have h2' : (200 : Int) < (y : Int) := by omega
      go_enter Tryz.func3, Tryz.ntmps3
      go_wp2_with (refine wpList_box_qsaid rfl _ rfl a m n _ b rfl ?_; intro W1 hb1 _ hs1; have HB := Lib.hid hb1; have hc := hs1.2.2.2.1; clear hb1 hs1)
      exact bodyPost_ret (results_tmp rfl _ _ _) rfl ⟨rfl, HB.out⟩
    · have h2' : ¬ (200 : Int) < (y : Int) := by omega
      have h2d : decide (200 < y) = false := decide_eq_false h2
      have HLE : Hid (l.length ≤ 100 ∧ p.length ≤ 200) := Lib.hid (by have := HXY.out; omega)
      clear h1 h2
      go_enter Tryz.func3, Tryz.ntmps3
      go_wp2_with (first
        | (refine wpList_box_qsaid rfl _ rfl a m n _ b rfl ?_; intro W1 hb1 hz1 hs1; have HB := Lib.hid (And.intro hb1 (And.intro hz1 hs1)); have hc := hs1.2.2.2.1; clear hb1 hz1 hs1)
        | (go_at_call 8; refine Hid.out ?_))
      refine Lib.hid ?_
      have HL1 := Lib.hid (HL.out.below HB.out.1 (Nat.le_refl _))
      have HP1 := Lib.hid (HP.out.below HB.out.1 (Nat.le_refl _))
      obtain ⟨q0, hq0⟩ : ∃ q, q = w.heap.size := ⟨_, rfl⟩
      have HQ0 := Lib.hid hq0
      rw [← hq0] at HB hc ⊢
      clear hq0 hc
      refine (twin_sums l _ W1 HL1.out (by have := HLE.out; omega)).mono ?_
      rintro e W2 ⟨t, rfl, ht, hb2⟩
      have H2 := Lib.hid (And.intro ht hb2)
      clear ht hb2
      have hc := brc H2.out.2 HB.out.2.2.2.2.2.1
      go_wp2_with (go_at_call 8; refine Hid.out ?_)
      refine Lib.hid ?_
      clear hc
      refine (twin_sums p _ W2 (HP1.out.below H2.out.2 (Nat.le_refl _)) (by have := HLE.out; omega)).mono ?_
      rintro e W3 ⟨u, rfl, hu, hb3⟩
      have H3 := Lib.hid (And.intro (H2.out.1.below hb3) (And.intro hu (H2.out.2.trans (hb3.mono H2.out.2.size))))
      have H3T := Lib.hid (And.intro (fun k hk => H2.out.1.lie.lt k hk) (And.intro (fun k hk => hu.lie.lt k hk) (And.intro hb3.size H2.out.2.size)))
      clear hu hb3 H2
      go_wp2_with (go_at_call 9; refine Hid.out ?_)
      refine Lib.hid ?_
      refine (pof_any l t z W3 H3.out.1.sums (by have := HLE.out; omega)).mono ?_
      rintro e W4 ⟨x9, rfl, hx9, hb4⟩
      have H4 := Lib.hid (And.intro (H3.out.1.below hb4) (And.intro (H3.out.2.1.below hb4) (And.intro hx9 (H3.out.2.2.trans (hb4.mono H3.out.2.2.size)))))
      have H4T := Lib.hid (fun k hk => hx9.lt k hk)
      clear hx9 hb4
      obtain ⟨er, her⟩ : ∃ e, e = errOf l z := ⟨_, rfl⟩
      rw [← her]
      go_wp2_with (go_at_call 10; refine Hid.out ?_)
      refine Lib.hid ?_
      refine (rof_any l _ z W4 (HL1.out.below H4.out.2.2.2 (Nat.le_refl _)) (by have := HLE.out; omega)).mono ?_
      rw [← her]
      rintro e W5 ⟨y9, rfl, hy9, hb5⟩
      have H5 := Lib.hid (And.intro (H4.out.1.below hb5) (And.intro (H4.out.2.1.below hb5) (And.intro (H4.out.2.2.1.below hb5) (And.intro hy9 (H4.out.2.2.2.trans (hb5.mono H4.out.2.2.2.size))))))
      clear hy9 hb5 H4 H3 her
      go_wp2_with fail
      have hd := (Below.refl W5.heap.size W5).drew
      have HQS := Lib.hid (And.intro (brq H5.out.2.2.2.2 HB.out.2.2.1) (brq H5.out.2.2.2.2 HB.out.2.2.2.2.2.2))
      have HS0 := Lib.hid (qse (w1 := W1) ⟨brc H5.out.2.2.2.2 HB.out.2.2.2.1, brc H5.out.2.2.2.2 HB.out.2.2.2.2.1, brc H5.out.2.2.2.2 HB.out.2.2.2.2.2.1, H5.out.2.2.2.2⟩ hd)
      have H6 := Lib.hid (And.intro (H5.out.1.below hd) (And.intro (H5.out.2.1.below hd) (And.intro (H5.out.2.2.1.below hd) (H5.out.2.2.2.1.below hd (Nat.le_refl _)))))
      have HBW := Lib.hid (HB.out.2.2)
      clear hd
      refine wp_region_sched (fun V => V.cell? ⟨q0, 32, none⟩ = some (.int .u64 (m : Int)) ∧ V.cell? ⟨q0, 33, none⟩ = some (.int .u64 (n : Int)) ∧ V.cell? ⟨q0, 34, none⟩ = some (.slice ap0 y cp) ∧ Below W1.heap.size W1 V) [.t 0, .t 1, .t 2, .t 3, .t 4, .t 5, .e 6 true, .t 7, .t 8, .t 9, .t 10, .t 12, .t 14, .t 16, .t 17, .t 20, .t 22, .t 24, .t 26, .t 28, .s 11, .s 13, .s 15, .s 18, .s 21, .s 23, .s 25, .s 27, .s 29, .e 19 true, .e 30 false, .t 31, .t 32, .t 33, .t 34, .t 35, .e 36 false, .t 37, .t 38, .t 39, .t 40, .t 41, .e 42 false, .e 43 false, .t 44, .t 45] (by kernel_rfl) (by kernel_rfl) (by intro c a d v w h; cases d <;> exact h) ?_
      clear H5 HQS
      generalize W5.drew = V at *
      have HSV := Lib.hid (Below.refl V.heap.size V)
      iterate 6
        refine wpS_t rfl (v := ?_) (by rfl) (fun W => ?_) ?_
        rotate_left
        · go_simp
          try rfl
        try simp only [Act.put, List.setIfInBounds_toArray, List.set_cons_zero, List.set_cons_succ]
      refine wpS_k rfl (by rfl) (fun K hK => ?_)
      go_simp
      refine (same_sums _ _ _ _ V (lie_sums H6.out.2.2.1) H6.out.2.2.2).mono ?_
      rintro e V2 ⟨rfl, hb6⟩
      rw [show decide (pathOf l z = pathOf l z) = true by simp]
      have HS1 := Lib.hid (qse HS0.out hb6)
      have H7 := Lib.hid (And.intro (H6.out.1.below hb6) (And.intro (H6.out.2.1.below hb6) (H6.out.2.2.1.below hb6)))
      clear hb6 HSV
      refine hK _ _ ⟨by exact HS1.out, ?_⟩; clear hK K
      try simp only [Act.put, List.setIfInBounds_toArray, List.set_cons_zero, List.set_cons_succ]
      iterate 13
        refine wpS_t rfl (v := ?_) (by rfl) (fun W => ?_) ?_
        rotate_left
        · go_simp
          try rfl
        try simp only [Act.put, List.setIfInBounds_toArray, List.set_cons_zero, List.set_cons_succ]
      refine wpS_load_sum (by exact HS1.out) rfl (by rfl) _ (by rfl) q0 0 (by rfl) a (fun V hV => brq hV.2.2.2 HBW.out.1) ?_
      try simp only [Act.put, List.setIfInBounds_toArray, List.set_cons_zero, List.set_cons_succ]
      refine wpS_s (by exact HS1.out) rfl (v := ?_) (by rfl) (fun W hSW => ?_) ?_
      rotate_left
      · go_simp
        try rfl
      try simp only [Act.put, List.setIfInBounds_toArray, List.set_cons_zero, List.set_cons_succ]
      refine wpS_s (by exact HS1.out) rfl (v := ?_) (by rfl) (fun W hSW => ?_) ?_
      rotate_left
      · go_simp
        try rfl
      try simp only [Act.put, List.setIfInBounds_toArray, List.set_cons_zero, List.set_cons_succ]
      refine wpS_load_sum (by exact HS1.out) rfl (by rfl) _ (by rfl) q0 35 (by rfl) b (fun V hV => brq hV.2.2.2 HBW.out.2.2.2.2) ?_
      try simp only [Act.put, List.setIfInBounds_toArray, List.set_cons_zero, List.set_cons_succ]
      refine wpS_load_sum (by exact HS1.out) rfl (by rfl) _ (by rfl) q0 0 (by rfl) a (fun V hV => brq hV.2.2.2 HBW.out.1) ?_
      try simp only [Act.put, List.setIfInBounds_toArray, List.set_cons_zero, List.set_cons_succ]
      refine wpS_s (by exact HS1.out) rfl (v := ?_) (by rfl) (fun W hSW => ?_) ?_
      rotate_left
      · go_simp
        try rfl
      try simp only [Act.put, List.setIfInBounds_toArray, List.set_cons_zero, List.set_cons_succ]
      refine wpS_s (by exact HS1.out) rfl (v := ?_) (by rfl) (fun W hSW => ?_) ?_
      rotate_left
      · go_simp
        try rfl
      try simp only [Act.put, List.setIfInBounds_toArray, List.set_cons_zero, List.set_cons_succ]
      refine wpS_s (by exact HS1.out) rfl (v := ?_) (by rfl) (fun W hSW => ?_) ?_
      rotate_left
      · go_simp
        try rfl
      try simp only [Act.put, List.setIfInBounds_toArray, List.set_cons_zero, List.set_cons_succ]
      refine wpS_load_sum (by exact HS1.out) rfl (by rfl) _ (by rfl) q0 35 (by rfl) b (fun V hV => brq hV.2.2.2 HBW.out.2.2.2.2) ?_
      try simp only [Act.put, List.setIfInBounds_toArray, List.set_cons_zero, List.set_cons_succ]
      refine wpS_k rfl (by rfl) (fun K hK => ?_)
      go_simp
      refine (pc_any a b m n u p V2 H7.out.2.1.sums HN.out).mono ?_
      rintro e V3 ⟨rfl, hb7⟩
      have HS2 := Lib.hid (qse HS1.out hb7)
      have H8 := Lib.hid (And.intro (H7.out.1.below hb7) (And.intro (H7.out.2.1.below hb7) (H7.out.2.2.below hb7)))
      clear hb7
      refine hK _ _ ⟨by exact HS2.out, ?_⟩; clear hK K
      try simp only [Act.put, List.setIfInBounds_toArray, List.set_cons_zero, List.set_cons_succ]
      refine wpS_e rfl (by rfl) (fun K hK => ?_)
      go_simp
      refine (rcheck_any a b m n _ p V3 (HP1.out.below HS2.out.2.2.2 (Nat.le_refl _)) HN.out).mono ?_
      rintro e V4 ⟨rfl, hb8⟩
      have HS3 := Lib.hid (qse HS2.out hb8)
      have H9 := Lib.hid (And.intro (H8.out.1.below hb8) (And.intro (H8.out.2.1.below hb8) (H8.out.2.2.below hb8)))
      clear hb8
      refine hK _ _ ?_; clear hK K
      try simp only [Act.put, List.setIfInBounds_toArray, List.set_cons_zero, List.set_cons_succ]
      generalize pathBe a m n p b = r
      have hrr : (r != r) = false := by simp
      iterate 5
        refine wpS_t rfl (v := ?_) (by rfl) (fun W => ?_) ?_
        rotate_left
        · go_simp
          try rfl
        try simp only [Act.put, List.setIfInBounds_toArray, List.set_cons_zero, List.set_cons_succ]
      clear hrr
      refine wpS_e rfl (by rfl) (fun K hK => ?_)
      go_simp
      refine (left_sums l t _ _ V4 H9.out.1 (HL1.out.below HS3.out.2.2.2 (Nat.le_refl _)) (by have := HLE.out; omega)).mono ?_
      rintro e V5 ⟨rfl, hb9⟩
      have HS4 := Lib.hid (qse HS3.out hb9)
      have H10 := Lib.hid (And.intro (H9.out.1.below hb9) (And.intro (H9.out.2.1.below hb9) (H9.out.2.2.below hb9)))
      clear hb9
      refine hK _ _ ?_; clear hK K
      try simp only [Act.put, List.setIfInBounds_toArray, List.set_cons_zero, List.set_cons_succ]
      iterate 5
        refine wpS_t rfl (v := ?_) (by rfl) (fun W => ?_) ?_
        rotate_left
        · go_simp
          try rfl
        try simp only [Act.put, List.setIfInBounds_toArray, List.set_cons_zero, List.set_cons_succ]
      have hc := HS4.out.2.2.1
      refine wpS_e rfl (by rfl) (fun K hK => ?_)
      go_simp
      refine hK _ _ ?_; clear hK K
      try simp only [Act.put, List.setIfInBounds_toArray, List.set_cons_zero, List.set_cons_succ]
      clear hc
      refine wpS_e rfl (by rfl) (fun K hK => ?_)
      go_simp
      refine (left_sums p u _ _ V5 H10.out.2.1 (HP1.out.below HS4.out.2.2.2 (Nat.le_refl _)) (by have := HLE.out; omega)).mono ?_
      rintro e V6 ⟨rfl, hb10⟩
      have HS5 := Lib.hid (qse HS4.out hb10)
      have H11 := Lib.hid (And.intro (H10.out.1.below hb10) (And.intro (H10.out.2.1.below hb10) (H10.out.2.2.below hb10)))
      clear hb10
      refine hK _ _ ?_; clear hK K
      try simp only [Act.put, List.setIfInBounds_toArray, List.set_cons_zero, List.set_cons_succ]
      iterate 2
        refine wpS_t rfl (v := ?_) (by rfl) (fun W => ?_) ?_
        rotate_left
        · go_simp
          try rfl
        try simp only [Act.put, List.setIfInBounds_toArray, List.set_cons_zero, List.set_cons_succ]
      refine wpS_done ?_
      clear H6 H7 H8 H9 H10 HS0 HS1 HS2 HS3 HS4
      have hB6 : Below w.heap.size w V6 := by
        have h1 : Below w.heap.size w W1 := by rw [← HQ0.out]; exact HB.out.1
        exact h1.trans (HS5.out.2.2.2.mono h1.size)
      obtain ⟨gt, ct, htv, _⟩ := H11.out.1
      obtain ⟨gu, cu, huv, _⟩ := H11.out.2.1
      obtain ⟨ax, cx, hxv⟩ := H11.out.2.2.form
      obtain ⟨nx, hnx⟩ : ∃ k, k = ((pathOf l z).map cellsOf).length := ⟨_, rfl⟩
      have hnx2 : nx < 900000 := by rw [hnx, List.length_map]; have := pathOf_len l z (by have := HLE.out; omega); omega
      rw [← hnx] at hxv
      have HNX := Lib.hid hnx
      clear hnx
      subst htv huv hxv
      have hq1 : q0 ≤ W1.heap.size := Nat.le_of_lt HB.out.2.1
      have h12 : q0 ≤ W2.heap.size := Nat.le_trans hq1 H3T.out.2.2.2
      have hLT := H11.out.1.lie.mono (base' := q0) hq1
      have hLU := H11.out.2.1.lie.mono (base' := q0) h12
      have hLX := H11.out.2.2.mono (base' := q0) (Nat.le_trans h12 H3T.out.2.2.1)
      have hbk := sbook_new V6 q0 (by rw [HQ0.out]; exact hB6.size)
      have hba := Alm.al (Below.refl V6.heap.size V6) (.cells #[.int .i64 0, .slice none 0 0, .slice none 0 0, .slice none 0 0, .slice none 0 0, .slice none 0 0, .slice none 0 0, .slice none 0 0, .slice none 0 0, .slice none 0 0] 44)
      have HF := Lib.hid (And.intro hbk (And.intro (hLT.below hba) (And.intro (hLU.below hba) (And.intro (hLX.below hba) (hB6.trans (hba.mono hB6.size))))))
      have HFQ := Lib.hid (And.intro (fun k hk => hLT.lt k hk) (And.intro (fun k hk => hLU.lt k hk) (And.intro (fun k hk => hLX.lt k hk) hnx2)))
      clear hbk hba hLT hLU hLX hB6 hq1 h12 hnx2 H11
      go_wp2_with (go_at_call 15; refine Hid.out ?_)
      refine Lib.hid ?_
      obtain ⟨q, hq⟩ : ∃ q, q = V6.heap.size := ⟨_, rfl⟩
      rw [← hq] at HF HFQ ⊢
      clear hq
      generalize (V6.alloc (.cells #[.int .i64 0, .slice none 0 0, .slice none 0 0, .slice none 0 0, .slice none 0 0, .slice none 0 0, .slice none 0 0, .slice none 0 0, .slice none 0 0, .slice none 0 0] 44)) = B0 at *
      have hnq : ∀ {v : Value} {k : Nat}, (∀ k, v.ownBlock = some k → q0 ≤ k ∧ k < q) → v.ownBlock = some k → k ≠ q := fun h hk e => by have := h _ hk; omega
      refine (sums_tell _ _ _ _ q0 q _ _ _ B0 HF.out.1 HF.out.2.1 (fun k hk h => hnq HFQ.out.1 hk (of_new h)) (by decide) (by rw [List.length_map]; have := HLE.out; omega)).mono ?_
      rintro e B1 ⟨rfl, F1, hb1, hf1, hk1⟩
      have hqB : q ≤ B0.heap.size := Nat.le_of_lt HF.out.1.bk.lt
      have hF1 : ∀ k, (F1 5).ownBlock = some k → q ≤ k := fun k hk => by
        rcases hf1 k hk with e | e
        · cases e
        · omega
      have hO1 := fun k h => of_told (q := q) (W := B0.heap.size) (F := fun _ => .slice none 0 0) (F' := F1) (H := []) (v := .slice (some ⟨gt, 0, none⟩) l.length ct) (n := ([] : List Held).length + 1) (k := k) hf1 h
      have hO1' : ∀ k, OfBook q F1 ([] ++ [((.slice (some ⟨gt, 0, none⟩) l.length ct : Value), (.slice none 0 0 : Value), ([] : List Held).length + 1)]) k → q ≤ k ∨ (Value.slice (some ⟨gt, 0, none⟩) l.length ct).ownBlock = some k := fun k h => by
        rcases hO1 k h with e | e | e
        · exact .inl (Nat.le_of_eq (of_new e).symm)
        · exact .inl (Nat.le_trans hqB e)
        · exact .inr e
      have hX1 : ∀ {v : Value} {k : Nat}, (∀ k, v.ownBlock = some k → q0 ≤ k ∧ k < q) → v.ownBlock = some k → ¬ (k = q ∨ ((.slice none 0 0 : Value)).ownBlock = some k) := fun h hk e => by
        rcases e with e | e
        · have := h _ hk; omega
        · cases e
      have hq0 : q0 ≤ B0.heap.size := Nat.le_trans HF.out.1.bq hqB
      have hB1 : Below w.heap.size w B1 := HF.out.2.2.2.2.trans (hk1.below HF.out.2.2.2.2.size (fun k e => by
        rw [← HQ0.out]
        rcases e with e | e
        · rw [e]; exact HF.out.1.bq
        · cases e))
      have HG := Lib.hid (And.intro hb1 (And.intro (HF.out.2.2.1.keep hk1 (fun k hk => hX1 HFQ.out.2.1 hk)) (And.intro (HF.out.2.2.2.1.keep hk1 (fun k hk => hX1 HFQ.out.2.2.1 hk)) (And.intro hB1 (And.intro hF1 hO1')))))
      clear hb1 hf1 hk1 hqB hF1 hO1 hO1' hX1 hq0 hB1 hnq HF
      go_wp2_with (go_at_call 15; refine Hid.out ?_)
      refine Lib.hid ?_
      have hno2 : ∀ k, (Value.slice (some ⟨gu, 0, none⟩) p.length cu).ownBlock = some k → ¬ OfBook q F1 ([] ++ [((.slice (some ⟨gt, 0, none⟩) l.length ct : Value), (.slice none 0 0 : Value), ([] : List Held).length + 1)]) k := fun k hk h => by
        have h1 := HFQ.out.2.1 k hk
        have h2 := H3T.out.2.1 k hk
        rcases HG.out.2.2.2.2.2 k h with e | e
        · omega
        · have := H3T.out.1 k e; omega
      refine (sums_tell _ _ _ _ q0 q _ _ _ B1 HG.out.1 HG.out.2.1 hno2 (by simp) (by rw [List.length_map]; have := HLE.out; omega)).mono ?_
      rintro e B2 ⟨rfl, F2, hb2, hf2, hk2⟩
      have hqB : q ≤ B1.heap.size := Nat.le_of_lt HG.out.1.bk.lt
      have hF2 : ∀ k, (F2 5).ownBlock = some k → q ≤ k := fun k hk => by
        rcases hf2 k hk with e | e
        · exact HG.out.2.2.2.2.1 k e
        · omega
      have hO2 : ∀ k, OfBook q F2 (([] ++ [((.slice (some ⟨gt, 0, none⟩) l.length ct : Value), (.slice none 0 0 : Value), ([] : List Held).length + 1)]) ++ [((.slice (some ⟨gu, 0, none⟩) p.length cu : Value), (.slice none 0 0 : Value), ([] ++ [((.slice (some ⟨gt, 0, none⟩) l.length ct : Value), (.slice none 0 0 : Value), ([] : List Held).length + 1)]).length + 1)]) k → q ≤ k ∨ (Value.slice (some ⟨gt, 0, none⟩) l.length ct).ownBlock = some k ∨ (Value.slice (some ⟨gu, 0, none⟩) p.length cu).ownBlock = some k := fun k h => by
        rcases of_told (q := q) (W := B1.heap.size) (F := F1) (F' := F2) (H := ([] ++ [((.slice (some ⟨gt, 0, none⟩) l.length ct : Value), (.slice none 0 0 : Value), ([] : List Held).length + 1)])) (v := .slice (some ⟨gu, 0, none⟩) p.length cu) (k := k) hf2 h with e | e | e
        · rcases HG.out.2.2.2.2.2 k e with e | e
          · exact .inl e
          · exact .inr (.inl e)
        · exact .inl (Nat.le_trans hqB e)
        · exact .inr (.inr e)
      have hX2 : ∀ k, (Value.slice ax nx cx).ownBlock = some k → ¬ (k = q ∨ (F1 5).ownBlock = some k) := fun k hk e => by
        have h0 := HFQ.out.2.2.1 k hk
        rcases e with e | e
        · omega
        · have := HG.out.2.2.2.2.1 k e; omega
      have hqq : w.heap.size ≤ q := by rw [← HQ0.out]; exact HG.out.1.bq
      have hB2 : Below w.heap.size w B2 := HG.out.2.2.2.1.trans (hk2.below HG.out.2.2.2.1.size (fun k e => by
        rcases e with e | e
        · rw [e]; exact hqq
        · exact Nat.le_trans hqq (HG.out.2.2.2.2.1 k e)))
      have HK := Lib.hid (And.intro hb2 (And.intro (HG.out.2.2.1.keep hk2 hX2) (And.intro hB2 (And.intro hF2 (And.intro hO2 hqq)))))
      clear hb2 hf2 hk2 hqB hF2 hO2 hX2 hB2 hno2 hqq
      go_wp2_with (go_at_call 15; refine Hid.out ?_)
      refine Lib.hid ?_
      have hno3 : ∀ k, (Value.slice ax nx cx).ownBlock = some k → ¬ OfBook q F2 (([] ++ [((.slice (some ⟨gt, 0, none⟩) l.length ct : Value), (.slice none 0 0 : Value), ([] : List Held).length + 1)]) ++ [((.slice (some ⟨gu, 0, none⟩) p.length cu : Value), (.slice none 0 0 : Value), ([] ++ [((.slice (some ⟨gt, 0, none⟩) l.length ct : Value), (.slice none 0 0 : Value), ([] : List Held).length + 1)]).length + 1)]) k := fun k hk h => by
        have h1 := HFQ.out.2.2.1 k hk
        have h2 := H4T.out k hk
        have h5 := H3T.out.2.2.1
        rcases HK.out.2.2.2.2.1 k h with e | e | e
        · omega
        · have := H3T.out.1 k e; omega
        · have := H3T.out.2.1 k e; omega
      refine (sums_tell _ _ _ _ q0 q _ _ _ B2 HK.out.1 HK.out.2.1 hno3 (by simp) (by rw [← HNX.out]; have := HFQ.out.2.2.2; omega)).mono ?_
      rintro e B3 ⟨rfl, F3, hb3, hf3, hk3⟩
      have hB3 : Below w.heap.size w B3 := HK.out.2.2.1.trans (hk3.below HK.out.2.2.1.size (fun k e => by
        rcases e with e | e
        · rw [e]; exact HK.out.2.2.2.2.2
        · exact Nat.le_trans HK.out.2.2.2.2.2 (HK.out.2.2.2.1 k e)))
      have HM := Lib.hid (And.intro hb3 hB3)
      clear hb3 hf3 hk3 hno3 hB3
      have HAP := Lib.hid (apart_sums q0 q _ _ _ B3 HM.out.1 (by simp))
      go_wp2_with (go_at_call 16; refine HAP.out.mono ?_; rintro e B4 ⟨rfl, hk4⟩; refine Hid.out ?_)
      refine Lib.hid ?_
      have hfin := HM.out.2.trans (hk4.below HM.out.2.size (fun k h => by rw [← HQ0.out]; exact (HM.out.1.lt h).1))
      have HFIN := Lib.hid hfin
      clear hk4 hfin
      go_wp2_with fail
      exact bodyPost_ret (results_tmp rfl _ _ _) rfl ⟨rfl, HFIN.out⟩
end Go.Proofs.YtdkcndgehgmadaaGreatDoor
