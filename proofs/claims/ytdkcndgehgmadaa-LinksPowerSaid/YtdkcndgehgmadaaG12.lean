/-
  Walks: the law LinksPower.
-/
import Derived.Test.YtdkcndgehgmadaaG11
open Go Go.RowKit Alm
namespace Go.Proofs.Ytdkcndgehgmadaa
set_option maxRecDepth 100000 in
set_option maxHeartbeats 2000000 in
theorem linksPower_any (l : List Sum) (v : Value) (p : Nat) (w : World) (hv : SumsAt w v l) (hp : p ≤ 255) : Calls Try.prog 12 #[v, .int .u8 (p : Int)] w fun e w' => e = .returned (.bool true) ∧ Below w.heap.size w w' := by
  have HV := Lib.hid hv
  obtain ⟨a, cap, rfl, h1, h2, h3⟩ := hv
  obtain ⟨n, hn⟩ : ∃ n, n = l.length := ⟨_, rfl⟩
  rw [← hn] at h1 HV ⊢
  have HN := Lib.hid hn; clear hn
  unfold maxLen at h2
  obtain ⟨r, hr⟩ : ∃ r, r = p % 7 := ⟨_, rfl⟩
  have hr7 : r < 7 := by omega
  obtain ⟨k, hk⟩ : ∃ k, k = 2 ^ r := ⟨_, rfl⟩
  have hwr : wrap64 ((2 : Int) ^ (p % 7)) = (k : Int) := by
    have : ∀ r, r < 7 → wrap64 ((2 : Int) ^ r) = ((2 ^ r : Nat) : Int) := by decide +kernel
    rw [← hr, this r hr7, hk]
  have hk1 : 1 ≤ k := by rw [hk]; exact Nat.two_pow_pos _
  have hk64 : k ≤ 64 := by
    rw [hk]; exact Nat.pow_le_pow_right (n := 2) (by omega) (show r ≤ 6 by omega)
  have HK := Lib.hid hk
  clear hr hr7 hk
  by_cases ha : n < k
  · have ha' : (n : Int) < (k : Int) := by omega
    go_enter Try.func12, Try.ntmps12
    go_wp2_with fail
    refine (alive_links w).mono ?_
    rintro e w1 ⟨rfl, hb⟩
    go_wp2_with fail
    exact bodyPost_ret (results_tmp rfl _ _ _) rfl ⟨rfl, hb⟩
  by_cases hbn : 100 < n
  · have ha' : ¬ (n : Int) < (k : Int) := by omega
    have hbn' : (100 : Int) < (n : Int) := by omega
    go_enter Try.func12, Try.ntmps12
    go_wp2_with fail
    refine (alive_links w).mono ?_
    rintro e w1 ⟨rfl, hb⟩
    go_wp2_with fail
    exact bodyPost_ret (results_tmp rfl _ _ _) rfl ⟨rfl, hb⟩
  have ha' : ¬ (n : Int) < (k : Int) := by omega
  have hbn' : ¬ (100 : Int) < (n : Int) := by omega
  have hl0 : l ≠ [] := by intro h; have := HN.out; rw [h] at this; simp at this; omega
  obtain ⟨b, o, rfl, hra⟩ := h3.resolve_left hl0
  have HRA := Lib.hid hra; clear hra h3
  have k0 : (0 : Int) ≤ (k : Int) := by omega
  have k1 : (k : Int) ≤ (n : Int) := by omega
  have k2 : (k : Int) ≤ (cap : Int) := by omega
  have k3 : (k : Int) ≤ 64 := by omega
  have HL := Lib.hid (linksOf_any l k _ w HV.out hk1 (by have := HN.out; omega) (by have := HN.out; omega))
  have hpw := link_power nd e0 l k true rfl _ HK.out (by have := HN.out; omega)
  rw [← rt_eq] at hpw
  have HP := Lib.hid hpw; clear hpw
  have HTK := Lib.hid (fun (W : World) (h : W.rangeAt b o (cellsAll l)) => sums_take (cap := cap) (k := k) h (by have := HN.out; omega) (by omega) (by unfold maxLen; omega))
  generalize link nd e0 l k true = x at *
  go_enter Try.func12, Try.ntmps12
  go_wp2_with fail
  refine HL.out.mono ?_
  rintro e w1 ⟨v', rfl, hN, hb1⟩
  have HN1 := Lib.hid hN
  have HB1 := Lib.hid hb1
  have HR1 := Lib.hid ((Keeps.of_below (X := fun _ => False) hb1).range HRA.out (fun h => h))
  clear hN hb1 HL
  go_wp2_with fail
  refine (rt_any (l.take k) _ w1 (HTK.out w1 HR1.out)).mono ?_
  rintro e w2 ⟨rfl, hb2⟩
  have HN2 := Lib.hid (HN1.out.keep (Keeps.of_below (X := fun _ => False) hb2) (fun _ _ h => h))
  have HB2 := Lib.hid (HB1.out.trans (hb2.mono HB1.out.size))
  clear hb2 HN1 HB1 HR1
  generalize rt (l.take k) = s0 at *
  have HX := Lib.hid HN2.out.sums
  clear HN2
  obtain ⟨av, cv, rfl, hc1, hc2, hc3⟩ := HX.out
  obtain ⟨m, hm⟩ : ∃ m, m = x.length := ⟨_, rfl⟩
  rw [← hm] at hc1 HX ⊢
  have HM := Lib.hid hm; clear hm
  have HC3 := Lib.hid hc3; clear hc3
  unfold maxLen at hc2
  go_wp2_with (refine wpList_var_sum (by rfl) rfl _ _ rfl s0 rfl rfl ?_; intro W3 hb3 hr3 ht3 hlt3)
  obtain ⟨q, hq⟩ : ∃ q, q = w2.heap.size := ⟨_, rfl⟩
  rw [← hq] at hr3 ht3 hlt3 ⊢
  have HQ := Lib.hid (And.intro hq (And.intro hb3 (And.intro hr3 ht3)))
  clear hb3 hr3 ht3 hlt3 hq
  go_wp2_with fail
  go_loopw [9] (fun i W => ∃ j : Nat, j ≤ m ∧ i = .int .i64 (j : Int) ∧ Keeps (· = q) W3 W ∧ W.rangeAt q 0 (cellsOf ((x.take j).foldl nd s0)) ∧ W.there q 0 32) (fun i _ => m - (intOf i).toNat)
  case atStart => exact ⟨0, by omega, rfl, Keeps.refl _ _, HQ.out.2.2.1, HQ.out.2.2.2⟩
  case round =>
    obtain ⟨j, hj, rfl, hK, hr, ht⟩ := hrel
    by_cases hlt : j < m
    · have hlt' : (j : Int) < (m : Int) := by omega
      have hj0 : (0 : Int) ≤ (j : Int) := by omega
      have hx0 : x ≠ [] := by intro h; have := HM.out; rw [h] at this; simp at this; omega
      obtain ⟨bv, ov, rfl, hrv⟩ := HC3.out.resolve_left hx0
      have hjx : j < x.length := by have := HM.out; omega
      have hbv : bv < w2.heap.size := range_lt (range_at hrv hjx) (by intro h; have := length_cellsOf x[j]; rw [h] at this; cases this)
      have hne : bv ≠ q := by have := HQ.out.1; omega
      have hy := hK.range (br HQ.out.2.1 (range_at hrv hjx)) hne
      have hnext : (x.take (j + 1)).foldl nd s0 = nd ((x.take j).foldl nd s0) x[j] := by
        rw [List.take_succ_eq_append_getElem hjx, List.foldl_append]; rfl
      generalize x[j] = y at *
      generalize (x.take j).foldl nd s0 = acc at *
      have HY := Lib.hid (And.intro hr hy)
      have HK3 := Lib.hid (And.intro hK (And.intro ht hnext))
      clear hK hr ht hy hnext hne hbv hrv hjx hx0
      go_wp2_with fail
      refine wp_region_sched (fun V => V.rangeAt q 0 (cellsOf acc) ∧ V.rangeAt bv (ov + j * 32) (cellsOf y)) [.t 1, .t 2, .t 3, .s 0, .e 4 true, .e 5 false, .e 6 false] (by kernel_rfl) (by kernel_rfl) (by intro c a d v w h; cases d <;> exact h) ?_
      have HS := Lib.hid (show wr.drew.rangeAt q 0 (cellsOf acc) ∧ wr.drew.rangeAt bv (ov + j * 32) (cellsOf y) from HY.out)
      have HKD := Lib.hid (And.intro HK3.out.1.drew (show wr.drew.there q 0 32 from HK3.out.2.1))
      generalize wr.drew = V at *
      iterate 3
        refine wpS_t rfl (v := ?_) (by rfl) (fun W => ?_) ?_
        rotate_left
        · go_simp
          try rfl
        try simp only [Act.put, List.setIfInBounds_toArray, List.set_cons_zero, List.set_cons_succ]
      refine wpS_load_sum (by exact HS.out) rfl (by rfl) _ (by rfl) q 0 (by rfl) acc (fun V hV => hV.1) ?_
      try simp only [Act.put, List.setIfInBounds_toArray, List.set_cons_zero, List.set_cons_succ]
      refine wpS_k rfl (by rfl) (fun K hK => ?_)
      refine wp_load_sum _ (by rfl) bv (ov + j * 32) (by rfl) y (by exact HS.out.2) ?_
      refine hK _ _ ⟨by exact HS.out, ?_⟩; clear hK K
      try simp only [Act.put, List.setIfInBounds_toArray, List.set_cons_zero, List.set_cons_succ]
      refine wpS_e rfl (by rfl) (fun K hK => ?_)
      go_simp
      refine (nd_any acc y V).mono ?_
      rintro e V2 ⟨rfl, hb⟩
      have hk2 := HKD.out.1.trans (.of_below hb)
      have ht2 := (Keeps.of_below (X := fun _ => False) hb).there HKD.out.2 (by decide) (fun h => h)
      refine hK _ _ ?_; clear hK K
      try simp only [Act.put, List.setIfInBounds_toArray, List.set_cons_zero, List.set_cons_succ]
      refine wpS_e rfl (by rfl) (fun K hK => ?_)
      refine wp_store_sum _ _ (by rfl) q 0 (nd acc y) (by rfl) (by rfl) ht2 ?_
      refine hK _ _ ?_; clear hK K
      try simp only [Act.put, List.setIfInBounds_toArray, List.set_cons_zero, List.set_cons_succ]
      refine wpS_done ?_
      have HE := Lib.hid (And.intro (hk2.trans (keeps_setCells_ q (cellsOf (nd acc y)) 0 V2)) (And.intro (range_stored q (cellsOf (nd acc y)) 0 V2 (by rw [length_cellsOf]; exact World.there_setCells ht2 _ _ _)) (World.there_setCells ht2 q 0 (cellsOf (nd acc y)))))
      clear hk2 ht2 hb
      go_wp2_with fail
      exact ⟨⟨j + 1, by omega, by simp, HE.out.1, by rw [HK3.out.2.2]; exact HE.out.2.1, HE.out.2.2⟩, by simp [intOf]; omega⟩
    · have hjm : j = m := by omega
      subst hjm
      rw [List.take_of_length_le (by have := HM.out; omega), HP.out] at hr
      have hB : Below w.heap.size w wr := ((Keeps.of_below (X := fun _ => False) (HB2.out.trans (HQ.out.2.1.mono HB2.out.size))).trans' hK (fun i hi => .inr (by have := HQ.out.1; have := HB2.out.size; omega))).below (Nat.le_refl _) (fun _ h => h.elim)
      have HR := Lib.hid hr
      have HVW := Lib.hid (HV.out.below hB (Nat.le_refl _))
      have HB := Lib.hid hB
      clear hr hK ht hB
      have hes := eq_sums_same (rt l)
      go_wp2_with fail
      refine wp_region_sched (fun V => Below wr.heap.size wr V) [.e 0 true, .t 1, .t 3, .s 2, .e 4 true, .t 5, .t 6, .t 7] (by kernel_rfl) (by kernel_rfl) (by intro c a d v w h; cases d <;> exact h) ?_
      have HS := Lib.hid (Below.refl wr.heap.size wr).drew
      generalize wr.drew = V at *
      refine wpS_k rfl (by rfl) (fun K hK => ?_)
      go_simp
      refine (alive_links V).mono ?_
      rintro e V ⟨rfl, hb⟩
      replace HS := Lib.hid (HS.out.trans (hb.mono HS.out.size)); clear hb
      refine hK _ _ ⟨by exact HS.out, ?_⟩; clear hK K
      try simp only [Act.put, List.setIfInBounds_toArray, List.set_cons_zero, List.set_cons_succ]
      iterate 2
        refine wpS_t rfl (v := ?_) (by rfl) (fun W => ?_) ?_
        rotate_left
        · go_simp
          try rfl
        try simp only [Act.put, List.setIfInBounds_toArray, List.set_cons_zero, List.set_cons_succ]
      refine wpS_load_sum (by exact HS.out) rfl (by rfl) _ (by rfl) q 0 (by rfl) (rt l) (fun V hV => br hV HR.out) ?_
      try simp only [Act.put, List.setIfInBounds_toArray, List.set_cons_zero, List.set_cons_succ]
      refine wpS_k rfl (by rfl) (fun K hK => ?_)
      go_simp
      refine (rt_any l _ V (HVW.out.below HS.out (Nat.le_refl _))).mono ?_
      rintro e V ⟨rfl, hb⟩
      replace HS := Lib.hid (HS.out.trans (hb.mono HS.out.size)); clear hb
      refine hK _ _ ⟨by exact HS.out, ?_⟩; clear hK K
      try simp only [Act.put, List.setIfInBounds_toArray, List.set_cons_zero, List.set_cons_succ]
      iterate 3
        refine wpS_t rfl (v := ?_) (by rfl) (fun W => ?_) ?_
        rotate_left
        · go_simp
          try rfl
        try simp only [Act.put, List.setIfInBounds_toArray, List.set_cons_zero, List.set_cons_succ]
      refine wpS_done ?_
      go_wp2_with fail
      exact bodyPost_ret (results_tmp rfl _ _ _) rfl ⟨rfl, HB.out.trans (HS.out.mono HB.out.size)⟩
end Go.Proofs.Ytdkcndgehgmadaa
