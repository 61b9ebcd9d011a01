/-
  Walks: almonerref11.leads, a step.
-/
import Derived.Test.YtdkcndgehgmadaaGreatDoorZLB
open Go Go.RowKit Alm
namespace Go.Proofs.YtdkcndgehgmadaaGreatDoor
theorem neq_nums {m n : Nat} (h : m < n) : ((m : Int) == (n : Int)) = false ∧ decide (m = n) = false ∧ ¬ m = n ∧ decide ((m : Int) = (n : Int)) = false ∧ ¬ (m : Int) = (n : Int) ∧ (m == n) = false := by
  refine ⟨by rw [beq_eq_false_iff_ne]; omega, decide_eq_false (by omega), by omega, decide_eq_false (by omega), by omega, by rw [beq_eq_false_iff_ne]; omega⟩
theorem side_le {m n k : Nat} (hk : ¬ m ≤ k) (hm : m < n) (hn : n < 18446744073709551616) : IntKind.u64.wrap ((m : Int) - (k : Int)) = ((m - k : Nat) : Int) ∧ IntKind.u64.wrap ((n : Int) - (k : Int)) = ((n - k : Nat) : Int) := by
  refine ⟨by rw [IntKind.wrap_u64]; omega, by rw [IntKind.wrap_u64]; omega⟩
set_option maxRecDepth 100000 in
set_option maxHeartbeats 1000000 in
theorem ll_left (B : Nat) (a : Sum) (m n : Nat) (ed : Bool) (v : Value) (p : List Sum) (r : Option ((Sum × Sum) × List Sum)) (w : World) (hv : SumsAt w v p) (hB : B ≤ w.heap.size) (hmn : m < n) (hn2 : 2 ≤ n) (hn : n < 18446744073709551616) (hk : m ≤ cut n)
    (ih : ∀ W, Below w.heap.size w W → Calls Tryz.prog 110 #[.int .u64 (m : Int), .int .u64 (cut n : Int), sv a, v, .bool ed] W (LLOf B W r)) :
    Calls Tryz.prog 110 #[.int .u64 (m : Int), .int .u64 (n : Int), sv a, v, .bool ed] w (LLOf B w (onLeft r)) := by
  obtain ⟨ad, cap, rfl, _, _, _⟩ := hv
  obtain ⟨pl, hpl⟩ : ∃ k, k = p.length := ⟨_, rfl⟩
  rw [← hpl] at ih ⊢
  clear hpl
  have hcut := fun W => rcut_any n W hn2 hn
  obtain ⟨k, hkk⟩ : ∃ k, k = cut n := ⟨_, rfl⟩
  rw [← hkk] at hcut hk ih
  obtain ⟨e1, e2, e3, e4, e5, e6⟩ := neq_nums hmn
  obtain ⟨d1, d2, d3⟩ := leq_of hk
  have HC := Lib.hid hcut
  have HIH := Lib.hid ih
  have HB := Lib.hid hB
  have HI := Lib.hid (llin_start w a)
  have hb0 := build_both0
  clear hcut ih hB hkk hn2 hn hmn hk
  go_enter Tryz.func110, Tryz.ntmps110
  refine wp_cut 1 ?_
  intro T hT
  dsimp only [cutN]
  replace hT := Lib.hid hT
  go_wp2_with fail
  refine hT.out _ _ ?_
  clear hT
  dsimp only [dropN]
  change Code.wp _ _ _ _ ((w.alloc (.cells (cellsOf a).toArray 24)).alloc (.cells (cells2 zeroSum zeroSum).toArray 119))
  have H2 := Lib.hid (HI.out 119)
  generalize ((w.alloc (.cells (cellsOf a).toArray 24)).alloc (.cells (cells2 zeroSum zeroSum).toArray 119)) = w2 at *
  clear HI
  go_wp2_with (go_at_call 103; refine Hid.out ?_)
  refine Lib.hid ?_
  refine (HC.out _).mono ?_
  rintro e w4 ⟨rfl, rfl⟩
  go_wp2_with (first
    | (refine wpList_load_sum rfl _ rfl w.heap.size 0 rfl a H2.out.leaf ?_)
    | (go_at_call 110; refine Hid.out ?_))
  refine Lib.hid ?_
  refine (HIH.out w2 H2.out.below).mono ?_
  rintro e w5 ⟨hb5, hr5⟩
  have H5 := Lib.hid (And.intro (H2.out.below.trans (hb5.mono H2.out.below.size)) (And.intro ((Keeps.of_below (X := fun _ => False) hb5).there H2.out.res (by decide) (fun h => h)) (show w.heap.size + 2 ≤ w5.heap.size by have := hb5.size; have := H2.out.size; omega)))
  clear hb5 HC HIH
  rcases r with _ | ⟨⟨x, y⟩, q⟩
  · obtain ⟨x, y, rfl⟩ := hr5
    go_wp2_with (refine wpList_var_bothR (by rfl) rfl _ _ rfl x y rfl rfl ?_; intro W6 hb6 hr6 hlt6; refine Hid.out ?_)
    refine Lib.hid ?_
    have H6 := Lib.hid (And.intro (H5.out.1.trans (hb6.mono H5.out.1.size)) ((Keeps.of_below (X := fun _ => False) hb6).there H5.out.2.1 (by decide) (fun h => h)))
    clear hb6 hr6 hlt6
    go_wp2_with (refine wpList_store_bothR rfl _ _ rfl (w.heap.size + 1) 0 zeroSum zeroSum rfl rfl H6.out.2 ?_)
    refine bodyPost_ret (results_both Tryz.results110 _ _ _ _ _ rfl H6.out.2) rfl ?_
    exact ⟨setCells_below (w.heap.size + 1) (by omega) (cells2 zeroSum zeroSum) 0 _ _ H6.out.1, _, _, rfl⟩
  · obtain ⟨v5, rfl, hs5, ho5⟩ := hr5
    rcases q with _ | ⟨s, q⟩
    · obtain ⟨a5, c5, rfl, _, _, _⟩ := hs5
      go_wp2_with (refine wpList_var_bothR (by rfl) rfl _ _ rfl x y rfl rfl ?_; intro W6 hb6 hr6 hlt6; refine Hid.out ?_)
      refine Lib.hid ?_
      have H6 := Lib.hid (And.intro (H5.out.1.trans (hb6.mono H5.out.1.size)) ((Keeps.of_below (X := fun _ => False) hb6).there H5.out.2.1 (by decide) (fun h => h)))
      clear hb6 hr6 hlt6
      go_wp2_with (refine wpList_store_bothR rfl _ _ rfl (w.heap.size + 1) 0 zeroSum zeroSum rfl rfl H6.out.2 ?_)
      refine bodyPost_ret (results_both Tryz.results110 _ _ _ _ _ rfl H6.out.2) rfl ?_
      exact ⟨setCells_below (w.heap.size + 1) (by omega) (cells2 zeroSum zeroSum) 0 _ _ H6.out.1, _, _, rfl⟩
    · obtain ⟨b, o, cq, z, n9, o1, rfl, ⟨hz1, hz2, hz3, hz4⟩, hs, hsl, hrest⟩ := tail_form hs5
      have HBB := Lib.hid (ho5 (by simp) b rfl)
      have HS := Lib.hid hs
      have HR := Lib.hid hrest
      have HSL := Lib.hid hsl
      clear hs hsl hrest ho5 hs5
      go_wp2_with (refine wpList_var_bothR (by rfl) rfl _ _ rfl x y rfl rfl ?_; intro W6 hb6 hr6 hlt6; refine Hid.out ?_)
      refine Lib.hid ?_
      have H6 := Lib.hid (And.intro (H5.out.1.trans (hb6.mono H5.out.1.size)) (And.intro ((Keeps.of_below (X := fun _ => False) hb6).there H5.out.2.1 (by decide) (fun h => h)) (And.intro (brq hb6 HS.out) (And.intro hr6 hb6))))
      obtain ⟨g, hg⟩ : ∃ g, g = w5.heap.size := ⟨_, rfl⟩
      rw [← hg] at H6 ⊢
      have HG := Lib.hid hg
      clear hb6 hr6 hlt6 hg
      go_wp2_with fail
      have hd := (Below.refl W6.heap.size W6).drew
      have HD := Lib.hid (And.intro (H6.out.1.trans (hd.mono H6.out.1.size)) (And.intro ((Keeps.of_below (X := fun _ => False) hd).there H6.out.2.1 (by decide) (fun h => h)) (And.intro (brq hd H6.out.2.2.1) (And.intro (brq hd H6.out.2.2.2.1) (show Below w5.heap.size w5 W6.drew by have h6 := H6.out.2.2.2.2; rw [HG.out] at h6; exact h6.trans (hd.mono h6.size))))))
      clear hd H6 H5
      refine wp_region_sched (fun V => V.rangeAt g 0 (cells2 x y)) [.t 0, .t 2, .t 4, .t 5, .t 9, .t 10, .s 1, .s 3, .e 6 true, .e 7 true, .t 8, .e 11 false, .t 12, .t 13] (by kernel_rfl) (by kernel_rfl) (by intro c a d v w h; cases d <;> exact h) ?_
      generalize W6.drew = V at *
      iterate 5
        refine wpS_t rfl (v := ?_) (by rfl) (fun W => ?_) ?_
        rotate_left
        · go_simp
          try rfl
        try simp only [Act.put, List.setIfInBounds_toArray, List.set_cons_zero, List.set_cons_succ]
      have hsl := HSL.out
      iterate 1
        refine wpS_t rfl (v := ?_) (by rfl) (fun W => ?_) ?_
        rotate_left
        · go_simp
          try rfl
        try simp only [Act.put, List.setIfInBounds_toArray, List.set_cons_zero, List.set_cons_succ]
      clear hsl
      refine wpS_load_sum (by exact HD.out.2.2.2.1) rfl (by rfl) _ (by rfl) g 0 (by rfl) x (fun V hV => range_left_ hV) ?_
      try simp only [Act.put, List.setIfInBounds_toArray, List.set_cons_zero, List.set_cons_succ]
      refine wpS_load_sum (by exact HD.out.2.2.2.1) rfl (by rfl) _ (by rfl) g 32 (by rfl) y (fun V hV => by have := range_right_ hV; rw [length_cellsOf, Nat.zero_add] at this; exact this) ?_
      try simp only [Act.put, List.setIfInBounds_toArray, List.set_cons_zero, List.set_cons_succ]
      refine wpS_k rfl (by rfl) (fun K hK => ?_)
      refine wp_load_sum _ (by rfl) b o (by rfl) s HD.out.2.2.1 ?_
      refine hK _ _ ⟨by exact HD.out.2.2.2.1, ?_⟩; clear hK K
      try simp only [Act.put, List.setIfInBounds_toArray, List.set_cons_zero, List.set_cons_succ]
      refine wpS_k rfl (by rfl) (fun K hK => ?_)
      go_simp
      refine (rnode_any y s V).mono ?_
      rintro e V7 ⟨rfl, hb7⟩
      have H7 := Lib.hid (And.intro (HD.out.1.trans (hb7.mono HD.out.1.size)) (And.intro ((Keeps.of_below (X := fun _ => False) hb7).there HD.out.2.1 (by decide) (fun h => h)) (And.intro (brq hb7 HD.out.2.2.2.1) (HD.out.2.2.2.2.trans (hb7.mono HD.out.2.2.2.2.size)))))
      clear hb7
      refine hK _ _ ⟨by exact H7.out.2.2.1, ?_⟩; clear hK K
      try simp only [Act.put, List.setIfInBounds_toArray, List.set_cons_zero, List.set_cons_succ]
      obtain ⟨t, ht⟩ : ∃ t, t = nd y s := ⟨_, rfl⟩
      rw [← ht]
      have HTt := Lib.hid ht
      clear ht
      refine wpS_t rfl (v := bv x t) (by rfl) (fun W => exec_build_bothR _ rfl x t (by rfl) W) ?_
      try simp only [Act.put, List.setIfInBounds_toArray, List.set_cons_zero, List.set_cons_succ]
      refine wpS_e rfl (by rfl) (fun K hK => ?_)
      refine wp_store_bothR _ _ (by rfl) (w.heap.size + 1) 0 x t (by rfl) (by rfl) H7.out.2.1 ?_
      refine hK _ _ ?_; clear hK K
      try simp only [Act.put]
      iterate 2
        refine wpS_t rfl (v := ?_) (by rfl) (fun W => ?_) ?_
        rotate_left
        · go_simp
          try rfl
        try simp only [Act.put, List.setIfInBounds_toArray, List.set_cons_zero, List.set_cons_succ]
      refine wpS_done ?_
      go_wp2_with fail
      refine bodyPost_ret (results_both Tryz.results110 _ _ _ _ _ rfl H7.out.2.1) rfl ?_
      have hb := setCells_below (w.heap.size + 1) (by omega) (cells2 x t) 0 _ _ H7.out.1
      have hkp := (Keeps.of_below (X := (· = w.heap.size + 1)) H7.out.2.2.2).trans (keeps_setCells_ (w.heap.size + 1) (cells2 x t) 0 _)
      exact ⟨hb, _, by obtain rfl := HTt.out; rfl, HR.out _ _ hkp (by have := HBB.out; have := HB.out; omega), fun _ k hk => by
        obtain rfl : b = k := by simpa [Value.ownBlock] using hk
        exact HBB.out⟩
set_option maxRecDepth 100000 in
set_option maxHeartbeats 1000000 in
theorem ll_right (B : Nat) (a : Sum) (m n : Nat) (ed : Bool) (v : Value) (p : List Sum) (r : Option ((Sum × Sum) × List Sum)) (w : World) (hv : SumsAt w v p) (hB : B ≤ w.heap.size) (hmn : m < n) (hn2 : 2 ≤ n) (hn : n < 18446744073709551616) (hk : ¬ m ≤ cut n)
    (ih : ∀ W, Below w.heap.size w W → Calls Tryz.prog 110 #[.int .u64 ((m - cut n : Nat) : Int), .int .u64 ((n - cut n : Nat) : Int), sv a, v, .bool false] W (LLOf B W r)) :
    Calls Tryz.prog 110 #[.int .u64 (m : Int), .int .u64 (n : Int), sv a, v, .bool ed] w (LLOf B w (onRight r)) := by
  obtain ⟨ad, cap, rfl, _, _, _⟩ := hv
  obtain ⟨pl, hpl⟩ : ∃ k, k = p.length := ⟨_, rfl⟩
  rw [← hpl] at ih ⊢
  clear hpl
  have hcut := fun W => rcut_any n W hn2 hn
  obtain ⟨k, hkk⟩ : ∃ k, k = cut n := ⟨_, rfl⟩
  rw [← hkk] at hcut hk ih
  obtain ⟨e1, e2, e3, e4, e5, e6⟩ := neq_nums hmn
  obtain ⟨d1, d2, d3⟩ := leq_not hk
  obtain ⟨d4, d5⟩ := side_le hk hmn hn
  have HC := Lib.hid hcut
  have HIH := Lib.hid ih
  have HB := Lib.hid hB
  have HI := Lib.hid (llin_start w a)
  have hb0 := build_both0
  clear hcut ih hB hkk hn2 hn hmn hk
  go_enter Tryz.func110, Tryz.ntmps110
  refine wp_cut 1 ?_
  intro T hT
  dsimp only [cutN]
  replace hT := Lib.hid hT
  go_wp2_with fail
  refine hT.out _ _ ?_
  clear hT
  dsimp only [dropN]
  change Code.wp _ _ _ _ ((w.alloc (.cells (cellsOf a).toArray 24)).alloc (.cells (cells2 zeroSum zeroSum).toArray 119))
  have H2 := Lib.hid (HI.out 119)
  generalize ((w.alloc (.cells (cellsOf a).toArray 24)).alloc (.cells (cells2 zeroSum zeroSum).toArray 119)) = w2 at *
  clear HI
  go_wp2_with (go_at_call 103; refine Hid.out ?_)
  refine Lib.hid ?_
  refine (HC.out _).mono ?_
  rintro e w4 ⟨rfl, rfl⟩
  go_wp2_with (first
    | (refine wpList_load_sum rfl _ rfl w.heap.size 0 rfl a H2.out.leaf ?_)
    | (go_at_call 110; refine Hid.out ?_))
  refine Lib.hid ?_
  refine (HIH.out w2 H2.out.below).mono ?_
  rintro e w5 ⟨hb5, hr5⟩
  have H5 := Lib.hid (And.intro (H2.out.below.trans (hb5.mono H2.out.below.size)) (And.intro ((Keeps.of_below (X := fun _ => False) hb5).there H2.out.res (by decide) (fun h => h)) (show w.heap.size + 2 ≤ w5.heap.size by have := hb5.size; have := H2.out.size; omega)))
  clear hb5 HC HIH
  rcases r with _ | ⟨⟨x, y⟩, q⟩
  · obtain ⟨x, y, rfl⟩ := hr5
    go_wp2_with (refine wpList_var_bothR (by rfl) rfl _ _ rfl x y rfl rfl ?_; intro W6 hb6 hr6 hlt6; refine Hid.out ?_)
    refine Lib.hid ?_
    have H6 := Lib.hid (And.intro (H5.out.1.trans (hb6.mono H5.out.1.size)) ((Keeps.of_below (X := fun _ => False) hb6).there H5.out.2.1 (by decide) (fun h => h)))
    clear hb6 hr6 hlt6
    go_wp2_with (refine wpList_store_bothR rfl _ _ rfl (w.heap.size + 1) 0 zeroSum zeroSum rfl rfl H6.out.2 ?_)
    refine bodyPost_ret (results_both Tryz.results110 _ _ _ _ _ rfl H6.out.2) rfl ?_
    exact ⟨setCells_below (w.heap.size + 1) (by omega) (cells2 zeroSum zeroSum) 0 _ _ H6.out.1, _, _, rfl⟩
  · obtain ⟨v5, rfl, hs5, ho5⟩ := hr5
    rcases q with _ | ⟨s, q⟩
    · obtain ⟨a5, c5, rfl, _, _, _⟩ := hs5
      go_wp2_with (refine wpList_var_bothR (by rfl) rfl _ _ rfl x y rfl rfl ?_; intro W6 hb6 hr6 hlt6; refine Hid.out ?_)
      refine Lib.hid ?_
      have H6 := Lib.hid (And.intro (H5.out.1.trans (hb6.mono H5.out.1.size)) ((Keeps.of_below (X := fun _ => False) hb6).there H5.out.2.1 (by decide) (fun h => h)))
      clear hb6 hr6 hlt6
      go_wp2_with (refine wpList_store_bothR rfl _ _ rfl (w.heap.size + 1) 0 zeroSum zeroSum rfl rfl H6.out.2 ?_)
      refine bodyPost_ret (results_both Tryz.results110 _ _ _ _ _ rfl H6.out.2) rfl ?_
      exact ⟨setCells_below (w.heap.size + 1) (by omega) (cells2 zeroSum zeroSum) 0 _ _ H6.out.1, _, _, rfl⟩
    · obtain ⟨b, o, cq, z, n9, o1, rfl, ⟨hz1, hz2, hz3, hz4⟩, hs, hsl, hrest⟩ := tail_form hs5
      have HBB := Lib.hid (ho5 (by simp) b rfl)
      have HS := Lib.hid hs
      have HR := Lib.hid hrest
      have HSL := Lib.hid hsl
      clear hs hsl hrest ho5 hs5
      go_wp2_with (refine wpList_var_bothR (by rfl) rfl _ _ rfl x y rfl rfl ?_; intro W6 hb6 hr6 hlt6; refine Hid.out ?_)
      refine Lib.hid ?_
      have H6 := Lib.hid (And.intro (H5.out.1.trans (hb6.mono H5.out.1.size)) (And.intro ((Keeps.of_below (X := fun _ => False) hb6).there H5.out.2.1 (by decide) (fun h => h)) (And.intro (brq hb6 HS.out) (And.intro hr6 hb6))))
      obtain ⟨g, hg⟩ : ∃ g, g = w5.heap.size := ⟨_, rfl⟩
      rw [← hg] at H6 ⊢
      have HG := Lib.hid hg
      clear hb6 hr6 hlt6 hg
      go_wp2_with fail
      have hd := (Below.refl W6.heap.size W6).drew
      have HD := Lib.hid (And.intro (H6.out.1.trans (hd.mono H6.out.1.size)) (And.intro ((Keeps.of_below (X := fun _ => False) hd).there H6.out.2.1 (by decide) (fun h => h)) (And.intro (brq hd H6.out.2.2.1) (And.intro (brq hd H6.out.2.2.2.1) (show Below w5.heap.size w5 W6.drew by have h6 := H6.out.2.2.2.2; rw [HG.out] at h6; exact h6.trans (hd.mono h6.size))))))
      clear hd H6 H5
      refine wp_region_sched (fun V => V.rangeAt g 0 (cells2 x y) ∧ V.rangeAt b o (cellsOf s)) [.t 0, .t 1, .t 3, .t 6, .t 7, .t 9, .t 13, .t 14, .s 2, .s 4, .s 8, .s 10, .e 5 true, .e 11 false, .t 12, .e 15 false, .t 16, .t 17] (by kernel_rfl) (by kernel_rfl) (by intro c a d v w h; cases d <;> exact h) ?_
      generalize W6.drew = V at *
      iterate 7
        refine wpS_t rfl (v := ?_) (by rfl) (fun W => ?_) ?_
        rotate_left
        · go_simp
          try rfl
        try simp only [Act.put, List.setIfInBounds_toArray, List.set_cons_zero, List.set_cons_succ]
      have hsl := HSL.out
      iterate 1
        refine wpS_t rfl (v := ?_) (by rfl) (fun W => ?_) ?_
        rotate_left
        · go_simp
          try rfl
        try simp only [Act.put, List.setIfInBounds_toArray, List.set_cons_zero, List.set_cons_succ]
      clear hsl
      have HSS := Lib.hid (And.intro HD.out.2.2.2.1 HD.out.2.2.1)
      refine wpS_load_sum (by exact HSS.out) rfl (by rfl) _ (by rfl) b o (by rfl) s (fun V hV => hV.2) ?_
      try simp only [Act.put, List.setIfInBounds_toArray, List.set_cons_zero, List.set_cons_succ]
      refine wpS_load_sum (by exact HSS.out) rfl (by rfl) _ (by rfl) g 0 (by rfl) x (fun V hV => range_left_ hV.1) ?_
      try simp only [Act.put, List.setIfInBounds_toArray, List.set_cons_zero, List.set_cons_succ]
      refine wpS_load_sum (by exact HSS.out) rfl (by rfl) _ (by rfl) b o (by rfl) s (fun V hV => hV.2) ?_
      try simp only [Act.put, List.setIfInBounds_toArray, List.set_cons_zero, List.set_cons_succ]
      refine wpS_load_sum (by exact HSS.out) rfl (by rfl) _ (by rfl) g 32 (by rfl) y (fun V hV => by have := range_right_ hV.1; rw [length_cellsOf, Nat.zero_add] at this; exact this) ?_
      try simp only [Act.put, List.setIfInBounds_toArray, List.set_cons_zero, List.set_cons_succ]
      refine wpS_k rfl (by rfl) (fun K hK => ?_)
      go_simp
      refine (rnode_any s x V).mono ?_
      rintro e V6 ⟨rfl, hb6⟩
      have H6 := Lib.hid (And.intro (HD.out.1.trans (hb6.mono HD.out.1.size)) (And.intro ((Keeps.of_below (X := fun _ => False) hb6).there HD.out.2.1 (by decide) (fun h => h)) (And.intro (brq hb6 HSS.out.1) (And.intro (brq hb6 HSS.out.2) (HD.out.2.2.2.2.trans (hb6.mono HD.out.2.2.2.2.size))))))
      clear hb6
      refine hK _ _ ⟨by exact ⟨H6.out.2.2.1, H6.out.2.2.2.1⟩, ?_⟩; clear hK K
      try simp only [Act.put, List.setIfInBounds_toArray, List.set_cons_zero, List.set_cons_succ]
      refine wpS_e rfl (by rfl) (fun K hK => ?_)
      go_simp
      refine (rnode_any s y V6).mono ?_
      rintro e V7 ⟨rfl, hb7⟩
      have H7 := Lib.hid (And.intro (H6.out.1.trans (hb7.mono H6.out.1.size)) (And.intro ((Keeps.of_below (X := fun _ => False) hb7).there H6.out.2.1 (by decide) (fun h => h)) (And.intro (brq hb7 H6.out.2.2.1) (H6.out.2.2.2.2.trans (hb7.mono H6.out.2.2.2.2.size)))))
      clear hb7 H6
      refine hK _ _ ?_; clear hK K
      try simp only [Act.put, List.setIfInBounds_toArray, List.set_cons_zero, List.set_cons_succ]
      obtain ⟨t0, ht0⟩ : ∃ t, t = nd s x := ⟨_, rfl⟩
      rw [← ht0]
      have HTt0 := Lib.hid ht0
      clear ht0
      obtain ⟨t, ht⟩ : ∃ t, t = nd s y := ⟨_, rfl⟩
      rw [← ht]
      have HTt := Lib.hid ht
      clear ht
      refine wpS_t rfl (v := bv t0 t) (by rfl) (fun W => exec_build_bothR _ rfl t0 t (by rfl) W) ?_
      try simp only [Act.put, List.setIfInBounds_toArray, List.set_cons_zero, List.set_cons_succ]
      refine wpS_e rfl (by rfl) (fun K hK => ?_)
      refine wp_store_bothR _ _ (by rfl) (w.heap.size + 1) 0 t0 t (by rfl) (by rfl) H7.out.2.1 ?_
      refine hK _ _ ?_; clear hK K
      try simp only [Act.put]
      iterate 2
        refine wpS_t rfl (v := ?_) (by rfl) (fun W => ?_) ?_
        rotate_left
        · go_simp
          try rfl
        try simp only [Act.put, List.setIfInBounds_toArray, List.set_cons_zero, List.set_cons_succ]
      refine wpS_done ?_
      go_wp2_with fail
      refine bodyPost_ret (results_both Tryz.results110 _ _ _ _ _ rfl H7.out.2.1) rfl ?_
      have hb := setCells_below (w.heap.size + 1) (by omega) (cells2 t0 t) 0 _ _ H7.out.1
      have hkp := (Keeps.of_below (X := (· = w.heap.size + 1)) H7.out.2.2.2).trans (keeps_setCells_ (w.heap.size + 1) (cells2 t0 t) 0 _)
      exact ⟨hb, _, by obtain rfl := HTt0.out; obtain rfl := HTt.out; rfl, HR.out _ _ hkp (by have := HBB.out; have := HB.out; omega), fun _ k hk => by
        obtain rfl : b = k := by simpa [Value.ownBlock] using hk
        exact HBB.out⟩
end Go.Proofs.YtdkcndgehgmadaaGreatDoor
