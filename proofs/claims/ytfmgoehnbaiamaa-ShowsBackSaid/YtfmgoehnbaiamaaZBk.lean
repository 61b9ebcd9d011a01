/-
  Merged: S16.
-/
import Derived.Test.YtfmgoehnbaiamaaZS3
import Derived.Test.YtfmgoehnbaiamaaV3
-- Walk: ShowsBack.
open Go Go.RowKit Alm
namespace Go.Proofs.Ytfmgoehnbaiamaa
theorem get_len {l : List Keys.Pr} (h : Full l) (k : Sum) : (Keys.get l k).length ≤ 256 := by
  unfold Keys.get
  split
  · rename_i p hp
    exact (h p (List.mem_of_find?_eq_some hp)).2
  · simp
set_option maxRecDepth 100000 in
set_option maxHeartbeats 4000000 in
theorem showsBack_any (P : List Keys.Pr) (v : Value) (k : Sum) (w : World) (hv : PairsAt w v P) : Calls Try.prog 10 #[v, sv k] w fun e w' => e = .returned (.bool true) ∧ Below w.heap.size w w' := by
  have hb0 := al (Below.refl _ w) (.cells (cellsOf k).toArray 29)
  obtain ⟨z, hz⟩ : ∃ z, z = w.heap.size := ⟨_, rfl⟩
  have hr0 : (w.alloc (.cells (cellsOf k).toArray 29)).rangeAt z 0 (cellsOf k) := by rw [hz]; exact range_new w (cellsOf k).toArray 29 _ rfl
  have H0 := Lib.hid (And.intro hb0 (And.intro hr0 (hv.below hb0)))
  have HZ := Lib.hid hz
  clear hr0 hz
  clear hb0
  obtain ⟨a, cap, rfl, h1, h2⟩ := pairs_form hv
  obtain ⟨N, hN⟩ : ∃ N, N = P.length := ⟨_, rfl⟩
  rw [← hN] at H0 h1
  rw [← hN]
  have HN := Lib.hid hN
  clear hv hN h2
  go_enter Try.func10, Try.ntmps10
  go_wp2_with fail
  rw [← HZ.out]
  generalize w.alloc (.cells (cellsOf k).toArray 29) = W0 at *
  refine (great16_any P _ W0 H0.out.2.2).mono ?_
  rintro e W1 ⟨r, rfl, hr, hb⟩
  have HB1 := Lib.hid (H0.out.1.trans (hb.mono H0.out.1.size))
  have HR1 := Lib.hid (And.intro ((Keeps.of_below (X := fun _ => False) hb).range H0.out.2.1 (fun h => h)) (H0.out.2.2.below hb))
  clear hb H0 HZ
  cases r with
  | true =>
    clear hr HR1
    go_wp2_with fail
    refine (alive16_any W1).mono ?_
    rintro e W2 ⟨rfl, hb2⟩
    have HB2 := Lib.hid (HB1.out.trans (hb2.mono HB1.out.size))
    clear hb2
    go_wp2_with fail
    exact bodyPost_ret (results_tmp rfl _ _ _) rfl ⟨rfl, HB2.out⟩
  | false =>
    have HP := Lib.hid (hr rfl)
    clear hr
    go_wp2_with fail
    refine (of16_any P _ W1 HR1.out.2 (by have := HP.out; omega)).mono ?_
    rintro e W2 ⟨p, b, l, x, rfl, hm, hp, _, hbb, _, hb⟩
    rw [← HN.out] at hm
    have H2 := Lib.hid (show LW w W2 p b N l [(z, k)] [] [] from ⟨HB1.out.trans (hb.mono HB1.out.size), hm, by have := HB1.out.size; omega, fun q hq => by rw [List.mem_singleton.1 hq]; exact (Keeps.of_below (X := fun _ => False) hb).range HR1.out.1 (fun h => h), by simp, by simp⟩)
    have hl := puts_few hp HP.out
    have hsf := sides_few k hp HP.out
    have HL := Lib.hid (And.intro hp (And.intro hl hsf))
    clear hm hp hb HB1 HR1 hl hsf hbb
    go_wp2_with (refine wpList_load_sum rfl _ rfl z 0 rfl k (H2.out.r (z, k) (by simp)) ?_)
    refine (mget_any k W2 p b N l H2.out.map).mono ?_
    rintro e W3 ⟨v3, rfl, hN3, hb⟩
    obtain ⟨bs3, hbs3⟩ : ∃ x, x = Keys.get (prs l) k := ⟨_, rfl⟩
    rw [← hbs3] at hN3
    have H3 := Lib.hid ((H2.out.below hb).addY hN3.1)
    have HBS := Lib.hid hbs3
    have hbl : bs3.length ≤ 256 := by
      rw [hbs3]
      exact get_len (vals_full H2.out.map) k
    have HBL := Lib.hid hbl
    clear hb hN3 H2 hbs3 hbl
    go_wp2_with (refine wpList_load_sum rfl _ rfl z 0 rfl k (H3.out.r (z, k) (by simp)) ?_)
    refine (sof_any k W3 p b N l H3.out.map (by have := HL.out.2.1; omega)).mono ?_
    rintro e W4 ⟨which, vS, rfl, hS4, hB4, hb⟩
    obtain ⟨S, hS⟩ : ∃ S, S = sidesOf (tells k 256 (prs l)) := ⟨_, rfl⟩
    have hcn := cnt_sides hB4
    have hle := length_sides k 256 (prs l)
    have hsf := HL.out.2.2
    have hck : checkOf (rootOf (prs l)) k bs3 which S = true := by
      rw [HBS.out, hS]
      exact check_tells (prs_rise H3.out.map.rise) (tells_ok k 256 _) hB4
    rw [← hS] at hcn hle hsf
    have hsm := hS4.sums
    rw [← hS] at hsm
    obtain ⟨aS, cS, rfl, hf1, hf2⟩ := sums_form hsm
    obtain ⟨M, hM⟩ : ∃ M, M = S.length := ⟨_, rfl⟩
    rw [← hM] at hcn hle hsf hf1 hsm
    rw [← hM]
    obtain ⟨L, hL⟩ : ∃ L, L = (prs l).length := ⟨_, rfl⟩
    rw [← hL] at hle
    have H4 := Lib.hid (And.intro (H3.out.below hb) hsm)
    have HK := Lib.hid (And.intro hcn (And.intro hck (And.intro hM (And.intro hsf hL))))
    clear hS4 hB4 hb hcn hck hS hf2 hM hL H3 hsf hsm
    have k1 : (M : Int) ≤ (cS : Int) := by omega
    have d1 : decide (M ≤ L) = true := by simpa using hle
    have d1' : decide ((M : Int) ≤ (L : Int)) = true := by simp; omega
    clear hle
    have HG := Lib.hid trivial
    go_wp2_with (have _ := HG; refine wpList_var_show (by rfl) rfl _ _ rfl which (.slice aS M cS) (by rfl) rfl rfl ?_; intro W5 hb hr; obtain ⟨z9, hz9⟩ : ∃ x, x = W4.heap.size := ⟨_, rfl⟩; rw [← hz9] at hr ⊢; have H5 := Lib.hid ((H4.out.1.below hb).addS hr (H4.out.2.below hb (Nat.le_refl _))); clear HG hb hr hz9 H4)
    refine wp_region_sched (fun V => LW w V p b N l [(z, k)] [(v3, bs3)] [(z9, which, .slice aS M cS, S)]) [.e 0 true, .t 1, .t 2, .t 3, .t 4, .t 5, .t 6, .t 7, .t 8, .t 9, .t 10, .t 13, .s 12, .s 14, .e 11 true, .e 15 true, .t 16, .t 17, .t 18, .t 21, .s 19, .s 22, .t 23, .e 20 true, .t 24, .t 25, .t 26, .t 27, .t 30, .s 28, .t 29, .e 31 true, .t 32, .t 33, .t 34, .t 35] (by kernel_rfl) (by kernel_rfl) (by intro c a d v w h; cases d <;> exact h) ?_
    have HS := Lib.hid (H5.out.below (Below.refl _ _).drew)
    clear H5
    generalize W5.drew = V at *
    refine wpS_k rfl (by rfl) (fun K hK => ?_)
    go_simp
    refine (alive16_any V).mono ?_
    rintro e V1 ⟨rfl, hb⟩
    have HS1 := Lib.hid (HS.out.below hb)
    clear hb HS
    refine hK _ _ ⟨by exact HS1.out, ?_⟩; clear hK K
    try simp only [Act.put, List.setIfInBounds_toArray, List.set_cons_zero, List.set_cons_succ]
    iterate 11
      refine wpS_t rfl (v := ?_) (by rfl) (fun W => ?_) ?_
      rotate_left
      · go_simp
        try rfl
      try simp only [Act.put, List.setIfInBounds_toArray, List.set_cons_zero, List.set_cons_succ]
    refine wpS_load_sum (by exact HS1.out) rfl (by rfl) _ (by rfl) z 0 (by rfl) k (fun W hW => hW.r (z, k) (by simp)) ?_
    try simp only [Act.put, List.setIfInBounds_toArray, List.set_cons_zero, List.set_cons_succ]
    refine wpS_load_show (by exact HS1.out) rfl (by rfl) _ (by rfl) z9 0 (by rfl) which (.slice aS M cS) (fun W hW => (hW.s (z9, which, .slice aS M cS, S) (by simp)).1) ?_
    try simp only [Act.put, List.setIfInBounds_toArray, List.set_cons_zero, List.set_cons_succ]
    refine wpS_k rfl (by rfl) (fun K hK => ?_)
    go_simp
    refine (mroot_any V1 p b N l HS1.out.map (by have := HL.out.2.1; omega)).mono ?_
    rintro e V2 ⟨rfl, hb⟩
    have HS2 := Lib.hid (HS1.out.below hb)
    clear hb HS1
    refine hK _ _ ⟨by exact HS2.out, ?_⟩; clear hK K
    try simp only [Act.put, List.setIfInBounds_toArray, List.set_cons_zero, List.set_cons_succ]
    refine wpS_k rfl (by rfl) (fun K hK => ?_)
    go_simp
    refine (scheck_any (rootOf (prs l)) k which v3 (.slice aS M cS) bs3 S V2 (HS2.out.y (v3, bs3) (by simp)) (HS2.out.s (z9, which, .slice aS M cS, S) (by simp)).2 (by have := HK.out.2.2.1; have := HK.out.2.2.2.1; omega) (by have := HBL.out; omega)).mono ?_
    rw [HK.out.2.1]
    rintro e V3 ⟨rfl, hb⟩
    have HS3 := Lib.hid (HS2.out.below hb)
    clear hb HS2
    refine hK _ _ ⟨by exact HS3.out, ?_⟩; clear hK K
    try simp only [Act.put, List.setIfInBounds_toArray, List.set_cons_zero, List.set_cons_succ]
    iterate 4
      refine wpS_t rfl (v := ?_) (by rfl) (fun W => ?_) ?_
      rotate_left
      · go_simp
        try rfl
      try simp only [Act.put, List.setIfInBounds_toArray, List.set_cons_zero, List.set_cons_succ]
    refine wpS_load_sum (by exact HS3.out) rfl (by rfl) _ (by rfl) z9 0 (by rfl) which (fun W hW => which_show (hW.s (z9, which, .slice aS M cS, S) (by simp)).1) ?_
    try simp only [Act.put, List.setIfInBounds_toArray, List.set_cons_zero, List.set_cons_succ]
    refine wpS_s (by exact HS3.out) rfl (v := .slice aS M cS) (by rfl) (fun W hW => ?_) ?_
    · have g := cell_show (hW.s (z9, which, .slice aS M cS, S) (by simp)).1
      go_simp
    try simp only [Act.put, List.setIfInBounds_toArray, List.set_cons_zero, List.set_cons_succ]
    iterate 1
      refine wpS_t rfl (v := ?_) (by rfl) (fun W => ?_) ?_
      rotate_left
      · go_simp
        try rfl
      try simp only [Act.put, List.setIfInBounds_toArray, List.set_cons_zero, List.set_cons_succ]
    refine wpS_k rfl (by rfl) (fun K hK => ?_)
    go_simp
    refine (bits_any which V3).mono ?_
    rw [HK.out.1]
    rintro e V4 ⟨rfl, hb⟩
    have HS4 := Lib.hid (HS3.out.below hb)
    clear hb HS3
    refine hK _ _ ⟨by exact HS4.out, ?_⟩; clear hK K
    try simp only [Act.put, List.setIfInBounds_toArray, List.set_cons_zero, List.set_cons_succ]
    iterate 5
      refine wpS_t rfl (v := ?_) (by rfl) (fun W => ?_) ?_
      rotate_left
      · go_simp
        try rfl
      try simp only [Act.put, List.setIfInBounds_toArray, List.set_cons_zero, List.set_cons_succ]
    refine wpS_s (by exact HS4.out) rfl (v := .slice aS M cS) (by rfl) (fun W hW => ?_) ?_
    · have g := cell_show (hW.s (z9, which, .slice aS M cS, S) (by simp)).1
      go_simp
    try simp only [Act.put, List.setIfInBounds_toArray, List.set_cons_zero, List.set_cons_succ]
    iterate 1
      refine wpS_t rfl (v := ?_) (by rfl) (fun W => ?_) ?_
      rotate_left
      · go_simp
        try rfl
      try simp only [Act.put, List.setIfInBounds_toArray, List.set_cons_zero, List.set_cons_succ]
    refine wpS_k rfl (by rfl) (fun K hK => ?_)
    go_simp
    refine (mpairs_any V4 p b N l HS4.out.map (by have := HL.out.2.1; omega)).mono ?_
    rintro e V5 ⟨vp, rfl, hP5, hb⟩
    obtain ⟨ap, cp, rfl, hp1, hp2⟩ := pairs_form hP5
    rw [← HK.out.2.2.2.2] at hp1 ⊢
    have HS5 := Lib.hid (HS4.out.below hb)
    have k2 : (L : Int) ≤ (cp : Int) := by omega
    clear hb HS4 hP5 hp2
    refine hK _ _ ⟨by exact HS5.out, ?_⟩; clear hK K
    try simp only [Act.put, List.setIfInBounds_toArray, List.set_cons_zero, List.set_cons_succ]
    iterate 4
      refine wpS_t rfl (v := ?_) (by rfl) (fun W => ?_) ?_
      rotate_left
      · go_simp
        try rfl
      try simp only [Act.put, List.setIfInBounds_toArray, List.set_cons_zero, List.set_cons_succ]
    refine wpS_done ?_
    go_wp2_with fail
    exact bodyPost_ret (results_tmp rfl _ _ _) rfl ⟨rfl, HS5.out.bw⟩
end Go.Proofs.Ytfmgoehnbaiamaa
