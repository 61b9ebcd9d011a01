/-
  Merged: S17.
-/
import Derived.Test.YtfmgoehnbaiamaaZS3
import Derived.Test.YtfmgoehnbaiamaaV3
-- Walk: ShowsPut.
open Go Go.RowKit Alm
namespace Go.Proofs.Ytfmgoehnbaiamaa
set_option maxRecDepth 100000 in
set_option maxHeartbeats 4000000 in
theorem showsPut_any (P : List Keys.Pr) (v : Value) (k : Sum) (v2 : Value) (bs : List UInt8) (w : World) (hv : PairsAt w v P) (hv2 : BytesAt w v2 bs) : Calls Try.prog 13 #[v, sv k, v2] w fun e w' => e = .returned (.bool true) ∧ Below w.heap.size w w' := by
  have hb0 := al (Below.refl _ w) (.cells (cellsOf k).toArray 29)
  obtain ⟨z, hz⟩ : ∃ z, z = w.heap.size := ⟨_, rfl⟩
  have hr0 : (w.alloc (.cells (cellsOf k).toArray 29)).rangeAt z 0 (cellsOf k) := by rw [hz]; exact range_new w (cellsOf k).toArray 29 _ rfl
  have H0 := Lib.hid (And.intro hb0 (And.intro hr0 (hv.below hb0)))
  have HZ := Lib.hid hz
  clear hr0 hz
  have HY0 := Lib.hid (bytes_below hv2 hb0 (Nat.le_refl _))
  clear hv2
  clear hb0
  obtain ⟨a2, c2, rfl, hy1, hy2, _⟩ := id HY0.out
  obtain ⟨M2, hM2⟩ : ∃ M, M = bs.length := ⟨_, rfl⟩
  rw [← hM2] at HY0 hy1
  rw [← hM2]
  have HM2 := Lib.hid hM2
  have k2 : (M2 : Int) ≤ (c2 : Int) := by omega
  clear hM2 hy1 hy2
  obtain ⟨a, cap, rfl, h1, h2⟩ := pairs_form hv
  obtain ⟨N, hN⟩ : ∃ N, N = P.length := ⟨_, rfl⟩
  rw [← hN] at H0 h1
  rw [← hN]
  have HN := Lib.hid hN
  clear hv hN h2
  go_enter Try.func13, Try.ntmps13
  go_wp2_with fail
  rw [← HZ.out]
  generalize w.alloc (.cells (cellsOf k).toArray 29) = W0 at *
  refine (great16_any P _ W0 H0.out.2.2).mono ?_
  rintro e W1 ⟨r, rfl, hr, hb⟩
  have HB1 := Lib.hid (H0.out.1.trans (hb.mono H0.out.1.size))
  have HR1 := Lib.hid (And.intro ((Keeps.of_below (X := fun _ => False) hb).range H0.out.2.1 (fun h => h)) (And.intro (H0.out.2.2.below hb) (bytes_below HY0.out hb (Nat.le_refl _))))
  clear hb H0 HZ HY0
  cases r with
  | true =>
    clear hr HR1
    go_wp2_with fail
    refine (alive16_any W1).mono ?_
    rintro e W2 ⟨rfl, hb2⟩
    have HB2 := Lib.hid (HB1.out.trans (hb2.mono HB1.out.size))
    clear hb2
    go_wp2_with fail
    exact bodyPost_ret (results_tmp rfl _ _ _) rfl ⟨rfl, HB2.out⟩
  | false =>
    have HP := Lib.hid (hr rfl)
    clear hr
    by_cases hM : 256 < M2
    · have e1 : decide (256 < M2) = true := by simpa using hM
      have e1' : decide ((256 : Int) < (M2 : Int)) = true := by simp; omega
      clear HR1
      go_wp2_with fail
      refine (alive16_any W1).mono ?_
      rintro e W2 ⟨rfl, hb2⟩
      have HB2 := Lib.hid (HB1.out.trans (hb2.mono HB1.out.size))
      clear hb2
      go_wp2_with fail
      exact bodyPost_ret (results_tmp rfl _ _ _) rfl ⟨rfl, HB2.out⟩
    · have e1 : decide (256 < M2) = false := by simpa using hM
      have e1' : decide ((256 : Int) < (M2 : Int)) = false := by simp; omega
      have HM := Lib.hid hM
      clear hM
      go_wp2_with fail
      refine (of16_any P _ W1 HR1.out.2.1 (by have := HP.out; omega)).mono ?_
      rintro e W2 ⟨p, b, l, x, rfl, hm, hp, _, hbb, _, hb⟩
      rw [← HN.out] at hm
      have H2 := Lib.hid (show LW w W2 p b N l [(z, k)] [(.slice a2 M2 c2, bs)] [] from ⟨HB1.out.trans (hb.mono HB1.out.size), hm, by have := HB1.out.size; omega, fun q hq => by rw [List.mem_singleton.1 hq]; exact (Keeps.of_below (X := fun _ => False) hb).range HR1.out.1 (fun h => h), fun q hq => by rw [List.mem_singleton.1 hq]; exact bytes_below HR1.out.2.2 hb (Nat.le_refl _), by simp⟩)
      have hl := puts_few hp HP.out
      have hsf := sides_few k hp HP.out
      have HL := Lib.hid (And.intro hp (And.intro hl hsf))
      clear hm hp hb HB1 HR1 hl hsf hbb
      go_wp2_with (refine wpList_load_sum rfl _ rfl z 0 rfl k (H2.out.r (z, k) (by simp)) ?_)
      refine (sof_any k W2 p b N l H2.out.map (by have := HL.out.2.1; omega)).mono ?_
      rintro e W4 ⟨which, vS, rfl, hS4, hB4, hb⟩
      obtain ⟨S, hS⟩ : ∃ S, S = sidesOf (tells k 256 (prs l)) := ⟨_, rfl⟩
      have hsf := HL.out.2.2
      have hsm := hS4.sums
      rw [← hS] at hsm hsf
      have HBT := Lib.hid (And.intro hS hB4)
      obtain ⟨aS, cS, rfl, hf1, hf2⟩ := sums_form hsm
      obtain ⟨M, hM⟩ : ∃ M, M = S.length := ⟨_, rfl⟩
      rw [← hM] at hf1 hsm hsf
      rw [← hM]
      have H4 := Lib.hid (And.intro (H2.out.below hb) hsm)
      have HK := Lib.hid (And.intro hM hsf)
      clear hS4 hB4 hb hS hf2 hM H2 hsf hsm
      have k1 : (M : Int) ≤ (cS : Int) := by omega
      have HG := Lib.hid trivial
      go_wp2_with (first
        | (have _ := HG; refine wpList_var_show (by rfl) rfl _ _ rfl which (.slice aS M cS) (by rfl) rfl rfl ?_; intro W5 hb hr; obtain ⟨z9, hz9⟩ : ∃ x, x = W4.heap.size := ⟨_, rfl⟩; rw [← hz9] at hr ⊢; have H5 := Lib.hid ((H4.out.1.below hb).addS hr (H4.out.2.below hb (Nat.le_refl _))); clear HG hb hr hz9 H4)
        | (have _ := H5; refine wpList_load_sum rfl _ rfl z 0 rfl k (H5.out.r (z, k) (by simp)) ?_))
      refine (mput_any k bs (.slice a2 M2 c2) W5 p b N l H5.out.map (by have := HP.out; have := HN.out; omega) (H5.out.y (.slice a2 M2 c2, bs) (by simp))).mono ?_
      rintro e W6 ⟨rfl, l2, hm2, hp2, hk2⟩
      rw [if_neg (by rw [← HM2.out]; exact HM.out)]
      have hbs : bs.length ≤ 256 := by have := HM.out; have := HM2.out; omega
      have hck : checkOf (rootOf (prs l2)) k bs which S = true := by
        have hr2 : Keys.Rise (prs l2) := prs_rise hm2.rise
        have hbut := but_put (prs_rise H5.out.map.rise) bs (k := k)
        rw [← hp2] at hbut
        have ht := tells_but 256 hbut
        have h := check_tells (k := k) (which := which) hr2 (tells_ok k 256 (prs l2)) (by rw [← ht]; exact HBT.out.2)
        rw [← ht, ← HBT.out.1, hp2, get_putB (prs_rise H5.out.map.rise) (vals_full H5.out.map), if_pos ⟨rfl, hbs⟩, ← hp2] at h
        exact h
      have H6 := Lib.hid (H5.out.put hm2 hk2)
      have hl2 : l2.length ≤ 17 := by
        have h1 := congrArg List.length hp2
        have h2 := length_putB (prs l) k bs
        have h3 := HL.out.2.1
        simp [prs] at h1 h2
        omega
      have HC := Lib.hid (And.intro hck (And.intro hl2 hbs))
      clear hm2 hp2 hk2 H5 hck hl2 hbs
      go_wp2_with fail
      refine wp_region_sched (fun V => LW w V p b (N + 1) l2 [(z, k)] [(.slice a2 M2 c2, bs)] [(z9, which, .slice aS M cS, S)]) [.e 0 true, .t 1, .t 2, .t 3, .t 4, .t 5, .t 6, .t 7, .t 8, .t 9, .t 10, .t 13, .s 12, .s 14, .e 11 true, .e 15 false, .t 16, .t 17] (by kernel_rfl) (by kernel_rfl) (by intro c a d v w h; cases d <;> exact h) ?_
      have HS := Lib.hid (H6.out.below (Below.refl _ _).drew)
      clear H6
      generalize W6.drew = V at *
      refine wpS_k rfl (by rfl) (fun K hK => ?_)
      go_simp
      refine (alive16_any V).mono ?_
      rintro e V1 ⟨rfl, hb⟩
      have HS1 := Lib.hid (HS.out.below hb)
      clear hb HS
      refine hK _ _ ⟨by exact HS1.out, ?_⟩; clear hK K
      try simp only [Act.put, List.setIfInBounds_toArray, List.set_cons_zero, List.set_cons_succ]
      iterate 11
        refine wpS_t rfl (v := ?_) (by rfl) (fun W => ?_) ?_
        rotate_left
        · go_simp
          try rfl
        try simp only [Act.put, List.setIfInBounds_toArray, List.set_cons_zero, List.set_cons_succ]
      refine wpS_load_sum (by exact HS1.out) rfl (by rfl) _ (by rfl) z 0 (by rfl) k (fun W hW => hW.r (z, k) (by simp)) ?_
      try simp only [Act.put, List.setIfInBounds_toArray, List.set_cons_zero, List.set_cons_succ]
      refine wpS_load_show (by exact HS1.out) rfl (by rfl) _ (by rfl) z9 0 (by rfl) which (.slice aS M cS) (fun W hW => (hW.s (z9, which, .slice aS M cS, S) (by simp)).1) ?_
      try simp only [Act.put, List.setIfInBounds_toArray, List.set_cons_zero, List.set_cons_succ]
      refine wpS_k rfl (by rfl) (fun K hK => ?_)
      go_simp
      refine (mroot_any V1 p b (N + 1) l2 HS1.out.map (by have := HC.out.2.1; omega)).mono ?_
      rintro e V2 ⟨rfl, hb⟩
      have HS2 := Lib.hid (HS1.out.below hb)
      clear hb HS1
      refine hK _ _ ⟨by exact HS2.out, ?_⟩; clear hK K
      try simp only [Act.put, List.setIfInBounds_toArray, List.set_cons_zero, List.set_cons_succ]
      refine wpS_e rfl (by rfl) (fun K hK => ?_)
      go_simp
      refine (scheck_any (rootOf (prs l2)) k which (.slice a2 M2 c2) (.slice aS M cS) bs S V2 (HS2.out.y (.slice a2 M2 c2, bs) (by simp)) (HS2.out.s (z9, which, .slice aS M cS, S) (by simp)).2 (by have := HK.out; omega) (by have := HC.out.2.2; omega)).mono ?_
      rw [HC.out.1]
      rintro e V3 ⟨rfl, hb⟩
      have HS3 := Lib.hid (HS2.out.below hb)
      clear hb HS2
      refine hK _ _ ?_; clear hK K
      try simp only [Act.put, List.setIfInBounds_toArray, List.set_cons_zero, List.set_cons_succ]
      iterate 2
        refine wpS_t rfl (v := ?_) (by rfl) (fun W => ?_) ?_
        rotate_left
        · go_simp
          try rfl
        try simp only [Act.put, List.setIfInBounds_toArray, List.set_cons_zero, List.set_cons_succ]
      refine wpS_done ?_
      go_wp2_with fail
      exact bodyPost_ret (results_tmp rfl _ _ _) rfl ⟨rfl, HS3.out.bw⟩
end Go.Proofs.Ytfmgoehnbaiamaa
