/-
  The law MapsPlay.
-/
import Derived.Test.YtfmgoehnbaiamaaGreatDoorMP9
open Go Go.RowKit Alm
namespace Go.Proofs.YtfmgoehnbaiamaaGreatDoor
theorem rem_facts (i : Nat) (h : i < 100) : (i % 5 = 4 → ((i : Int).tmod 5) = 4) ∧ (¬ i % 5 = 4 → ¬ ((i : Int).tmod 5) = 4) := by
  rw [Int.tmod_eq_emod_of_nonneg (by omega)]
  omega
set_option maxRecDepth 100000 in
set_option maxHeartbeats 8000000 in
theorem mapsPlay_any (P : List Keys.Pr) (vl : Value) (k : Sum) (w : World) (hl : PairsAt w vl P) (hR : ∀ p ∈ P, p.2.length < 281474976710656) :
    Calls Tryz.prog 3 #[vl, sv k] w fun e w' => e = .returned (.bool true) ∧ Below w.heap.size w w' := by
  obtain ⟨w1, hw1⟩ : ∃ x, x = w.alloc (.cells (cellsOf k).toArray 24) := ⟨_, rfl⟩
  have r1 : w1.rangeAt w.heap.size 0 (cellsOf k) := by rw [hw1]; exact range_new w _ _ _ rfl
  have b1 : Below w.heap.size w w1 := by rw [hw1]; exact al (Below.refl _ _) _
  have s1 : w1.heap.size = w.heap.size + 1 := by rw [hw1, World.size_alloc]
  obtain ⟨a0, c0, rfl, hz1, _⟩ := pairs_form hl
  have hg := great15_len P (.slice a0 P.length c0) w1 (hl.below b1) hR
  have HL := Lib.hid hl
  obtain ⟨N, hN⟩ : ∃ n, n = P.length := ⟨_, rfl⟩
  rw [← hN] at HL hg hz1 ⊢
  have HN := Lib.hid hN
  have H0 := Lib.hid (And.intro r1 (And.intro b1 s1))
  have HG0 := Lib.hid hg
  have HW := Lib.hid hw1
  have k1 : (N : Int) ≤ (c0 : Int) := by omega
  clear r1 b1 s1 hg hw1 hl hR hN hz1
  go_enter Tryz.func3, Tryz.ntmps3
  refine Alm.wp_cut 1 ?_
  intro T hT
  dsimp only [cutN]
  replace hT := Lib.hid hT
  go_wp2_with fail
  refine hT.out _ _ ?_
  clear hT
  dsimp only [dropN]
  change Code.wp _ _ _ _ (w.alloc (.cells (cellsOf k).toArray 24))
  rw [← HW.out]
  clear HW
  go_wp2_with fail
  refine HG0.out.mono ?_
  rintro e w2 ⟨r, rfl, hr, hb2⟩
  have kk := Keeps.of_below (X := fun _ => False) hb2
  have H2 := Lib.hid (And.intro (kk.range H0.out.1 (fun h => h)) (And.intro (H0.out.2.1.trans (hb2.mono H0.out.2.1.size)) (by have := H0.out.2.2; have := hb2.size; omega : w.heap.size + 1 ≤ w2.heap.size)))
  have HR := Lib.hid hr
  clear kk hb2 hr H0 HG0
  cases r with
  | true =>
    go_wp2_with fail
    exact bodyPost_ret (results_tmp rfl _ _ _) rfl ⟨rfl, H2.out.2.1⟩
  | false =>
    have HP := Lib.hid (HR.out rfl)
    clear HR
    go_wp2_with fail
    refine (mnew_any w2).mono ?_
    rintro e w3 ⟨rfl, hm3, hb3⟩
    obtain ⟨p0, hp0⟩ : ∃ p, p = w2.heap.size + 1 := ⟨_, rfl⟩
    obtain ⟨b0, hbb0⟩ : ∃ b, b = w2.heap.size := ⟨_, rfl⟩
    rw [← hp0, ← hbb0] at hm3
    rw [← hp0]
    have hbk := gbook_new w3 (w.heap.size + 1) (Nat.le_trans H2.out.2.2 hb3.size)
    have hba := Alm.al (Below.refl w3.heap.size w3) (.cells #[.int .i64 0, .slice none 0 0, .slice none 0 0, .slice none 0 0, .slice none 0 0, .slice none 0 0, .slice none 0 0, .slice none 0 0, .slice none 0 0, .slice none 0 0] 38)
    have hlt3 := hm3.lt
    have hM : MPW w (w3.alloc (.cells #[.int .i64 0, .slice none 0 0, .slice none 0 0, .slice none 0 0, .slice none 0 0, .slice none 0 0, .slice none 0 0, .slice none 0 0, .slice none 0 0, .slice none 0 0] 38)) k w3.heap.size 0 (fun _ => .slice none 0 0) (fun _ => []) (fun _ _ => []) p0 b0 0 [] (puts [] (P.take 0)) (.slice none 0 0) (puts [] (P.take 0)) := by
      have hs := H2.out.2.2
      have hof : ∀ i, i < w3.heap.size → ¬ OfG w3.heap.size (fun _ => .slice none 0 0) (fun _ => []) i := fun i hi e => by
        rcases e with e | ⟨j, _, _, e⟩
        · omega
        · exact no_kind _ e
      exact ⟨(H2.out.2.1.trans (hb3.mono H2.out.2.1.size)).trans (hba.mono (Nat.le_trans H2.out.2.1.size hb3.size)), (Keeps.of_below (X := fun _ => False) hba).range ((Keeps.of_below (X := fun _ => False) hb3).range H2.out.1 (fun h => h)) (fun h => h), hbk, rfl, fun _ _ => rfl, hm3.below hba, rfl, PairsZ.nil _ _, fun e he => (by cases he), hof _ hlt3.1, hof _ hlt3.2, by omega, by omega⟩
    have HM := Lib.hid hM
    have HP0 := Lib.hid (And.intro hp0 hbb0)
    obtain ⟨q, hq⟩ : ∃ q, q = w3.heap.size := ⟨_, rfl⟩
    have HQ := Lib.hid hq
    clear hm3 hbk hba hlt3 hM hp0 hbb0 hb3 H2 hq
    go_wp2_with fail
    rw [← HQ.out] at HM ⊢
    generalize w3.alloc (.cells #[.int .i64 0, .slice none 0 0, .slice none 0 0, .slice none 0 0, .slice none 0 0, .slice none 0 0, .slice none 0 0, .slice none 0 0, .slice none 0 0, .slice none 0 0] 38) = W0 at *
    clear HP0 HQ
    go_loopw [5, 6, 8] (fun mv xv iv W => ∃ (i : Nat) (F : Nat → Value) (H : Nat → List Held) (S : Nat → Nat → List (List Value)) (p b : Nat) (lm : List Ent) (xw : Value), i ≤ N ∧ iv = .int .i64 (i : Int) ∧ mv = .pointer (some ⟨p, 0, none⟩) ∧ xw = xv ∧ MPW w W k q i F H S p b i lm (puts [] (P.take i)) xw (puts [] (P.take i))) (fun _ _ iv _ => N - (intOf iv).toNat)
    case atStart => exact ⟨0, _, _, _, p0, b0, [], _, Nat.zero_le _, rfl, rfl, rfl, HM.out⟩
    case round =>
      clear HM
      obtain ⟨i, F, H, S, p, b, lm, xv, hi, rfl, rfl, rfl, hO⟩ := hrel
      have HB := Lib.hid hO
      have hN24 : N ≤ 24 := by have := HP.out.1; have := HN.out; omega
      clear hO
      by_cases hlt : i < N
      · obtain ⟨c1, c1', hi0, hlt'⟩ := dec_lt hlt
        obtain ⟨ba, oa, ca, y, bs, he1, hr1, hy1, hg1⟩ := pairs_one (HL.out.below HB.out.bw) (i := i) (by rw [← HN.out]; exact hlt)
        simp only [Value.slice.injEq] at he1
        obtain ⟨rfl, -, rfl⟩ := he1
        have hbs : bs.length ≤ 12000 := HP.out.2 _ (List.mem_of_getElem? hg1)
        have hy32 : wr.cell? ⟨ba, oa + i * 33 + 32, none⟩ = some (peV y) := by
          have := hr1 32 (peV y) (by rw [encP, List.getElem?_append_right (by rw [length_cellsOf]; omega), length_cellsOf]; rfl)
          exact this
        have HX := Lib.hid (And.intro hr1 (And.intro hy1 (And.intro hg1 (And.intro hbs hN24))))
        have HRI := Lib.hid (show Keys.Rise (puts [] (P.take i)) by rw [← HB.out.eq]; exact prs_rise HB.out.mp.rise)
        have hiB : i < 100 := by omega
        have HRF := Lib.hid (rem_facts i hiB)
        have hwi : wrap64 ((i : Int) + 1) = ((i + 1 : Nat) : Int) := wrap_next (m := 100) hiB (by decide)
        have HWI := Lib.hid hwi
        have HLT := Lib.hid (And.intro hlt hiB)
        clear hr1 hy1 hg1 hbs hy32 hN24 hiB hwi hi
        go_wp2_with (refine wpList_load_pair rfl _ rfl ba (oa + i * 33) rfl y HX.out.1 ?_)
        refine (twin_pair y bs wr HX.out.2.1 (by have := HX.out.2.2.2.1; omega)).mono ?_
        rintro e W2 ⟨g, c, rfl, ht2, hb2⟩
        have H2 := Lib.hid (And.intro (HB.out.below hb2) (And.intro ht2 (And.intro hb2.size (And.intro HB.out.mp.lt HB.out.bw.size))))
        have HOF := Lib.hid (fun i hi => (HB.out.bk.lt hi).2 : ∀ i, OfG q F H i → i < wr.heap.size)
        obtain ⟨m, hm⟩ : ∃ m, m = bs.length := ⟨_, rfl⟩
        rw [← hm] at H2 ⊢
        have HMM := Lib.hid hm
        have HBO := Lib.hid (show w.heap.size + 1 ≤ wr.heap.size from by
          have h1 := HB.out.bk.bq
          have h2 := HB.out.bk.bk.lt
          omega)
        clear ht2 hb2 hm HB
        have HG := Lib.hid trivial
        go_wp2_with (have _ := HG; refine wpList_var_pair (by rfl) rfl _ _ rfl (y.1, some ⟨g, 0, none⟩, m, c) rfl rfl ?_; intro W3 hb3 hr3; obtain ⟨z9, hz9⟩ : ∃ x, x = W2.heap.size := ⟨_, rfl⟩; rw [← hz9] at hr3 ⊢; have H3 := Lib.hid (And.intro hb3 (And.intro hr3 hz9)); clear HG hb3 hr3 hz9; refine Hid.out ?_)
        refine Lib.hid ?_
        have hI : MPI w W3 k q i F H S p b i lm (puts [] (P.take i)) xv (puts [] (P.take i)) g c z9 y.1 bs := by
          obtain ⟨h1, h2, h3, h4, _⟩ := H2.out
          have hgg := (h2.lie.lt g rfl).1
          refine ⟨h1.below H3.out.1, ?_, by rw [← HMM.out]; exact H3.out.2.1, fun e => by have := HOF.out _ e; omega, by have := H3.out.2.2; omega⟩
          rw [← HMM.out]
          obtain ⟨g', c', he, hl'⟩ := h2.below H3.out.1
          exact ⟨g', c', he, hl'.mono HBO.out⟩
        have g32 := hI.cell
        rw [← HMM.out] at g32
        have HKY := Lib.hid (show W3.rangeAt z9 0 (cellsOf y.1) from encP_key (x := (y.1, some ⟨g, 0, none⟩, bs.length, c)) hI.r)
        have HI := Lib.hid hI
        have HOM := Lib.hid (show OnMaps (fun i => i = b) W3 from hI.m.mp.on)
        clear hI H2 H3 HOF HBO
        go_wp2_with (refine wpList_load_sum rfl _ rfl z9 0 rfl y.1 HKY.out ?_)
        have hput := mput_z (offB q F) y.1 bs (.slice (some ⟨g, 0, none⟩) m c) W3 p b i lm HI.out.m.mp (by have := HLT.out.2; omega) (by have h := HI.out.t.bytes; rw [← HMM.out] at h; exact h) HI.out.m.mz HI.out.m.new
        rw [← HMM.out] at hput
        refine hput.mono ?_
        clear hput
        rintro e W4 ⟨rfl, hpz⟩
        obtain ⟨lm2, hI4⟩ := HI.out.puts hpz
        rw [← puts_take [] P HX.out.2.2.1] at hI4
        have H4 := Lib.hid hI4
        clear hpz hI4 HI HOM HKY g32
        by_cases hx : m > 256
        · rw [if_pos hx]
          have HC := Lib.hid (show bs.length > 256 by rw [← HMM.out]; exact hx)
          have d1 : decide (m ≤ 256) = false := by simp; omega
          have d1' : decide ((m : Int) ≤ 256) = false := by simp; omega
          clear hx
          go_wp2_with fail
          refine wp_region_sched (fun V => MPI w V k q i F H S p b (i + 1) lm2 (puts [] (P.take (i + 1))) xv (puts [] (P.take i)) g c z9 y.1 bs) [.t 0, .t 1, .t 2, .e 3 true, .t 4, .t 5, .t 6, .t 7, .t 8, .t 9, .t 10, .t 11, .t 12, .t 13, .t 14, .t 15, .t 17, .t 18, .t 19, .s 16, .e 20 true, .e 21 false, .t 22, .t 23] (by kernel_rfl) (by kernel_rfl) (by intro c a d v w h; cases d <;> exact h) ?_
          have HV := Lib.hid (H4.out.below (Below.refl W4.heap.size W4).drew)
          clear H4
          generalize W4.drew = V at *
          iterate 3
            refine wpS_t rfl (v := ?_) (by rfl) (fun W => ?_) ?_
            rotate_left
            · go_simp
              try rfl
            try simp only [Act.put, List.setIfInBounds_toArray, List.set_cons_zero, List.set_cons_succ]
          refine wpS_k rfl (by rfl) (fun K hK => ?_)
          have g := HV.out.cell
          rw [← HMM.out] at g
          go_simp
          refine hK _ _ ⟨by exact HV.out, ?_⟩; clear hK K
          try simp only [Act.put, List.setIfInBounds_toArray, List.set_cons_zero, List.set_cons_succ]
          clear g
          iterate 12
            refine wpS_t rfl (v := ?_) (by rfl) (fun W => ?_) ?_
            rotate_left
            · go_simp
              try rfl
            try simp only [Act.put, List.setIfInBounds_toArray, List.set_cons_zero, List.set_cons_succ]
          iterate 3
            refine wpS_t rfl (v := ?_) (by rfl) (fun W => ?_) ?_
            rotate_left
            · go_simp
              try rfl
            try simp only [Act.put, List.setIfInBounds_toArray, List.set_cons_zero, List.set_cons_succ]
          refine wpS_load_pair (by exact HV.out) rfl (by rfl) _ (by rfl) z9 0 (by rfl) (y.1, some ⟨g, 0, none⟩, bs.length, c) (fun W hW => hW.r) ?_
          try simp only [Act.put, List.setIfInBounds_toArray, List.set_cons_zero, List.set_cons_succ]
          obtain ⟨b2, o2, ca2, y2, bs2, he2, hr2, hy2, hg2⟩ := pairs_one (HL.out.below HV.out.m.bw) (i := i) (by rw [← HN.out]; exact HLT.out.1)
          simp only [Value.slice.injEq, Option.some.injEq, Addr.mk.injEq, and_true] at he2
          obtain ⟨⟨rfl, rfl⟩, -, rfl⟩ := he2
          have hsame : (y2.1, bs2) = (y.1, bs) := by
            have h := HX.out.2.2.1
            rw [hg2, Option.some.injEq] at h
            exact h
          simp only [Prod.mk.injEq] at hsame
          have hs2 := hsame.1
          obtain rfl : bs2 = bs := hsame.2
          have HY := Lib.hid (And.intro hr2 (And.intro hy2 hs2))
          clear hr2 hy2 hg2 hsame hs2
          refine wpS_k rfl (by rfl) (fun K hK => ?_)
          refine wp_load_pair _ (by rfl) ba (oa + i * 33) (by rfl) y2 HY.out.1 ?_
          refine hK _ _ ⟨by exact HV.out, ?_⟩; clear hK K
          try simp only [Act.put, List.setIfInBounds_toArray, List.set_cons_zero, List.set_cons_succ]
          refine wpS_e rfl (by rfl) (fun K hK => ?_)
          go_simp
          refine (left_pair (y.1, some ⟨g, 0, none⟩, bs2.length, c) y2 HY.out.2.2.symm bs2 (w.heap.size + 1) V HV.out.t HY.out.2.1 (by have := HX.out.2.2.2.1; omega)).mono ?_
          rintro e V1 ⟨rfl, hb⟩
          have HV1 := Lib.hid (HV.out.below hb)
          clear hb HV HY
          refine hK _ _ ?_; clear hK K
          try simp only [Act.put, List.setIfInBounds_toArray, List.set_cons_zero, List.set_cons_succ]
          iterate 2
            refine wpS_t rfl (v := ?_) (by rfl) (fun W => ?_) ?_
            rotate_left
            · go_simp
              try rfl
            try simp only [Act.put, List.setIfInBounds_toArray, List.set_cons_zero, List.set_cons_succ]
          refine wpS_done ?_
          have hsm := puts_same9 HX.out.2.2.1 HC.out
          have hI9 := HV1.out
          rw [hsm] at hI9
          have gz32 := hI9.cell
          rw [← HMM.out] at gz32
          have H9 := Lib.hid (show MPI w V1 k q i F H S p b (i + 1) lm2 (puts [] (P.take (i + 1))) xv (puts [] (P.take (i + 1))) g c z9 y.1 bs2 by rw [hsm]; exact hI9)
          clear hsm hI9 HV1
          go_wp2_with fail
          clear gz32
          refine (tell_bytesG (some ⟨g, 0, none⟩) m c (ones bs2) (w.heap.size + 1) q i F H S V1 H9.out.m.bk (by have h := H9.out.t.lie; rw [← HMM.out] at h; exact h) (fun j hj e => by
            obtain rfl : g = j := by simpa [Value.ownBlock] using hj
            exact H9.out.ng e) (by have := HLT.out.2; omega) (by rw [H9.out.m.len]; have := HLT.out.2; omega) (by rw [ones_len]; have := HX.out.2.2.2.1; omega)).mono ?_
          rintro e W5 ⟨rfl, v', hg5, hblk5, hk5⟩
          have hm5 := H9.out.m.told hg5 hblk5 hk5 (fun j hj => by
            obtain rfl : g = j := by simpa [Value.ownBlock] using hj
            have := H9.out.lt
            omega)
          have H5 := Lib.hid hm5
          clear hg5 hblk5 hk5 hm5 H9
          generalize put F 1 v' = F5 at *
          generalize putK H 1 (H 1 ++ [(Value.slice (some ⟨g, 0, none⟩) m c, .slice none 0 0, i + 1)]) = H55 at *
          generalize putK S 1 (more (H 1) (S 1) (ones bs2)) = S5 at *
          by_cases h54 : i % 5 = 4
          · have t1 := HRF.out.1 h54
            go_wp2_with fail
            refine (mcopy_any W5 p b (i + 1) lm2 H5.out.mp (by have h1 := congrArg List.length H5.out.eq; have h2 := puts_len P (i + 1); rw [prs, List.length_map] at h1; have := HLT.out.2; omega)).mono ?_
            rintro e W6 ⟨p2, b2, rfl, hm6, hp6, hb6, hB6⟩
            have hn6 : MapIn W6 p2 b2 (i + 1) lm2 := hm6.mono (by have h1 := congrArg List.length H5.out.eq; have h2 := puts_len P (i + 1); rw [prs, List.length_map] at h1; omega)
            have H6 := Lib.hid (And.intro (H5.out.copy hn6 hp6 hb6 hB6) (And.intro (H5.out.below hB6) (show b2 ≠ b by have := H5.out.mp.lt.2; omega)))
            clear hm6 hn6 hp6 hb6 hB6 H5 t1
            go_wp2_with (refine wpList_load_sum rfl _ rfl w.heap.size 0 rfl k H6.out.1.rk ?_)
            have hB7 := Alm.al (Below.refl W6.heap.size W6) (.cells #[.int .u8 1, .int .u8 2, .int .u8 3] 5)
            have hr7 := range_new W6 #[.int .u8 1, .int .u8 2, .int .u8 3] 5 _ rfl
            have hb7 : BytesAt (W6.alloc (.cells #[.int .u8 1, .int .u8 2, .int .u8 3] 5)) (.slice (some ⟨W6.heap.size, 0, none⟩) 3 3) [1, 2, 3] := ⟨_, 3, rfl, by decide, by decide, .inr ⟨_, 0, rfl, hr7⟩⟩
            have hM7 := H6.out.2.1.below hB7
            refine (mput_z (offB q F5) k [1, 2, 3] _ _ p b (i + 1) lm2 hM7.mp (by have := HLT.out.2; omega) hb7 hM7.mz hM7.new).mono ?_
            rintro e W8 ⟨rfl, l8, h81, h82, h83, h84⟩
            have hF := (H6.out.1.below hB7).beside hM7.mp h83 hM7.hb H6.out.2.2 hM7.nb
            have HF := Lib.hid hF
            clear hB7 hr7 hb7 hM7 h81 h82 h83 h84 hF H6
            go_wp2_with fail
            rw [HWI.out]
            exact ⟨⟨i + 1, F5, H55, S5, p2, b2, lm2, xv, HLT.out.1, rfl, rfl, rfl, HF.out⟩, by simp only [intOf, Int.toNat_natCast]; have := HLT.out.1; omega⟩
          · have t1 := HRF.out.2 h54
            go_wp2_with fail
            rw [HWI.out]
            exact ⟨⟨i + 1, F5, H55, S5, p, b, lm2, xv, HLT.out.1, rfl, rfl, rfl, H5.out⟩, by simp only [intOf, Int.toNat_natCast]; have := HLT.out.1; omega⟩
        · rw [if_neg hx]
          have HC := Lib.hid (show ¬ bs.length > 256 by rw [← HMM.out]; exact hx)
          have d1 : decide (m ≤ 256) = true := by simp; omega
          have d1' : decide ((m : Int) ≤ 256) = true := by simp; omega
          clear hx
          go_wp2_with fail
          refine wp_region_sched (fun V => MPI w V k q i F H S p b (i + 1) lm2 (puts [] (P.take (i + 1))) xv (puts [] (P.take i)) g c z9 y.1 bs) [.t 0, .t 1, .t 2, .e 3 true, .t 4, .t 5, .t 6, .t 7, .t 8, .t 9, .t 10, .t 11, .t 12, .t 13, .t 14, .t 15, .t 17, .t 18, .t 19, .s 16, .e 20 true, .e 21 false, .t 22, .t 23] (by kernel_rfl) (by kernel_rfl) (by intro c a d v w h; cases d <;> exact h) ?_
          have HV := Lib.hid (H4.out.below (Below.refl W4.heap.size W4).drew)
          clear H4
          generalize W4.drew = V at *
          iterate 3
            refine wpS_t rfl (v := ?_) (by rfl) (fun W => ?_) ?_
            rotate_left
            · go_simp
              try rfl
            try simp only [Act.put, List.setIfInBounds_toArray, List.set_cons_zero, List.set_cons_succ]
          refine wpS_k rfl (by rfl) (fun K hK => ?_)
          have g := HV.out.cell
          rw [← HMM.out] at g
          go_simp
          refine hK _ _ ⟨by exact HV.out, ?_⟩; clear hK K
          try simp only [Act.put, List.setIfInBounds_toArray, List.set_cons_zero, List.set_cons_succ]
          clear g
          iterate 7
            refine wpS_t rfl (v := ?_) (by rfl) (fun W => ?_) ?_
            rotate_left
            · go_simp
              try rfl
            try simp only [Act.put, List.setIfInBounds_toArray, List.set_cons_zero, List.set_cons_succ]
          iterate 2
            refine wpS_t_skip rfl (by rfl) ?_
            try simp only [Act.put, List.setIfInBounds_toArray, List.set_cons_zero, List.set_cons_succ]
          iterate 3
            refine wpS_t rfl (v := ?_) (by rfl) (fun W => ?_) ?_
            rotate_left
            · go_simp
              try rfl
            try simp only [Act.put, List.setIfInBounds_toArray, List.set_cons_zero, List.set_cons_succ]
          iterate 3
            refine wpS_t rfl (v := ?_) (by rfl) (fun W => ?_) ?_
            rotate_left
            · go_simp
              try rfl
            try simp only [Act.put, List.setIfInBounds_toArray, List.set_cons_zero, List.set_cons_succ]
          refine wpS_load_pair (by exact HV.out) rfl (by rfl) _ (by rfl) z9 0 (by rfl) (y.1, some ⟨g, 0, none⟩, bs.length, c) (fun W hW => hW.r) ?_
          try simp only [Act.put, List.setIfInBounds_toArray, List.set_cons_zero, List.set_cons_succ]
          obtain ⟨b2, o2, ca2, y2, bs2, he2, hr2, hy2, hg2⟩ := pairs_one (HL.out.below HV.out.m.bw) (i := i) (by rw [← HN.out]; exact HLT.out.1)
          simp only [Value.slice.injEq, Option.some.injEq, Addr.mk.injEq, and_true] at he2
          obtain ⟨⟨rfl, rfl⟩, -, rfl⟩ := he2
          have hsame : (y2.1, bs2) = (y.1, bs) := by
            have h := HX.out.2.2.1
            rw [hg2, Option.some.injEq] at h
            exact h
          simp only [Prod.mk.injEq] at hsame
          have hs2 := hsame.1
          obtain rfl : bs2 = bs := hsame.2
          have HY := Lib.hid (And.intro hr2 (And.intro hy2 hs2))
          clear hr2 hy2 hg2 hsame hs2
          refine wpS_k rfl (by rfl) (fun K hK => ?_)
          refine wp_load_pair _ (by rfl) ba (oa + i * 33) (by rfl) y2 HY.out.1 ?_
          refine hK _ _ ⟨by exact HV.out, ?_⟩; clear hK K
          try simp only [Act.put, List.setIfInBounds_toArray, List.set_cons_zero, List.set_cons_succ]
          refine wpS_e rfl (by rfl) (fun K hK => ?_)
          go_simp
          refine (left_pair (y.1, some ⟨g, 0, none⟩, bs2.length, c) y2 HY.out.2.2.symm bs2 (w.heap.size + 1) V HV.out.t HY.out.2.1 (by have := HX.out.2.2.2.1; omega)).mono ?_
          rintro e V1 ⟨rfl, hb⟩
          have HV1 := Lib.hid (HV.out.below hb)
          clear hb HV HY
          refine hK _ _ ?_; clear hK K
          try simp only [Act.put, List.setIfInBounds_toArray, List.set_cons_zero, List.set_cons_succ]
          iterate 2
            refine wpS_t rfl (v := ?_) (by rfl) (fun W => ?_) ?_
            rotate_left
            · go_simp
              try rfl
            try simp only [Act.put, List.setIfInBounds_toArray, List.set_cons_zero, List.set_cons_succ]
          refine wpS_done ?_
          go_wp2_with fail
          obtain ⟨b2, o2, ca2, y2, bs3, he2, hr2, hy2, hg2⟩ := pairs_one (HL.out.below HV1.out.m.bw.drew) (i := i) (by rw [← HN.out]; exact HLT.out.1)
          simp only [Value.slice.injEq, Option.some.injEq, Addr.mk.injEq, and_true] at he2
          obtain ⟨⟨rfl, rfl⟩, -, rfl⟩ := he2
          have hsame : (y2.1, bs3) = (y.1, bs2) := by
            have h := HX.out.2.2.1
            rw [hg2, Option.some.injEq] at h
            exact h
          simp only [Prod.mk.injEq] at hsame
          have hs2 := hsame.1
          obtain rfl : bs3 = bs2 := hsame.2
          have hcell : V1.drew.cell? ⟨ba, oa + i * 33 + 32, none⟩ = some (peV y2) := by
            have := hr2 32 (peV y2) (by rw [encP, List.getElem?_append_right (by rw [length_cellsOf]; omega), length_cellsOf]; rfl)
            exact this
          have HC2 := Lib.hid (And.intro (encP_key hr2) hcell)
          have HY := Lib.hid (And.intro hy2 hs2)
          clear hr2 hy2 hg2 hsame hs2 hcell
          refine wp_region_sched (fun W => W.rangeAt ba (oa + i * 33) (cellsOf y2.1) ∧ W.cell? ⟨ba, oa + i * 33 + 32, none⟩ = some (peV y2)) [.t 0, .t 1, .t 2, .t 3, .t 4, .t 6, .t 7, .t 8, .t 9, .s 5, .e 10 true, .e 11 false, .t 12] (by kernel_rfl) (by kernel_rfl) (by intro c a d v w h; cases d <;> exact h) ?_
          have HV2 := Lib.hid (HV1.out.below (Below.refl V1.heap.size V1).drew)
          clear HV1
          generalize V1.drew = V3 at *
          iterate 9
            refine wpS_t rfl (v := ?_) (by rfl) (fun W => ?_) ?_
            rotate_left
            · go_simp
              try rfl
            try simp only [Act.put, List.setIfInBounds_toArray, List.set_cons_zero, List.set_cons_succ]
          refine wpS_load_sum (by exact HC2.out) rfl (by rfl) _ (by rfl) ba (oa + i * 33) (by rfl) y2.1 (fun V hV => hV.1) ?_
          try simp only [Act.put, List.setIfInBounds_toArray, List.set_cons_zero, List.set_cons_succ]
          refine wpS_k rfl (by rfl) (fun K hK => ?_)
          have g := HC2.out.2
          go_simp
          refine hK _ _ ⟨by exact HC2.out, ?_⟩; clear hK K
          try simp only [Act.put, List.setIfInBounds_toArray, List.set_cons_zero, List.set_cons_succ]
          clear g
          refine wpS_e rfl (by rfl) (fun K hK => ?_)
          go_simp
          refine (rput_z (offB q F) y2.1 bs3 (peV y2) xv (puts [] (P.take i)) V3 HV2.out.m.new HV2.out.m.xs HY.out.1 (by have := HX.out.2.2.2.1; omega) (by have := puts_len P i; have := HLT.out.2; omega)).mono ?_
          rintro e V4 ⟨xv4, rfl, hx4, hb4⟩
          rw [HY.out.2, puts_next HX.out.2.2.1 HRI.out HC.out] at hx4
          have hI9 := HV2.out.setx hb4 hx4
          have gz32 := hI9.cell
          rw [← HMM.out] at gz32
          have H9 := Lib.hid hI9
          clear hx4 hb4 hI9 HV2 HC2 HY
          refine hK _ _ ?_; clear hK K
          try simp only [Act.put, List.setIfInBounds_toArray, List.set_cons_zero, List.set_cons_succ]
          iterate 1
            refine wpS_t rfl (v := ?_) (by rfl) (fun W => ?_) ?_
            rotate_left
            · go_simp
              try rfl
            try simp only [Act.put, List.setIfInBounds_toArray, List.set_cons_zero, List.set_cons_succ]
          refine wpS_done ?_
          go_wp2_with fail
          clear gz32
          refine (tell_bytesG (some ⟨g, 0, none⟩) m c (ones bs3) (w.heap.size + 1) q i F H S V4 H9.out.m.bk (by have h := H9.out.t.lie; rw [← HMM.out] at h; exact h) (fun j hj e => by
            obtain rfl : g = j := by simpa [Value.ownBlock] using hj
            exact H9.out.ng e) (by have := HLT.out.2; omega) (by rw [H9.out.m.len]; have := HLT.out.2; omega) (by rw [ones_len]; have := HX.out.2.2.2.1; omega)).mono ?_
          rintro e W5 ⟨rfl, v', hg5, hblk5, hk5⟩
          have hm5 := H9.out.m.told hg5 hblk5 hk5 (fun j hj => by
            obtain rfl : g = j := by simpa [Value.ownBlock] using hj
            have := H9.out.lt
            omega)
          have H5 := Lib.hid hm5
          clear hg5 hblk5 hk5 hm5 H9
          generalize put F 1 v' = F5 at *
          generalize putK H 1 (H 1 ++ [(Value.slice (some ⟨g, 0, none⟩) m c, .slice none 0 0, i + 1)]) = H55 at *
          generalize putK S 1 (more (H 1) (S 1) (ones bs3)) = S5 at *
          by_cases h54 : i % 5 = 4
          · have t1 := HRF.out.1 h54
            go_wp2_with fail
            refine (mcopy_any W5 p b (i + 1) lm2 H5.out.mp (by have h1 := congrArg List.length H5.out.eq; have h2 := puts_len P (i + 1); rw [prs, List.length_map] at h1; have := HLT.out.2; omega)).mono ?_
            rintro e W6 ⟨p2, b2, rfl, hm6, hp6, hb6, hB6⟩
            have hn6 : MapIn W6 p2 b2 (i + 1) lm2 := hm6.mono (by have h1 := congrArg List.length H5.out.eq; have h2 := puts_len P (i + 1); rw [prs, List.length_map] at h1; omega)
            have H6 := Lib.hid (And.intro (H5.out.copy hn6 hp6 hb6 hB6) (And.intro (H5.out.below hB6) (show b2 ≠ b by have := H5.out.mp.lt.2; omega)))
            clear hm6 hn6 hp6 hb6 hB6 H5 t1
            go_wp2_with (refine wpList_load_sum rfl _ rfl w.heap.size 0 rfl k H6.out.1.rk ?_)
            have hB7 := Alm.al (Below.refl W6.heap.size W6) (.cells #[.int .u8 1, .int .u8 2, .int .u8 3] 5)
            have hr7 := range_new W6 #[.int .u8 1, .int .u8 2, .int .u8 3] 5 _ rfl
            have hb7 : BytesAt (W6.alloc (.cells #[.int .u8 1, .int .u8 2, .int .u8 3] 5)) (.slice (some ⟨W6.heap.size, 0, none⟩) 3 3) [1, 2, 3] := ⟨_, 3, rfl, by decide, by decide, .inr ⟨_, 0, rfl, hr7⟩⟩
            have hM7 := H6.out.2.1.below hB7
            refine (mput_z (offB q F5) k [1, 2, 3] _ _ p b (i + 1) lm2 hM7.mp (by have := HLT.out.2; omega) hb7 hM7.mz hM7.new).mono ?_
            rintro e W8 ⟨rfl, l8, h81, h82, h83, h84⟩
            have hF := (H6.out.1.below hB7).beside hM7.mp h83 hM7.hb H6.out.2.2 hM7.nb
            have HF := Lib.hid hF
            clear hB7 hr7 hb7 hM7 h81 h82 h83 h84 hF H6
            go_wp2_with fail
            rw [HWI.out]
            exact ⟨⟨i + 1, F5, H55, S5, p2, b2, lm2, xv4, HLT.out.1, rfl, rfl, rfl, HF.out⟩, by simp only [intOf, Int.toNat_natCast]; have := HLT.out.1; omega⟩
          · have t1 := HRF.out.2 h54
            go_wp2_with fail
            rw [HWI.out]
            exact ⟨⟨i + 1, F5, H55, S5, p, b, lm2, xv4, HLT.out.1, rfl, rfl, rfl, H5.out⟩, by simp only [intOf, Int.toNat_natCast]; have := HLT.out.1; omega⟩
      · have hjn : i = N := by omega
        subst hjn
        have htk : P.take i = P := List.take_of_length_le (by rw [HN.out]; exact Nat.le_refl _)
        have hO := HB.out
        rw [htk] at hO
        have HE := Lib.hid (And.intro hO hN24)
        have HPB := Lib.hid hO.mp.lt
        clear hO htk HB hN24
        go_wp2_with (refine wpList_load_sum rfl _ rfl w.heap.size 0 rfl k HE.out.1.rk ?_)
        refine (mget_lie k wr p b i lm HE.out.1.mp).mono ?_
        rintro e W1 ⟨v, rfl, hv1, hb1⟩
        have H1 := Lib.hid (And.intro (HE.out.1.below hb1) (And.intro hv1 (And.intro hb1.size HE.out.2)))
        have HOF := Lib.hid (fun j hj => (HE.out.1.bk.lt hj).2 : ∀ j, OfG q F H j → j < wr.heap.size)
        clear hv1 hb1 HE
        go_wp2_with fail
        have hll : lm.length ≤ 24 := by
          have h1 := congrArg List.length H1.out.1.eq
          have h2 := length_puts P []
          rw [prs, List.length_map] at h1
          simp only [List.length_nil] at h2
          have := H1.out.2.2.2; have := HN.out; omega
        refine (mpairs_lie W1 p b i lm H1.out.1.mp (by omega)).mono ?_
        rintro e W2 ⟨vy, cs, rfl, hy2, hcs, hb2⟩
        have hcl : cs.length ≤ 24 := by have h1 := congrArg List.length hcs; rw [prs, List.length_map, List.length_map] at h1; omega
        obtain ⟨av, cv, hv⟩ := H1.out.2.1.form
        rw [ones_len] at hv
        have hvl : (Keys.get (prs lm) k).length ≤ 256 := (getE_bytes H1.out.1.mp k).2
        obtain ⟨B, hB⟩ : ∃ B, B = Keys.get (prs lm) k := ⟨_, rfl⟩
        rw [← hB] at hv hvl
        have hv1 := H1.out.2.1
        rw [← hB, hv] at hv1
        have hM2 := H1.out.1.below hb2
        have hbs0 : w.heap.size + 1 ≤ wr.heap.size := by have h1 := H1.out.1.bk.bq; have h2 := HOF.out q (.inl rfl); omega
        have H2 := Lib.hid (And.intro hM2 (And.intro ((hv1.below hb2).mono hbs0) (And.intro (hy2.mono (Nat.le_trans hbs0 H1.out.2.2.1)) (And.intro hcs (And.intro hcl (And.intro hvl hB))))))
        have HVB := Lib.hid (fun j hj => hv1.lt j hj : ∀ j, (Value.slice av B.length cv).ownBlock = some j → wr.heap.size ≤ j ∧ j < W1.heap.size)
        have HYB := Lib.hid (And.intro (fun j hj => hy2.row.lt j hj : ∀ j, vy.ownBlock = some j → W1.heap.size ≤ j ∧ j < W2.heap.size) (fun c hc j hj => (hy2.each c hc).lt j hj : ∀ c ∈ cs, ∀ j, (peV c.1).ownBlock = some j → W1.heap.size ≤ j ∧ j < W2.heap.size))
        have HWS := Lib.hid (And.intro H1.out.2.2.1 hb2.size)
        have HI24 := Lib.hid H1.out.2.2.2
        subst hv
        obtain ⟨nv, hnv⟩ : ∃ n, n = B.length := ⟨_, rfl⟩
        rw [← hnv] at H2 HVB ⊢
        obtain ⟨ay, cy, hy⟩ := hy2.row.form
        rw [List.length_map] at hy
        subst hy
        obtain ⟨ny, hny⟩ : ∃ n, n = cs.length := ⟨_, rfl⟩
        rw [← hny] at H2 HYB ⊢
        have HNV := Lib.hid (And.intro hnv hny)
        clear hv1 hM2 hy2 hcs hcl hvl hB hb2 hll hnv hny hbs0 H1
        go_wp2_with fail
        refine (tell_bytesG av nv cv (ones B) (w.heap.size + 1) q i F H S W2 H2.out.1.bk H2.out.2.1 (fun j hj e => by have h1 := HOF.out j e; have h2 := HVB.out j hj; omega) (by have := HI24.out; omega) (by rw [H2.out.1.len]; have := HI24.out; omega) (by rw [ones_len]; have := H2.out.2.2.2.2.2.1; have := HNV.out.1; omega)).mono ?_
        rintro e W3 ⟨rfl, v', hg3, hblk3, hk3⟩
        have hno : ∀ j, (j = q ∨ (F 1).ownBlock = some j) → j < wr.heap.size := fun j hj => HOF.out j (by
          rcases hj with rfl | hj
          · exact .inl rfl
          · exact .inr ⟨1, by decide, by decide, .inl hj⟩)
        have hm3 := H2.out.1.told hg3 hblk3 hk3 (fun j hj => by have h1 := HVB.out j hj; have h3 := HPB.out; omega)
        have hvn : ∀ j, (Value.slice av nv cv).ownBlock = some j → j ≠ q ∧ (put F 1 v' 1).ownBlock ≠ some j := fun j hj => by
          have h1 := HVB.out j hj
          refine ⟨fun e => by have := hno j (.inl e); omega, fun e => ?_⟩
          rw [put_self] at e
          rcases hblk3 j e with e | e
          · have := hno j (.inr e); omega
          · have := HWS.out.2; omega
        have hyn : ∀ j, W1.heap.size ≤ j ∧ j < W2.heap.size → ¬ OfG q (put F 1 v') (putK H 1 (H 1 ++ [(Value.slice av nv cv, .slice none 0 0, i + 1)])) j := fun j hj e => by
          have := HWS.out.1
          rcases ofG_told (N := W2.heap.size) (by decide) (by decide) hblk3 e with e | e | e
          · have := HOF.out j e; omega
          · omega
          · have := HVB.out j e; omega
        have H3 := Lib.hid (And.intro hm3 (And.intro (H2.out.2.1.keep hk3 (fun j hj e => by have h1 := hno j e; have h2 := HVB.out j hj; omega)) (And.intro (H2.out.2.2.1.keep hk3 (fun j hj e => by have h1 := hno j e; have h2 := HYB.out.1 j hj; have h3 := HWS.out.1; omega) (fun c hc j hj e => by have h1 := hno j e; have h2 := HYB.out.2 c hc j hj; have h3 := HWS.out.1; omega)) (And.intro hvn hyn))))
        clear hg3 hblk3 hk3 hno hm3 hvn hyn
        generalize put F 1 v' = F3 at *
        generalize putK H 1 (H 1 ++ [(Value.slice av nv cv, .slice none 0 0, i + 1)]) = H33 at *
        generalize putK S 1 (more (H 1) (S 1) (ones B)) = S3 at *
        go_wp2_with fail
        refine (tell_pairsG (.slice ay ny cy) cs (w.heap.size + 1) q (i + 1) F3 H33 S3 W3 H3.out.1.bk H3.out.2.2.1 (fun j hj => H3.out.2.2.2.2 j (HYB.out.1 j hj)) (fun c hc j hj => H3.out.2.2.2.2 j (HYB.out.2 c hc j hj)) (by have := HI24.out; have := H2.out.2.2.2.2.1; have := HNV.out.2; omega) (by rw [H3.out.1.len]; have := HI24.out; have := H2.out.2.2.2.2.1; have := HNV.out.2; omega) (by rw [H3.out.1.oth 6 (by decide)]; decide) (fun c hc => by
          have h1 := ents_short H2.out.1.mp (c.1.1, c.2) (by rw [← H2.out.2.2.2.1]; exact List.mem_map.2 ⟨c, hc, rfl⟩)
          simp only at h1
          omega)).mono ?_
        rintro e W4 ⟨rfl, F4, H44, S4, hg4, hl41, hl46, ho4, _, hk4⟩
        have hE := H3.out.1.ends hk4 H3.out.2.1 H3.out.2.2.2.1 H3.out.2.2.1 (fun j hj => H3.out.2.2.2.2 j (HYB.out.1 j hj)) (fun c hc j hj => H3.out.2.2.2.2 j (HYB.out.2 c hc j hj))
        have H4 := Lib.hid (And.intro hE (And.intro hg4 (And.intro (show i + 1 + cs.length + 1 < 256 by have := HI24.out; have := H2.out.2.2.2.2.1; have := HNV.out.2; omega) (And.intro (show ∀ j, (H44 j).length < 90000 from fun j => by
          have h24 := HI24.out
          have hc24 := H2.out.2.2.2.2.1
          have hny := HNV.out.2
          have h6 := H3.out.1.oth 6 (by decide)
          rw [H3.out.1.len] at hl41
          rw [h6] at hl46
          simp only [List.length_nil] at hl46
          by_cases e1 : j = 1
          · subst e1; omega
          · by_cases e6 : j = 6
            · subst e6; omega
            · rw [ho4 j e1 e6, H3.out.1.oth j e1]; decide) (show ∀ j, j ≠ 1 → j ≠ 5 → j ≠ 6 → H44 j = [] from fun j e1 _ e6 => by rw [ho4 j e1 e6]; exact H3.out.1.oth j e1)))))
        clear hg4 hl41 hl46 ho4 hk4 hE
        have hsh : ∀ x ∈ puts [] P, x.2.length ≤ 256 := by rw [← H3.out.1.eq]; exact ents_short H3.out.1.mp
        have hxl : (puts [] P).length ≤ 24 := by have h2 := length_puts P []; simp only [List.length_nil] at h2; have := HI24.out; have := HN.out; omega
        have HSH := Lib.hid (And.intro hsh (And.intro hxl (And.intro H3.out.1.eq H2.out)))
        clear hsh hxl H3 HYB HVB HOF HPB
        go_wp2_with (refine wpList_load_sum_g (by rfl) _ rfl w.heap.size 0 rfl k H4.out.1.rk ?_)
        refine (rget_any (puts [] P) k xv W4 H4.out.1.xs (fun x hx => by have := HSH.out.1 x hx; omega) (by have := HSH.out.2.1; omega)).mono ?_
        rintro e W5 ⟨vg, rfl, hg5, hb5⟩
        have H5 := Lib.hid (And.intro (H4.out.1.below hb5) (And.intro (H4.out.2.1.below hb5) hg5))
        clear hg5 hb5
        go_wp2_with fail
        have hBB : B = Keys.get (puts [] P) k := by rw [HSH.out.2.2.2.2.2.2.2.2.2, HSH.out.2.2.1]
        have hsb := same_bytes B (Keys.get (puts [] P) k) (.slice av nv cv) vg W5 H5.out.1.vb H5.out.2.2
        rw [decide_eq_true hBB] at hsb
        refine hsb.mono ?_
        clear hsb hBB
        rintro e W6 ⟨rfl, hb6⟩
        have H6 := Lib.hid (And.intro (H5.out.1.below hb6) (H5.out.2.1.below hb6))
        clear hb6 H5
        go_wp2_with fail
        have hcs := HSH.out.2.2.2.2.2.2.1
        have hcx : (cs.map fun c => (c.1.1, c.2)) = puts [] P := by rw [hcs, HSH.out.2.2.1]
        have hsp := same_pairs (puts [] P) (puts [] P) (.slice ay ny cy) xv W6 (H6.out.1.ys.pairs hcx) H6.out.1.xs
        rw [decide_eq_true rfl] at hsp
        refine hsp.mono ?_
        clear hsp hcs hcx
        rintro e W7 ⟨rfl, hb7⟩
        have H7 := Lib.hid (And.intro (H6.out.1.below hb7) (H6.out.2.below hb7))
        clear hb7 H6
        go_wp2_with fail
        obtain ⟨R, hR⟩ : ∃ R, R = rootOf (puts [] P) := ⟨_, rfl⟩
        have hmr := mroot_any W7 p b i lm H7.out.1.mp (by have h1 := congrArg List.length HSH.out.2.2.1; rw [prs, List.length_map] at h1; have := HSH.out.2.1; omega)
        rw [HSH.out.2.2.1, ← hR] at hmr
        refine hmr.mono ?_
        clear hmr
        rintro e W8 ⟨rfl, hb8⟩
        have H8 := Lib.hid (And.intro (H7.out.1.below hb8) (H7.out.2.below hb8))
        clear hb8 H7
        have hrr := rroot_any (puts [] P) xv W8 H8.out.1.xs (fun x hx => by have := HSH.out.1 x hx; omega) (by have := HSH.out.2.1; omega)
        rw [show atH 256 (puts [] P) = R from hR.symm] at hrr
        have HRR := Lib.hid hrr
        clear hrr hR
        go_wp2_with fail
        refine HRR.out.mono ?_
        rintro e W9 ⟨rfl, hb9⟩
        have H9 := Lib.hid (And.intro (H8.out.1.below hb9) (H8.out.2.below hb9))
        clear hb9 H8 HRR
        have heq := eq_sums_same R
        go_wp2_with fail
        refine (apart_bsp (w.heap.size + 1) q (i + 1 + cs.length + 1) F4 H44 S4 W9 H9.out.2 H4.out.2.2.1 H4.out.2.2.2.1 H4.out.2.2.2.2).mono ?_
        rintro e W10 ⟨rfl, hk10⟩
        have HF := Lib.hid (H9.out.1.bw.trans (hk10.below H9.out.1.bw.size (fun j hj => by have := (H9.out.2.lt hj).1; omega)))
        clear hk10 H9 heq
        go_wp2_with fail
        exact bodyPost_ret (results_tmp rfl _ _ _) rfl ⟨rfl, HF.out⟩
end Go.Proofs.YtfmgoehnbaiamaaGreatDoor
