/-
  Walk: maps: Pairs, and that they stand in a row of their own.
-/
import Derived.Test.YtfmgoehnbaiamaaGreatDoorZBI
open Go Go.RowKit Alm
namespace Go.Proofs.YtfmgoehnbaiamaaGreatDoor
open Go.Maps (Keyed)
set_option maxRecDepth 100000 in
theorem clip_pairs_at (w : World) (b o cap : Nat) (P : List Keys.Pr) (h : PairsAt w (.slice (some ⟨b, o, none⟩) P.length cap) P) : Calls Tryz.prog 56 #[.slice (some ⟨b, o, none⟩) P.length cap] w fun e w' => e = .returned (.slice (some ⟨b, o, none⟩) P.length P.length) ∧ PairsAt w (.slice (some ⟨b, o, none⟩) P.length P.length) P ∧ w = w' := by
  obtain ⟨a, cap', cs, he, h1, h2, h3, h4, h5⟩ := h
  simp only [Value.slice.injEq, true_and] at he
  obtain ⟨rfl, rfl⟩ := he
  have hn : PairsAt w (.slice (some ⟨b, o, none⟩) P.length P.length) P := ⟨_, P.length, cs, rfl, Nat.le_refl _, by omega, h3, h4, h5⟩
  have HN := Lib.hid hn; clear hn h3 h4 h5
  obtain ⟨n, hn⟩ : ∃ n, n = P.length := ⟨_, rfl⟩
  rw [← hn] at HN h1 ⊢
  clear hn
  have k1 : (n : Int) ≤ (cap : Int) := by omega
  unfold maxLen at h2
  go_enter Tryz.func56, Tryz.ntmps56
  go_wp2_with fail
  exact bodyPost_ret (results_tmp rfl _ _ _) rfl ⟨rfl, HN.out, rfl⟩
set_option maxRecDepth 100000 in
set_option maxHeartbeats 2000000 in
theorem mpairs_at (w : World) (p b n : Nat) (l : List Ent) (h : MapIn w p b n l) (hn : l.length < 100000) : Calls Tryz.prog 15 #[.pointer (some ⟨p, 0, none⟩)] w fun e w' => ∃ b cap, e = .returned (.slice (some ⟨b, 0, none⟩) (prs l).length cap) ∧ PairsAt w' (.slice (some ⟨b, 0, none⟩) (prs l).length cap) (prs l) ∧ Below w.heap.size w w' := by
  obtain ⟨i0, z0p, hi0, hz0, hs0, hb0, hzs0⟩ := info_pair
  have hc := h.cell
  have hsize : Maps.size (encD l) = l.length := by simp [Maps.size, encD]
  have HI := Lib.hid (And.intro hi0 (And.intro hz0 (And.intro hs0 (And.intro hb0 hzs0))))
  have HM := Lib.hid h
  have HZ := Lib.hid hsize
  have HL := Lib.hid hn
  clear hi0 hz0 hs0 hb0 hzs0 h hsize hn
  obtain ⟨N, hN⟩ : ∃ N, N = l.length := ⟨_, rfl⟩
  rw [← hN] at HZ HL
  have HN := Lib.hid hN
  clear hN
  go_enter Tryz.func15, Tryz.ntmps15
  go_wp2_with (first
    | (go_at_call 48; refine (mnone_live _ p b hc).mono ?_; rintro e w1 ⟨rfl, rfl⟩)
    | (at_len; refine wpList_len_own _ rfl _ 91 rfl 24 39 Tryz.underlying91 rEl b n (encD l) rfl HM.out.map ?_; rw [HZ.out])
    | (at_make; refine wpList_make_own _ rfl _ _ _ rfl w.heap.size 41 i0 z0p 33 Tryz.underlying22 HI.out.1 HI.out.2.1 HI.out.2.2.1 .i64 .i64 (N : Int) N rfl rfl rfl (by rw [HI.out.2.2.2.1]; have := HL.out; omega) (by unfold maxLen; have := HL.out; omega) (Nat.le_refl _) ?_; intro w2 ho2 hg2; have HM2 := Lib.hid (HM.out.keep (X := fun _ => False) (Keeps.of_grown hg2 (fun k hk => by cases hk)) (fun h => h) (fun h => h) (fun _ _ _ _ h => h)); have hc2 := HM2.out.cell; have HB2 := Lib.hid (Keeps.below (B := w.heap.size) (Keeps.of_grown (X := fun _ => False) hg2 (fun k hk => by cases hk)) (Nat.le_refl _) (fun _ h => h.elim)); have HO2 := Lib.hid ho2; clear hg2 hc ho2)
    | (at_range; refine wpList_range_own _ rfl _ 91 rfl 24 39 keyLaw Tryz.underlying91 rEl b n (encD l) rfl HM2.out.map ?_; intro w3 hrg3 hg3 hs3))
  have k3 : Keeps (fun _ => False) w2 w3 := Keeps.of_grown hg3 (fun k hk => by cases hk)
  have hM3 : MapIn w3 p b n l := HM2.out.keep k3 (fun h => h) (fun h => h) (fun _ _ _ _ h => h)
  have hB3 : Below w.heap.size w w3 := HB2.out.trans (k3.below HB2.out.size (fun _ h => h.elim))
  have hO3 := k3.owns HO2.out (fun _ _ h => h)
  rw [HZ.out] at hrg3
  have hq : w.heap.size < w2.heap.size := own_lt HO2.out rfl
  have hbq : b < w2.heap.size := HM2.out.lt.2
  have hbw : b < w.heap.size := HM.out.lt.2
  have H3 := Lib.hid (And.intro hM3 (And.intro hB3 (And.intro hO3 hrg3)))
  have HQ := Lib.hid (And.intro hq (And.intro hbq hbw))
  clear hrg3 hg3 hs3 k3 hM3 hB3 hO3 hq hbq hbw HM2 hc2 HB2 HO2
  generalize w2.heap.size = q at *
  go_frame
  go_loopw [3] (fun s W => ∃ (left : Lit → Bool) (cnt k : Nat) (cs : List (PE × List UInt8)), s = .slice (some ⟨w.heap.size, 0, none⟩) k N ∧ cs.length = k ∧ k + cnt ≤ N ∧ Coll l left cs ∧ (∀ c ∈ cs, BytesAt W (peV c.1) c.2 ∧ ∀ i, (peV c.1).ownBlock = some i → w.heap.size < i) ∧ MapIn W p b n l ∧ Below w.heap.size w W ∧
    W.ownsRow w.heap.size 41 33 (.slice (some ⟨w.heap.size, 0, none⟩) k N) k (cellsP (cs.map Prod.fst)) ∧ W.ranges Tryz.prog 24 rEl b q n (encD l) left cnt) (fun _ W => W.rangeLeft b q)
  case atStart => exact ⟨_, N, 0, [], rfl, rfl, by omega, Coll.start l, (fun _ h => (List.not_mem_nil h).elim), H3.out.1, H3.out.2.1, H3.out.2.2.1, H3.out.2.2.2⟩
  case round =>
    clear H3
    obtain ⟨left, cnt, k, cs, rfl, hk, hkc, hcoll, hbs, hM, hB, hO, hrg⟩ := hrel
    have HK := Lib.hid (And.intro hk (And.intro hkc hcoll))
    have HR := Lib.hid (And.intro hbs (And.intro hM (And.intro hB (And.intro hO hrg))))
    clear hk hkc hcoll hbs hM hB hO hrg
    go_wp2_with (at_next; refine wpList_next_ranges _ rfl _ rfl 24 keyLaw rEl (fun x : Sum => sv x) (fun c : Option Addr × Nat × Nat => Value.slice c.1 c.2.1 c.2.2) (fun key kl h => by obtain ⟨x, hx, _⟩ := keyOf_inv h; exact ⟨x, hx⟩) (fun v y h => rEl_inv h) b q n _ left cnt rfl HR.out.2.2.2.2 ?_ ?_)
    case refine_1 =>
      intro h0 hl0
      obtain ⟨hbs, hM, hB, hO, hrg⟩ := HR.out
      obtain ⟨hk, hkc, hcoll⟩ := HK.out
      rcases hO.2 with ⟨hv, _⟩ | ⟨g', cap', cur, hv, hbase, hg, hnc, hcm, hsz, htk⟩
      · cases hv
      simp only [Value.slice.injEq, Option.some.injEq, Addr.mk.injEq, and_true, true_and] at hv
      obtain ⟨rfl, rfl⟩ := hv
      have hlen : (cs.map Prod.fst).length = k := by rw [List.length_map, hk]
      have hsort := sort_any wr w.heap.size N (cs.map Prod.fst) cur _ hg (by rw [hlen, Nat.mul_comm]; exact htk) (by rw [hlen]; exact hnc) hcm (by rw [hsz, Nat.mul_comm]) (by rw [hlen]; have := HL.out; omega)
      rw [hlen] at hsort
      have HSO := Lib.hid hsort
      have HX := Lib.hid (And.intro hl0 (And.intro hnc hcm))
      clear h0 hl0 hbs hM hB hO hrg hk hkc hcoll hbase hg hnc hcm hsz htk hlen hsort
      go_wp2_with fail
      refine HSO.out.mono ?_
      rintro e w5 ⟨rfl, l', hperm, hsorted, hr5, hk5, hlt5⟩
      obtain ⟨hbs, hM, hB, hO, hrg⟩ := HR.out
      obtain ⟨hk, hkc, hcoll⟩ := HK.out
      obtain ⟨cs', hp', rfl⟩ := perm_of_map Prod.fst hperm cs rfl
      have hdone := hcoll.done HX.out.1 hM.rise hp' (by
        have := hsorted
        rw [List.pairwise_map] at this
        exact this)
      have hlen : (prs l).length = k := by rw [← hdone, List.length_map, hp'.length_eq, hk]
      have hk5' : Keeps (fun i => i = w.heap.size) w5 w5 := Keeps.refl _ _
      have hbs5 : ∀ c ∈ cs', BytesAt w5 (peV c.1) c.2 := fun c hc => by
        have hc0 := hp'.mem_iff.1 hc
        obtain ⟨hb0, hb1⟩ := hbs c hc0
        exact bytes_keep hk5 hb0 (fun i hi hx => by have := hb1 i hi; omega)
      have hP : PairsAt w5 (.slice (some ⟨w.heap.size, 0, none⟩) (prs l).length N) (prs l) := ⟨_, N, cs', rfl, by rw [hlen]; exact HX.out.2.1, HX.out.2.2, hdone, hbs5, .inr ⟨_, 0, rfl, hr5⟩⟩
      have hB5 : Below w.heap.size w w5 := hB.trans (hk5.below hB.size (fun k hk => by rw [hk]; exact Nat.le_refl _))
      have H5 := Lib.hid (And.intro hP (And.intro hB5 hlen.symm))
      clear hP hB5 hbs5 hk5' hlen hdone hp' hbs hM hB hO hrg hk hkc hcoll hperm hsorted hr5 hk5 hlt5 HSO HX HK HR
      have hkl := H5.out.2.2
      rw [hkl]
      go_wp2_with (go_at_call 56; refine (clip_pairs_at w5 _ _ _ (prs l) H5.out.1).mono ?_; rintro e w6 ⟨rfl, hP6, rfl⟩; have H6 := Lib.hid hP6; clear hP6)
      refine bodyPost_ret (results_tmp rfl _ _ _) rfl ?_
      exact ⟨_, _, rfl, H6.out, H5.out.2.1⟩
    case refine_2 =>
      intro x ad m c kl y ps w4 cnt4 hkey hleft hR hat hrg4 hlt4 hg4 hs4 hen
      obtain ⟨x', hx', rfl⟩ := keyOf_inv hkey
      obtain rfl : x = x' := sv_inj hx'
      have hy : y = .held (.slice ad m c) := by
        simp only [rEl, Option.some.injEq, Prod.mk.injEq] at hR
        exact hR.1.symm
      subst hy
      obtain ⟨e0, he0, rfl, hev⟩ := at_found hat
      obtain ⟨hbs, hM, hB, hO, hrg⟩ := HR.out
      obtain ⟨hk, hkc, hcoll⟩ := HK.out
      have kk : Keeps (fun i => i = q) wr w4 := Keeps.of_grown hg4 (fun k hk => by cases hk; rfl)
      have hon := on_iter hrg
      have hM4 := hM.maps hon kk (by have := HQ.out; omega)
      have hv4 : BytesAt w4 (.slice ad m c) e0.2.2 := by rw [← hev]; exact (hM4.vals e0 he0).1
      have hlen4 : e0.2.2.length ≤ 256 := (hM4.vals e0 he0).2.2
      have hbs4 : ∀ c ∈ cs, BytesAt w4 (peV c.1) c.2 ∧ ∀ i, (peV c.1).ownBlock = some i → w.heap.size < i := fun c hc => ⟨bytes_maps hon kk (hbs c hc).1, (hbs c hc).2⟩
      have hB4 : Below w.heap.size w w4 := hB.trans (kk.below hB.size (fun k hk => by rw [hk]; exact Nat.le_of_lt HQ.out.1))
      have hO4 := kk.owns hO (fun k hk hx => by simp only [Value.ownBlock, Option.some.injEq] at hk; have := HQ.out; omega)
      have hmem : (e0.1, e0.2.2) ∈ prs l := List.mem_map.2 ⟨e0, he0, rfl⟩
      have hle := hrg4.left_eq
      have H4 := Lib.hid (And.intro hM4 (And.intro hv4 (And.intro hlen4 (And.intro hbs4 (And.intro hB4 (And.intro hO4 hrg4))))))
      have HY := Lib.hid (And.intro hleft (And.intro hmem (And.intro hlt4 (And.intro hrg.left_eq hs4))))
      have hsz4 : w.heap.size < w4.heap.size := own_lt hO4 rfl
      have HS4 := Lib.hid hsz4
      clear hkey hleft hR hat hrg4 hlt4 hg4 hs4 hev hx' hbs hM hB hO hrg hk hkc hcoll kk hon hM4 hv4 hlen4 hbs4 hB4 hO4 hmem hle HR hsz4
      generalize e0.2.2 = bs at *
      generalize e0.1 = x at *
      clear he0 e0
      go_wp2_with (refine wpList_var_sum (by rfl) rfl _ _ rfl x rfl rfl ?_; intro W6 hb6 hr6 _; have H6 := Lib.hid (And.intro hb6 hr6); clear hb6 hr6 hen)
      obtain ⟨z, hz⟩ : ∃ z, z = w4.heap.size := ⟨_, rfl⟩
      have hP : PR w p b n q z l N k cs (fun z => left z && !z.sameKey (.string x.toList)) cnt4 x (.slice ad m c) bs W6 := by
        obtain ⟨h1, h2, h3, h4, h5, h6, h7⟩ := H4.out
        have hb := H6.out.1
        have kk : Keeps (fun _ => False) w4 W6 := Keeps.of_below hb
        exact ⟨h1.below hb, bytes_below h2 hb (Nat.le_refl _), fun c hc => ⟨bytes_below (h4 c hc).1 hb (Nat.le_refl _), (h4 c hc).2⟩, h5.trans (hb.mono h5.size), kk.owns h6 (fun _ _ h => h), h7.kept (grown_below hb) (by simp) (by simp), by rw [hz]; exact H6.out.2, Nat.lt_of_lt_of_le HS4.out hb.size⟩
      have HP := Lib.hid hP.drew
      have HBL := Lib.hid H4.out.2.2.1
      rw [← hz]
      clear hP H4 H6 hz
      obtain ⟨lf, hlf⟩ : ∃ f : Lit → Bool, f = fun z => left z && !z.sameKey (.string x.toList) := ⟨_, rfl⟩
      rw [← hlf] at HP
      have HLF := Lib.hid hlf
      clear hlf
      refine wp_region_sched (fun V => PR w p b n q z l N k cs lf cnt4 x (.slice ad m c) bs V) [.t 0, .t 2, .s 1, .e 3 true, .e 4 true, .t 5, .e 6 false, .e 7 false, .t 8] (by kernel_rfl) (by kernel_rfl) (by intro c a d v w h; cases d <;> exact h) ?_
      change wpS _ _ _ _ _ _ _ (World.drew _)
      generalize W6.drew = V at *
      iterate 2
        refine wpS_t rfl (v := ?_) (by rfl) (fun W => ?_) ?_
        rotate_left
        · go_simp
          try rfl
        try simp only [Act.put, List.setIfInBounds_toArray, List.set_cons_zero, List.set_cons_succ]
      refine wpS_load_sum HP.out rfl (by rfl) _ (by rfl) z 0 (by rfl) x (fun W hW => hW.key) ?_
      try simp only [Act.put, List.setIfInBounds_toArray, List.set_cons_zero, List.set_cons_succ]
      refine wpS_k rfl (by rfl) (fun K hK => ?_)
      go_simp
      refine (clone_bytes V _ bs HP.out.val (by have := HBL.out; omega)).mono ?_
      rintro e V1 ⟨v1, rfl, hn1, hb1⟩
      have HP1 := Lib.hid (HP.out.next hb1)
      have HN1 := Lib.hid (show BytesNew V1 V.heap.size v1 bs from hn1)
      have hlv := HP.out.lt
      have HLV := Lib.hid hlv
      clear hn1 hb1 HP hlv
      refine hK _ _ ⟨by exact HP1.out, ?_⟩; clear hK K
      try simp only [Act.put, List.setIfInBounds_toArray, List.set_cons_zero, List.set_cons_succ]
      refine wpS_k rfl (by rfl) (fun K hK => ?_)
      go_simp
      refine (clip_bytes V1 V.heap.size v1 bs HN1.out).mono ?_
      rintro e V2 ⟨v2, rfl, hn2, rfl⟩
      obtain ⟨⟨ad2, cap2, rfl, h21, h22, h23⟩, h24⟩ := hn2
      have HN2 := Lib.hid (And.intro (show BytesAt V1 (peV (x, ad2, bs.length, cap2)) bs from ⟨ad2, cap2, rfl, h21, h22, h23⟩) (show ∀ i, (peV (x, ad2, bs.length, cap2)).ownBlock = some i → w.heap.size < i from fun i hi => Nat.lt_of_lt_of_le HLV.out (h24 i hi).1))
      clear h21 h22 h23 h24 HN1 HLV
      refine hK _ _ ⟨by exact HP1.out, ?_⟩; clear hK K
      try simp only [Act.put, List.setIfInBounds_toArray, List.set_cons_zero, List.set_cons_succ]
      refine wpS_t rfl (v := .agg (encP (x, ad2, bs.length, cap2)).toArray) (by rfl) (fun W => exec_build_pair _ rfl (x, ad2, bs.length, cap2) (by rfl) W) ?_
      try simp only [Act.put, List.setIfInBounds_toArray, List.set_cons_zero, List.set_cons_succ]
      obtain ⟨y, hy⟩ : ∃ y : PE, y = (x, ad2, bs.length, cap2) := ⟨_, rfl⟩
      have hyx : y.1 = x := by rw [hy]
      rw [← hy] at HN2 ⊢
      refine wpS_e rfl (by rfl) (fun K hK => ?_)
      refine wp_build_pairs 1 _ (by rfl) [y] rfl (by omega) (by omega) (by rfl) ?_
      have HP2 := Lib.hid (And.intro (HP1.out.next (al (Below.refl _ _) (.cells (cellsP [y]).toArray 41))) (And.intro (bytes_below HN2.out.1 (al (Below.refl _ _) (.cells (cellsP [y]).toArray 41)) (Nat.le_refl _)) (show (V1.alloc (.cells (cellsP [y]).toArray 41)).rangeAt V1.heap.size 0 (encP y) by rw [← cellsP_one]; exact range_new _ _ _ _ rfl)))
      have HYX := Lib.hid (And.intro hy hyx)
      have HN3 := Lib.hid HN2.out.2
      have hlt1 := HP1.out.lt
      have HLT := Lib.hid hlt1
      clear HP1 HN2 hy hyx hlt1
      refine hK _ _ ?_; clear hK K
      try simp only [Act.put, List.setIfInBounds_toArray, List.set_cons_zero, List.set_cons_succ]
      generalize V1.alloc (.cells (cellsP [y]).toArray 41) = V3 at *
      refine wpS_e rfl (by rfl) (fun K hK => ?_)
      refine wp_append_pair_fits _ _ (by rfl) w.heap.size w.heap.size k N (cs.map Prod.fst) (by rfl) HP2.out.1.own V1.heap.size 0 1 y (by rfl) HP2.out.2.2 (by have := HK.out.2.1; have := HY.out.2.2.1; omega) ?_
      intro W7 ho7 hg7
      have kk : Keeps (fun i => i = w.heap.size) V3 W7 := Keeps.of_grown hg7 (fun k hk => by cases hk; rfl)
      have hcs7 : ∀ c ∈ cs ++ [(y, bs)], BytesAt W7 (peV c.1) c.2 ∧ ∀ i, (peV c.1).ownBlock = some i → w.heap.size < i := fun c hc => by
        rcases List.mem_append.1 hc with hc | hc
        · have := HP2.out.1.each c hc
          exact ⟨bytes_keep kk this.1 (fun i hi hx => by have := this.2 i hi; omega), this.2⟩
        · rw [List.mem_singleton] at hc
          subst hc
          exact ⟨bytes_keep kk HP2.out.2.1 (fun i hi hx => by have := HN3.out i hi; omega), HN3.out⟩
      have hM7 : MapIn W7 p b n l := HP2.out.1.map.keep kk (by have := HM.out.lt.1; omega) (by have := HQ.out.2.2; omega) (fun e he k hk hx => by
        have h := HM.out.vals e he
        have := bytes_lt h.1 h.2.1 hk
        omega)
      have hB7 : Below w.heap.size w W7 := HP2.out.1.below.trans (kk.below HP2.out.1.below.size (fun k hk => by rw [hk]; exact Nat.le_refl _))
      have hR7 := HP2.out.1.rng.kept hg7 (by simp; have := HQ.out.2.2; omega) (by simp; have := HQ.out.1; omega)
      rw [HLF.out] at hR7
      have hle := hR7.left_eq
      have H7 := Lib.hid (And.intro hcs7 (And.intro hM7 (And.intro hB7 (And.intro ho7 (And.intro hR7 hle)))))
      clear kk hcs7 hM7 hB7 hR7 hle hg7 ho7
      refine hK _ _ ?_; clear hK K
      try simp only [Act.put, List.setIfInBounds_toArray, List.set_cons_zero, List.set_cons_succ]
      iterate 1
        refine wpS_t rfl (v := ?_) (by rfl) (fun W => ?_) ?_
        rotate_left
        · go_simp
          try rfl
        try simp only [Act.put, List.setIfInBounds_toArray, List.set_cons_zero, List.set_cons_succ]
      refine wpS_done ?_
      go_wp2_with fail
      refine ⟨⟨_, cnt4, k + 1, cs ++ [(y, bs)], rfl, by rw [List.length_append, HK.out.1]; rfl, by have := HK.out.2.1; have := HY.out.2.2.1; omega, HK.out.2.2.step HY.out.1 HYX.out.2 HY.out.2.1, H7.out.1, H7.out.2.1, H7.out.2.2.1, by rw [List.map_append]; exact H7.out.2.2.2.1, H7.out.2.2.2.2.1⟩, ?_⟩
      rw [H7.out.2.2.2.2.2, HY.out.2.2.2.1]
      exact HY.out.2.2.1
end Go.Proofs.YtfmgoehnbaiamaaGreatDoor
