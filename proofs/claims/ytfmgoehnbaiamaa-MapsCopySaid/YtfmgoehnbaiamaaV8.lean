/-
  Walk: almonerlaw15.MapsCopy.
-/
import Derived.Test.YtfmgoehnbaiamaaV1
import Derived.Test.YtfmgoehnbaiamaaV5
open Go Go.RowKit Alm
namespace Go.Proofs.Ytfmgoehnbaiamaa
/-- What MapsCopy has in hand. -/
structure OC (w W : World) (L : List (Value × List Keys.Pr)) (p b n : Nat) (l : List Ent) (p2 b2 n2 : Nat) (l2 : List Ent) : Prop where
  bw : Below w.heap.size w W
  ls : ∀ q ∈ L, PairsAt W q.1 q.2
  map : MapIn W p b n l
  m2 : MapIn W p2 b2 n2 l2
  hb : w.heap.size ≤ b
  hb2 : w.heap.size ≤ b2
  ne : b ≠ b2
theorem OC.below {w W W' : World} {L : List (Value × List Keys.Pr)} {p b n : Nat} {l : List Ent} {p2 b2 n2 : Nat} {l2 : List Ent} (h : OC w W L p b n l p2 b2 n2 l2) (hb : Below W.heap.size W W') : OC w W' L p b n l p2 b2 n2 l2 :=
  ⟨h.bw.trans (hb.mono h.bw.size), fun q hq => (h.ls q hq).below hb, h.map.below hb, h.m2.below hb, h.hb, h.hb2, h.ne⟩
theorem OC.put2 {w W W' : World} {L : List (Value × List Keys.Pr)} {p b n : Nat} {l : List Ent} {p2 b2 n2 n3 : Nat} {l2 l3 : List Ent} (h : OC w W L p b n l p2 b2 n2 l2) (hm : MapIn W' p2 b2 n3 l3) (hk : Keeps (fun i => i = b2) W W') : OC w W' L p b n l p2 b2 n3 l3 :=
  ⟨h.bw.trans (hk.below h.bw.size (fun k hk => by have := h.hb2; omega)), fun q hq => (h.ls q hq).maps h.m2.on hk, h.map.maps h.m2.on hk h.ne, hm, h.hb, h.hb2, h.ne⟩
theorem OC.put1 {w W W' : World} {L : List (Value × List Keys.Pr)} {p b n n3 : Nat} {l l3 : List Ent} {p2 b2 n2 : Nat} {l2 : List Ent} (h : OC w W L p b n l p2 b2 n2 l2) (hm : MapIn W' p b n3 l3) (hk : Keeps (fun i => i = b) W W') : OC w W' L p b n3 l3 p2 b2 n2 l2 :=
  ⟨h.bw.trans (hk.below h.bw.size (fun k hk => by have := h.hb; omega)), fun q hq => (h.ls q hq).maps h.map.on hk, hm, h.m2.maps h.map.on hk (fun e => h.ne e.symm), h.hb, h.hb2, h.ne⟩
theorem ents_len {l : List Ent} {P Q : List Keys.Pr} (h : prs l = puts P Q) {m : Nat} (hm : P.length + Q.length ≤ m) : l.length ≤ m := by
  have h1 := congrArg List.length h
  have h2 := length_puts Q P
  simp [prs] at h1
  omega
set_option maxRecDepth 100000 in
set_option maxHeartbeats 4000000 in
theorem mapsCopy_any (P A B : List Keys.Pr) (v va vb : Value) (w : World) (hv : PairsAt w v P) (hva : PairsAt w va A) (hvb : PairsAt w vb B) : Calls Try.prog 8 #[v, va, vb] w fun e w' => e = .returned (.bool true) ∧ Below w.heap.size w w' := by
  have H0 := Lib.hid (And.intro hv (And.intro hva hvb))
  obtain ⟨a0, c0, rfl, h1, h2⟩ := pairs_form hv
  obtain ⟨a1, c1_, rfl, h1o, h2o⟩ := pairs_form hva
  obtain ⟨a2, c2_, rfl, h1p, h2p⟩ := pairs_form hvb
  obtain ⟨N, hN⟩ : ∃ N, N = P.length := ⟨_, rfl⟩
  obtain ⟨M, hM⟩ : ∃ M, M = A.length := ⟨_, rfl⟩
  obtain ⟨K, hK⟩ : ∃ K, K = B.length := ⟨_, rfl⟩
  rw [← hN, ← hM, ← hK] at H0 ⊢
  have HN := Lib.hid (And.intro hN (And.intro hM hK))
  clear hN hM hK h2 hv hva hvb h1 h1o h2o h1p h2p
  go_enter Try.func8, Try.ntmps8
  go_wp2_with fail
  refine (great15_any P _ w H0.out.1).mono ?_
  rintro e w2 ⟨r, rfl, hg, hb⟩
  have Hw2 := Lib.hid (And.intro (hb) (And.intro (H0.out.1.below hb) (And.intro (H0.out.2.1.below hb) (H0.out.2.2.below hb))))
  have HG := Lib.hid hg
  clear hb hg H0
  cases r with
  | true =>
    go_wp2_with fail
    refine (alive15_any w2).mono ?_
    rintro e w9 ⟨rfl, hb⟩
    have HB := Lib.hid (Hw2.out.1.trans (hb.mono Hw2.out.1.size))
    clear hb Hw2
    go_wp2_with fail
    exact bodyPost_ret (results_tmp rfl _ _ _) rfl ⟨rfl, HB.out⟩
  | false =>
    have HLP := Lib.hid (HG.out rfl)
    clear HG
    go_wp2_with fail
    refine (great15_any A _ w2 Hw2.out.2.2.1).mono ?_
    rintro e w3 ⟨r, rfl, hg, hb⟩
    have Hw3 := Lib.hid (And.intro (Hw2.out.1.trans (hb.mono Hw2.out.1.size)) (And.intro (Hw2.out.2.1.below hb) (And.intro (Hw2.out.2.2.1.below hb) (Hw2.out.2.2.2.below hb))))
    have HG := Lib.hid hg
    clear hb hg Hw2
    cases r with
    | true =>
      go_wp2_with fail
      refine (alive15_any w3).mono ?_
      rintro e w9 ⟨rfl, hb⟩
      have HB := Lib.hid (Hw3.out.1.trans (hb.mono Hw3.out.1.size))
      clear hb Hw3
      go_wp2_with fail
      exact bodyPost_ret (results_tmp rfl _ _ _) rfl ⟨rfl, HB.out⟩
    | false =>
      have HLA := Lib.hid (HG.out rfl)
      clear HG
      go_wp2_with fail
      refine (great15_any B _ w3 Hw3.out.2.2.2).mono ?_
      rintro e w4 ⟨r, rfl, hg, hb⟩
      have Hw4 := Lib.hid (And.intro (Hw3.out.1.trans (hb.mono Hw3.out.1.size)) (And.intro (Hw3.out.2.1.below hb) (And.intro (Hw3.out.2.2.1.below hb) (Hw3.out.2.2.2.below hb))))
      have HG := Lib.hid hg
      clear hb hg Hw3
      cases r with
      | true =>
        go_wp2_with fail
        refine (alive15_any w4).mono ?_
        rintro e w9 ⟨rfl, hb⟩
        have HB := Lib.hid (Hw4.out.1.trans (hb.mono Hw4.out.1.size))
        clear hb Hw4
        go_wp2_with fail
        exact bodyPost_ret (results_tmp rfl _ _ _) rfl ⟨rfl, HB.out⟩
      | false =>
        have HLB := Lib.hid (HG.out rfl)
        clear HG
        have n0 : N ≤ 24 := by rw [HN.out.1]; exact HLP.out
        have n1 : M ≤ 24 := by rw [HN.out.2.1]; exact HLA.out
        have n2 : K ≤ 24 := by rw [HN.out.2.2]; exact HLB.out
        have HNN := Lib.hid (And.intro n0 (And.intro n1 n2))
        by_cases h30 : 30 < N + M + K
        · have d1 : decide (30 < N + M + K) = true := by simpa using h30
          have d1' : decide ((30 : Int) < (N : Int) + (M : Int) + (K : Int)) = true := by simp; omega
          go_wp2_with fail
          refine (alive15_any w4).mono ?_
          rintro e w9 ⟨rfl, hb⟩
          have HB := Lib.hid (Hw4.out.1.trans (hb.mono Hw4.out.1.size))
          clear hb Hw4
          go_wp2_with fail
          exact bodyPost_ret (results_tmp rfl _ _ _) rfl ⟨rfl, HB.out⟩
        · have d1 : decide (30 < N + M + K) = false := by simpa using h30
          have d1' : decide ((30 : Int) < (N : Int) + (M : Int) + (K : Int)) = false := by simp; omega
          go_wp2_with fail
          clear d1 d1' h30 n0 n1 n2
          have HOF := Lib.hid (mof_any P _ w4 Hw4.out.2.1 (by have := HLP.out; omega))
          rw [← HN.out.1] at HOF
          refine HOF.out.mono ?_
          rintro e w5 ⟨p, b, l, rfl, hm, hp, g1, g2, g3, hb⟩
          have hl24 : l.length ≤ 24 := ents_len hp (by have := HLP.out; simpa using this)
          have H5 := Lib.hid (And.intro (Hw4.out.1.trans (hb.mono Hw4.out.1.size)) (And.intro (Hw4.out.2.1.below hb) (And.intro (Hw4.out.2.2.1.below hb) (And.intro (Hw4.out.2.2.2.below hb) (And.intro hm (And.intro hp (And.intro hl24 (Nat.le_trans Hw4.out.1.size g2))))))))
          clear hb Hw4 HOF hm hp g1 g2 g3 hl24
          go_wp2_with fail
          refine (mcopy_any w5 p b N l H5.out.2.2.2.2.1 (by have := H5.out.2.2.2.2.2.2.1; omega)).mono ?_
          rintro e w6 ⟨p2, b2, rfl, hm2, g1, g2, hb⟩
          have hne : b ≠ b2 := by have := H5.out.2.2.2.2.1.lt.2; omega
          have H6 := Lib.hid (show OC w w6 [(.slice a0 N c0, P), (.slice a1 M c1_, A), (.slice a2 K c2_, B)] p b N l p2 b2 l.length l from
            ⟨H5.out.1.trans (hb.mono H5.out.1.size), fun q hq => by
              simp only [List.mem_cons, List.not_mem_nil, or_false] at hq
              rcases hq with rfl | rfl | rfl
              · exact H5.out.2.1.below hb
              · exact H5.out.2.2.1.below hb
              · exact H5.out.2.2.2.1.below hb, H5.out.2.2.2.2.1.below hb, hm2, H5.out.2.2.2.2.2.2.2, Nat.le_trans H5.out.1.size g2, hne⟩)
          have HPL := Lib.hid (And.intro H5.out.2.2.2.2.2.1 H5.out.2.2.2.2.2.2.1)
          clear hb H5 hm2 g1 g2 hne
          obtain ⟨rt, hrt⟩ : ∃ r, r = rootOf (prs l) := ⟨_, rfl⟩
          have HRT := Lib.hid hrt
          clear hrt
          have hes := eq_sums_same rt
          go_wp2_with fail
          refine (mpairs_any w6 p2 b2 _ l H6.out.m2 (by have := HPL.out.2; omega)).mono ?_
          rintro e w7 ⟨vq, rfl, hP, hb⟩
          obtain ⟨aq, cq, rfl, _, _⟩ := pairs_form hP
          have H7 := Lib.hid (And.intro (H6.out.below hb) hP)
          clear H6 hb hP
          obtain ⟨L, hL⟩ : ∃ L, L = (prs l).length := ⟨_, rfl⟩
          rw [← hL] at H7 ⊢
          have HL := Lib.hid hL
          clear hL
          go_wp2_with fail
          refine (mpairs_any w7 p b _ l H7.out.1.map (by have := HPL.out.2; omega)).mono ?_
          rintro e w8 ⟨vq2, rfl, hP, hb⟩
          obtain ⟨aq2, cq2, rfl, _, _⟩ := pairs_form hP
          have H8 := Lib.hid (And.intro (H7.out.1.below hb) (And.intro (H7.out.2.below hb) hP))
          clear H7 hb hP
          rw [← HL.out] at H8 ⊢
          go_wp2_with fail
          refine (same_pairs (prs l) (prs l) _ _ w8 H8.out.2.1 H8.out.2.2).mono ?_
          rintro e w9 ⟨rfl, hb⟩
          rw [decide_eq_true rfl]
          have H9 := Lib.hid (H8.out.1.below hb)
          clear H8 hb
          go_wp2_with fail
          have HX1 := Lib.hid (mroot_any w9 p2 b2 _ l H9.out.m2 (by have := HPL.out.2; omega))
          rw [← HRT.out] at HX1
          refine HX1.out.mono ?_
          rintro e w10 ⟨rfl, hb⟩
          have H10 := Lib.hid (H9.out.below hb)
          clear H9 hb HX1
          go_wp2_with fail
          have HX1 := Lib.hid (mroot_any w10 p b N l H10.out.map (by have := HPL.out.2; omega))
          rw [← HRT.out] at HX1
          refine HX1.out.mono ?_
          rintro e w11 ⟨rfl, hb⟩
          have H11 := Lib.hid (H10.out.below hb)
          clear H10 hb HX1
          go_wp2_with fail
          go_loopw [10] (fun iv W => ∃ (j : Nat) (l3 : List Ent), j ≤ M ∧ iv = .int .i64 (j : Int) ∧ prs l3 = puts (prs l) (A.take j) ∧ OC w W [(.slice a0 N c0, P), (.slice a1 M c1_, A), (.slice a2 K c2_, B)] p b N l p2 b2 (l.length + j) l3) (fun iv _ => M - (intOf iv).toNat)
          case atStart => exact ⟨0, l, by omega, rfl, rfl, H11.out⟩
          case round =>
            clear H11
            obtain ⟨j, l3, hj, rfl, hp3, hS⟩ := hrel
            have HS := Lib.hid (And.intro hp3 hS)
            clear hp3 hS
            by_cases hlt : j < M
            · have c1 : decide (j < M) = true := by simpa using hlt
              have c1' : decide ((j : Int) < (M : Int)) = true := by simp; omega
              have hj0 : (0 : Int) ≤ (j : Int) := by omega
              have hlt' : (j : Int) < (M : Int) := by omega
              obtain ⟨bo, oo, co', y, xs, he1, hr1, hy1, hg1⟩ := pairs_one (((HS.out.2.ls (.slice a1 M c1_, A) (by simp)).below (Below.refl _ _).drew)) (i := j) (by rw [← HN.out.2.1]; exact hlt)
              simp only [Value.slice.injEq] at he1
              obtain ⟨rfl, -, rfl⟩ := he1
              have HX := Lib.hid (And.intro hr1 hy1)
              have HG := Lib.hid hg1
              have HJ := Lib.hid (And.intro hj hlt)
              clear hr1 hy1 hg1
              go_wp2_with fail
              have hcell : wr.drew.cell? ⟨bo, oo + j * 33 + 32, none⟩ = some (peV y) := HX.out.1 32 (peV y) (by rw [encP, List.getElem?_append_right (by rw [length_cellsOf]; omega), length_cellsOf]; rfl)
              have HC := Lib.hid (And.intro (encP_key HX.out.1) hcell)
              clear hcell
              refine wp_region_sched (fun W => W.rangeAt bo (oo + j * 33) (cellsOf y.1) ∧ W.cell? ⟨bo, oo + j * 33 + 32, none⟩ = some (peV y)) [.t 0, .t 1, .t 2, .t 3, .t 4, .t 6, .t 7, .t 8, .t 9, .s 5, .e 10 true, .e 11 false] (by kernel_rfl) (by kernel_rfl) (by intro c a d v w h; cases d <;> exact h) ?_
              have HS1 := Lib.hid (And.intro HS.out.1 (HS.out.2.below (Below.refl _ _).drew))
              clear HS
              generalize wr.drew = V at *
              iterate 9
                refine wpS_t rfl (v := ?_) (by rfl) (fun W => ?_) ?_
                rotate_left
                · go_simp
                  try rfl
                try simp only [Act.put, List.setIfInBounds_toArray, List.set_cons_zero, List.set_cons_succ]
              refine wpS_load_sum (by exact HC.out) rfl (by rfl) _ (by rfl) bo (oo + j * 33) (by rfl) y.1 (fun V hV => hV.1) ?_
              try simp only [Act.put, List.setIfInBounds_toArray, List.set_cons_zero, List.set_cons_succ]
              refine wpS_k rfl (by rfl) (fun K hK => ?_)
              have g := HC.out.2
              go_simp
              refine hK _ _ ⟨by exact HC.out, ?_⟩; clear hK K
              try simp only [Act.put, List.setIfInBounds_toArray, List.set_cons_zero, List.set_cons_succ]
              clear g
              refine wpS_e rfl (by rfl) (fun K hK => ?_)
              go_simp
              refine (mput_any y.1 xs (peV y) V p2 b2 (l.length + j) l3 HS1.out.2.m2 (by have := HNN.out; have := HPL.out.2; have := HJ.out; omega) HX.out.2).mono ?_
              rintro e W2 ⟨rfl, l4, hm4, hp4, hk4⟩
              have H4 := Lib.hid (And.intro (show prs l4 = puts (prs l) (A.take (j + 1)) by rw [puts_take (prs l) A HG.out, hp4, HS1.out.1]) (HS1.out.2.put2 hm4 hk4))
              clear hm4 hp4 hk4 HS1
              refine hK _ _ ?_; clear hK K
              try simp only [Act.put, List.setIfInBounds_toArray, List.set_cons_zero, List.set_cons_succ]
              refine wpS_done ?_
              have hwj : wrap64 ((j : Int) + 1) = ((j + 1 : Nat) : Int) := by have := HNN.out; have := HJ.out; unfold wrap64; omega
              go_wp2_with fail
              rw [hwj]
              clear hwj
              exact ⟨⟨j + 1, l4, by omega, rfl, H4.out.1, H4.out.2⟩, by simp only [intOf]; omega⟩
            · have hjM : j = M := by omega
              subst hjM
              clear hlt hj
              have c1 : decide (j < j) = false := by simp
              have c1' : decide ((j : Int) < (j : Int)) = false := by simp
              rw [List.take_of_length_le (by rw [← HN.out.2.1]; exact Nat.le_refl _)] at HS
              have H12 := Lib.hid HS.out.2
              have HPC := Lib.hid HS.out.1
              clear HS
              obtain ⟨J, hJ⟩ : ∃ J, J = j := ⟨_, rfl⟩
              obtain ⟨lc, hlc⟩ : ∃ x, x = l3 := ⟨_, rfl⟩
              rw [← hJ, ← hlc] at H12
              rw [← hlc] at HPC
              rw [← hJ] at HN HNN ⊢
              clear hlc c1 c1'
              clear hJ
              go_wp2_with fail
              go_loopw [11] (fun iv W => ∃ (j : Nat) (l3 : List Ent), j ≤ K ∧ iv = .int .i64 (j : Int) ∧ prs l3 = puts (prs l) (B.take j) ∧ OC w W [(.slice a0 N c0, P), (.slice a1 J c1_, A), (.slice a2 K c2_, B)] p b (N + j) l3 p2 b2 (l.length + J) lc) (fun iv _ => K - (intOf iv).toNat)
              case atStart => exact ⟨0, l, by omega, rfl, rfl, H12.out⟩
              case round =>
                clear H12
                obtain ⟨j, l3, hj, rfl, hp3, hS⟩ := hrel
                have HS := Lib.hid (And.intro hp3 hS)
                clear hp3 hS
                by_cases hlt : j < K
                · have c1 : decide (j < K) = true := by simpa using hlt
                  have c1' : decide ((j : Int) < (K : Int)) = true := by simp; omega
                  have hj0 : (0 : Int) ≤ (j : Int) := by omega
                  have hlt' : (j : Int) < (K : Int) := by omega
                  obtain ⟨bo, oo, co', y, xs, he1, hr1, hy1, hg1⟩ := pairs_one (((HS.out.2.ls (.slice a2 K c2_, B) (by simp)).below (Below.refl _ _).drew)) (i := j) (by rw [← HN.out.2.2]; exact hlt)
                  simp only [Value.slice.injEq] at he1
                  obtain ⟨rfl, -, rfl⟩ := he1
                  have HX := Lib.hid (And.intro hr1 hy1)
                  have HG := Lib.hid hg1
                  have HJ := Lib.hid (And.intro hj hlt)
                  clear hr1 hy1 hg1
                  go_wp2_with fail
                  have hcell : wr.drew.cell? ⟨bo, oo + j * 33 + 32, none⟩ = some (peV y) := HX.out.1 32 (peV y) (by rw [encP, List.getElem?_append_right (by rw [length_cellsOf]; omega), length_cellsOf]; rfl)
                  have HC := Lib.hid (And.intro (encP_key HX.out.1) hcell)
                  clear hcell
                  refine wp_region_sched (fun W => W.rangeAt bo (oo + j * 33) (cellsOf y.1) ∧ W.cell? ⟨bo, oo + j * 33 + 32, none⟩ = some (peV y)) [.t 0, .t 1, .t 2, .t 3, .t 4, .t 6, .t 7, .t 8, .t 9, .s 5, .e 10 true, .e 11 false] (by kernel_rfl) (by kernel_rfl) (by intro c a d v w h; cases d <;> exact h) ?_
                  have HS1 := Lib.hid (And.intro HS.out.1 (HS.out.2.below (Below.refl _ _).drew))
                  clear HS
                  generalize wr.drew = V at *
                  iterate 9
                    refine wpS_t rfl (v := ?_) (by rfl) (fun W => ?_) ?_
                    rotate_left
                    · go_simp
                      try rfl
                    try simp only [Act.put, List.setIfInBounds_toArray, List.set_cons_zero, List.set_cons_succ]
                  refine wpS_load_sum (by exact HC.out) rfl (by rfl) _ (by rfl) bo (oo + j * 33) (by rfl) y.1 (fun V hV => hV.1) ?_
                  try simp only [Act.put, List.setIfInBounds_toArray, List.set_cons_zero, List.set_cons_succ]
                  refine wpS_k rfl (by rfl) (fun K hK => ?_)
                  have g := HC.out.2
                  go_simp
                  refine hK _ _ ⟨by exact HC.out, ?_⟩; clear hK K
                  try simp only [Act.put, List.setIfInBounds_toArray, List.set_cons_zero, List.set_cons_succ]
                  clear g
                  refine wpS_e rfl (by rfl) (fun K hK => ?_)
                  go_simp
                  refine (mput_any y.1 xs (peV y) V p b (N + j) l3 HS1.out.2.map (by have := HNN.out; have := HPL.out.2; have := HJ.out; omega) HX.out.2).mono ?_
                  rintro e W2 ⟨rfl, l4, hm4, hp4, hk4⟩
                  have H4 := Lib.hid (And.intro (show prs l4 = puts (prs l) (B.take (j + 1)) by rw [puts_take (prs l) B HG.out, hp4, HS1.out.1]) (HS1.out.2.put1 hm4 hk4))
                  clear hm4 hp4 hk4 HS1
                  refine hK _ _ ?_; clear hK K
                  try simp only [Act.put, List.setIfInBounds_toArray, List.set_cons_zero, List.set_cons_succ]
                  refine wpS_done ?_
                  have hwj : wrap64 ((j : Int) + 1) = ((j + 1 : Nat) : Int) := by have := HNN.out; have := HJ.out; unfold wrap64; omega
                  go_wp2_with fail
                  rw [hwj]
                  clear hwj
                  exact ⟨⟨j + 1, l4, by omega, rfl, H4.out.1, H4.out.2⟩, by simp only [intOf]; omega⟩
                · have hjM : j = K := by omega
                  subst hjM
                  clear hlt hj
                  have c1 : decide (j < j) = false := by simp
                  have c1' : decide ((j : Int) < (j : Int)) = false := by simp
                  rw [List.take_of_length_le (by rw [← HN.out.2.2]; exact Nat.le_refl _)] at HS
                  have HE0 := Lib.hid HS.out.2
                  have HPM := Lib.hid HS.out.1
                  clear HS
                  have HG := Lib.hid trivial
                  have hP := Lib.hid (HE0.out.ls (.slice a0 N c0, P) (by simp))
                  have hX := Lib.hid (HE0.out.ls (.slice a1 J c1_, A) (by simp))
                  go_wp2_with (first
                    | (have _ := HG; at_builtin; refine wpList_app_pairs (W0 := wr) rfl _ _ rfl (Below.refl _ _) (.slice none 0 0) _ [] P rfl (pairs_nil _ _) (fun c hc => (List.not_mem_nil hc).elim) rfl hP.out (by have := HLP.out; simp only [List.length_nil]; omega) ?_; intro a7 c7 V7 cs7 ho7 hE7 hm7 hb7; simp only [List.map_nil, List.nil_append] at hm7; have hl7 : cs7.length ≤ 24 := (by have h := congrArg List.length hm7; rw [List.length_map] at h; rw [h]; exact HLP.out); obtain ⟨L7, hL7⟩ : ∃ x, x = cs7.length := ⟨_, rfl⟩; rw [← hL7]; have H7 := Lib.hid (And.intro ho7 (And.intro hE7 (And.intro hm7 (And.intro hb7 (And.intro hl7 hL7))))); clear HG ho7 hE7 hm7 hb7 hl7 hL7)
                    | (at_builtin; refine wpList_app_pairs (W0 := wr) rfl _ _ rfl H7.out.2.2.2.1 (.slice a7 L7 c7) _ cs7 A rfl (by rw [H7.out.2.2.2.2.2]; exact H7.out.1) H7.out.2.1 rfl hX.out (by have := HLA.out; have := H7.out.2.2.2.2.1; omega) ?_; intro a8 c8 V8 cs8 ho8 hE8 hm8 hb8; rw [H7.out.2.2.1] at hm8; have hQ := pairs_own ho8 hE8 hb8 hm8; obtain ⟨L8, hL8⟩ : ∃ x, x = cs8.length := ⟨_, rfl⟩; rw [← hL8] at hQ ⊢; have H8 := Lib.hid (And.intro hQ hb8); clear ho8 hE8 hm8 hb8 hQ hL8 H7))
                  refine (mof_any (P ++ A) _ V8 H8.out.1 (by rw [List.length_append]; have := HLP.out; have := HLA.out; omega)).mono ?_
                  rintro e W5 ⟨p5, b5, l5, rfl, hm, hp, g1, g2, g3, hb⟩
                  have hpp : prs l5 = puts (prs l) A := by rw [hp, puts_append, ← HPL.out.1]
                  have hll : l5.length ≤ 48 := ents_len hp (by rw [List.length_append]; have := HLP.out; have := HLA.out; simp only [List.length_nil]; omega)
                  have HM5 := Lib.hid ((HE0.out.below H8.out.2).below hb)
                  have HN5 := Lib.hid (And.intro hm (And.intro hpp hll))
                  clear hP hX hm hp g1 g2 g3 hpp hll hb H8 HE0
                  have HG := Lib.hid trivial
                  have hP := Lib.hid (HM5.out.ls (.slice a0 N c0, P) (by simp))
                  have hX := Lib.hid (HM5.out.ls (.slice a2 j c2_, B) (by simp))
                  go_wp2_with (first
                    | (have _ := HG; at_builtin; refine wpList_app_pairs (W0 := W5) rfl _ _ rfl (Below.refl _ _) (.slice none 0 0) _ [] P rfl (pairs_nil _ _) (fun c hc => (List.not_mem_nil hc).elim) rfl hP.out (by have := HLP.out; simp only [List.length_nil]; omega) ?_; intro a7 c7 V7 cs7 ho7 hE7 hm7 hb7; simp only [List.map_nil, List.nil_append] at hm7; have hl7 : cs7.length ≤ 24 := (by have h := congrArg List.length hm7; rw [List.length_map] at h; rw [h]; exact HLP.out); obtain ⟨L7, hL7⟩ : ∃ x, x = cs7.length := ⟨_, rfl⟩; rw [← hL7]; have H7 := Lib.hid (And.intro ho7 (And.intro hE7 (And.intro hm7 (And.intro hb7 (And.intro hl7 hL7))))); clear HG ho7 hE7 hm7 hb7 hl7 hL7)
                    | (at_builtin; refine wpList_app_pairs (W0 := W5) rfl _ _ rfl H7.out.2.2.2.1 (.slice a7 L7 c7) _ cs7 B rfl (by rw [H7.out.2.2.2.2.2]; exact H7.out.1) H7.out.2.1 rfl hX.out (by have := HLB.out; have := H7.out.2.2.2.2.1; omega) ?_; intro a8 c8 V8 cs8 ho8 hE8 hm8 hb8; rw [H7.out.2.2.1] at hm8; have hQ := pairs_own ho8 hE8 hb8 hm8; obtain ⟨L8, hL8⟩ : ∃ x, x = cs8.length := ⟨_, rfl⟩; rw [← hL8] at hQ ⊢; have H8 := Lib.hid (And.intro hQ hb8); clear ho8 hE8 hm8 hb8 hQ hL8 H7))
                  refine (mof_any (P ++ B) _ V8 H8.out.1 (by rw [List.length_append]; have := HLP.out; have := HLB.out; omega)).mono ?_
                  rintro e W6 ⟨p6, b6, l6, rfl, hm, hp, g1, g2, g3, hb⟩
                  have hpp : prs l6 = puts (prs l) B := by rw [hp, puts_append, ← HPL.out.1]
                  have hll : l6.length ≤ 48 := ents_len hp (by rw [List.length_append]; have := HLP.out; have := HLB.out; simp only [List.length_nil]; omega)
                  have HM6 := Lib.hid ((HM5.out.below H8.out.2).below hb)
                  have HN6 := Lib.hid (And.intro hm (And.intro hpp hll))
                  have HN7 := Lib.hid ((HN5.out.1.below H8.out.2).below hb)
                  have HQ5 := Lib.hid HN5.out.2
                  clear hP hX hm hp g1 g2 g3 hpp hll hb H8 HM5 HN5
                  have hlc : lc.length ≤ 48 := ents_len HPC.out (by have := HPL.out.2; have := HLA.out; simp [prs]; omega)
                  have hl3 : l3.length ≤ 48 := ents_len HPM.out (by have := HPL.out.2; have := HLB.out; simp [prs]; omega)
                  have HLL := Lib.hid (And.intro hlc hl3)
                  clear hlc hl3
                  go_wp2_with fail
                  refine (alive15_any W6).mono ?_
                  rintro e X1 ⟨rfl, hb⟩
                  have H1 := Lib.hid (And.intro (HM6.out.below hb) (And.intro (HN7.out.below hb) (HN6.out.1.below hb)))
                  clear hb HM6 HN7
                  go_wp2_with fail
                  refine (mpairs_any X1 p2 b2 _ lc H1.out.1.m2 (by have := HLL.out.1; omega)).mono ?_
                  rintro e X2 ⟨v1, rfl, hP, hb⟩
                  rw [HPC.out] at hP
                  obtain ⟨d1, e1, rfl, _, _⟩ := pairs_form hP
                  have H2 := Lib.hid (And.intro (H1.out.1.below hb) (And.intro (H1.out.2.1.below hb) (And.intro (H1.out.2.2.below hb) hP)))
                  clear hb H1 hP
                  obtain ⟨Z1, hZ1⟩ : ∃ x, x = (puts (prs l) A).length := ⟨_, rfl⟩
                  rw [← hZ1] at H2 ⊢
                  have HZ1 := Lib.hid hZ1
                  clear hZ1
                  go_wp2_with fail
                  refine (mpairs_any X2 p5 b5 _ l5 H2.out.2.1 (by have := HQ5.out.2; omega)).mono ?_
                  rintro e X3 ⟨v2, rfl, hP, hb⟩
                  rw [HQ5.out.1] at hP
                  obtain ⟨d2, e2, rfl, _, _⟩ := pairs_form hP
                  have H3 := Lib.hid (And.intro (H2.out.1.below hb) (And.intro (H2.out.2.2.1.below hb) (And.intro (H2.out.2.2.2.below hb) hP)))
                  clear hb H2 hP
                  rw [← HZ1.out] at H3 ⊢
                  go_wp2_with fail
                  refine (same_pairs _ _ _ _ X3 H3.out.2.2.1 H3.out.2.2.2).mono ?_
                  rintro e X4 ⟨rfl, hb⟩
                  rw [decide_eq_true rfl]
                  have H4 := Lib.hid (And.intro (H3.out.1.below hb) (H3.out.2.1.below hb))
                  clear hb H3
                  go_wp2_with fail
                  refine (mpairs_any X4 p b _ l3 H4.out.1.map (by have := HLL.out.2; omega)).mono ?_
                  rintro e X5 ⟨v3, rfl, hP, hb⟩
                  rw [HPM.out] at hP
                  obtain ⟨d3, e3, rfl, _, _⟩ := pairs_form hP
                  have H5 := Lib.hid (And.intro (H4.out.1.below hb) (And.intro (H4.out.2.below hb) hP))
                  clear hb H4 hP
                  obtain ⟨Z2, hZ2⟩ : ∃ x, x = (puts (prs l) B).length := ⟨_, rfl⟩
                  rw [← hZ2] at H5 ⊢
                  have HZ2 := Lib.hid hZ2
                  clear hZ2
                  go_wp2_with fail
                  refine (mpairs_any X5 p6 b6 _ l6 H5.out.2.1 (by have := HN6.out.2.2; omega)).mono ?_
                  rintro e X6 ⟨v4, rfl, hP, hb⟩
                  rw [HN6.out.2.1] at hP
                  obtain ⟨d4, e4, rfl, _, _⟩ := pairs_form hP
                  have H6 := Lib.hid (And.intro (H5.out.1.below hb) (And.intro (H5.out.2.2.below hb) hP))
                  clear hb H5 hP
                  rw [← HZ2.out] at H6 ⊢
                  go_wp2_with fail
                  refine (same_pairs _ _ _ _ X6 H6.out.2.1 H6.out.2.2).mono ?_
                  rintro e X7 ⟨rfl, hb⟩
                  rw [decide_eq_true rfl]
                  have H7 := Lib.hid (H6.out.1.below hb)
                  clear hb H6
                  go_wp2_with fail
                  exact bodyPost_ret (results_tmp rfl _ _ _) rfl ⟨rfl, H7.out.bw⟩
end Go.Proofs.Ytfmgoehnbaiamaa
