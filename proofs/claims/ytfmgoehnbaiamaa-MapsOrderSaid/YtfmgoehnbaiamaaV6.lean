/-
  Walk: almonerlaw15.MapsOrder.
-/
import Derived.Test.YtfmgoehnbaiamaaV1
import Derived.Test.YtfmgoehnbaiamaaV2
open Go Go.RowKit Alm
namespace Go.Proofs.Ytfmgoehnbaiamaa
/-- What MapsOrder has in hand. -/
structure OW (w W : World) (vo : Value) (O : List Keys.Pr) (vp : Value) (p b n : Nat) (l : List Ent) (p2 b2 n2 : Nat) (l2 : List Ent) : Prop where
  bw : Below w.heap.size w W
  oth : PairsAt W vo O
  prs : PairsAt W vp (prs l)
  map : MapIn W p b n l
  m2 : MapIn W p2 b2 n2 l2
  hb2 : w.heap.size ≤ b2
  ne : b ≠ b2
theorem OW.below {w W W' : World} {vo : Value} {O : List Keys.Pr} {vp : Value} {p b n : Nat} {l : List Ent} {p2 b2 n2 : Nat} {l2 : List Ent} (h : OW w W vo O vp p b n l p2 b2 n2 l2) (hb : Below W.heap.size W W') : OW w W' vo O vp p b n l p2 b2 n2 l2 :=
  ⟨h.bw.trans (hb.mono h.bw.size), h.oth.below hb, h.prs.below hb, h.map.below hb, h.m2.below hb, h.hb2, h.ne⟩
theorem OW.put {w W W' : World} {vo : Value} {O : List Keys.Pr} {vp : Value} {p b n : Nat} {l : List Ent} {p2 b2 n2 n3 : Nat} {l2 l3 : List Ent} (h : OW w W vo O vp p b n l p2 b2 n2 l2) (hm : MapIn W' p2 b2 n3 l3) (hk : Keeps (fun i => i = b2) W W') : OW w W' vo O vp p b n l p2 b2 n3 l3 :=
  ⟨h.bw.trans (hk.below h.bw.size (fun k hk => by have := h.hb2; omega)), h.oth.maps h.m2.on hk, h.prs.maps h.m2.on hk, h.map.maps h.m2.on hk h.ne, hm, h.hb2, h.ne⟩
theorem vals_full {W : World} {p b n : Nat} {l : List Ent} (h : MapIn W p b n l) : Full (prs l) := fun q hq => by
  obtain ⟨e, he, rfl⟩ := List.mem_map.1 hq
  exact ⟨(h.vals e he).2.1, (h.vals e he).2.2⟩
theorem ents_count {l : List Ent} {P Q : List Keys.Pr} (h : prs l = puts P Q) {m : Nat} (hm : P.length + Q.length ≤ m) : l.length ≤ m := by
  have h1 := congrArg List.length h
  have h2 := length_puts Q P
  simp [prs] at h1
  omega
set_option maxRecDepth 100000 in
set_option maxHeartbeats 4000000 in
theorem mapsOrder_any (P O : List Keys.Pr) (v vo : Value) (F : Nat) (w : World) (hv : PairsAt w v P) (ho : PairsAt w vo O) (hF : F ≤ 255) : Calls Try.prog 3 #[v, vo, .int .u8 (F : Int)] w fun e w' => e = .returned (.bool true) ∧ Below w.heap.size w w' := by
  have H0 := Lib.hid (And.intro hv ho)
  obtain ⟨a, cap, rfl, h1, h2⟩ := pairs_form hv
  obtain ⟨ao, capo, rfl, h1o, h2o⟩ := pairs_form ho
  obtain ⟨N, hN⟩ : ∃ N, N = P.length := ⟨_, rfl⟩
  obtain ⟨M, hM⟩ : ∃ M, M = O.length := ⟨_, rfl⟩
  rw [← hN, ← hM] at H0 ⊢
  have HN := Lib.hid (And.intro hN hM)
  clear hN hM h2 hv ho h1 h1o h2o
  go_enter Try.func3, Try.ntmps3
  go_wp2_with fail
  refine (great15_any P _ w H0.out.1).mono ?_
  rintro e w2 ⟨r, rfl, hg, hb⟩
  have H2 := Lib.hid (And.intro hb (And.intro (H0.out.1.below hb) (H0.out.2.below hb)))
  have HG := Lib.hid hg
  clear hb H0 hg
  cases r with
  | true =>
    go_wp2_with fail
    refine (alive15_any w2).mono ?_
    rintro e w4 ⟨rfl, hb⟩
    have HB := Lib.hid (H2.out.1.trans (hb.mono H2.out.1.size))
    clear hb H2
    go_wp2_with fail
    exact bodyPost_ret (results_tmp rfl _ _ _) rfl ⟨rfl, HB.out⟩
  | false =>
    have H24 := Lib.hid (HG.out rfl)
    clear HG
    go_wp2_with fail
    refine (great15_any O _ w2 H2.out.2.2).mono ?_
    rintro e w3 ⟨r, rfl, hg, hb⟩
    have H3 := Lib.hid (And.intro (H2.out.1.trans (hb.mono H2.out.1.size)) (And.intro (H2.out.2.1.below hb) (H2.out.2.2.below hb)))
    have HG := Lib.hid hg
    clear hb H2 hg
    cases r with
    | true =>
      go_wp2_with fail
      refine (alive15_any w3).mono ?_
      rintro e w4 ⟨rfl, hb⟩
      have HB := Lib.hid (H3.out.1.trans (hb.mono H3.out.1.size))
      clear hb H3
      go_wp2_with fail
      exact bodyPost_ret (results_tmp rfl _ _ _) rfl ⟨rfl, HB.out⟩
    | false =>
      have HO24 := Lib.hid (HG.out rfl)
      clear HG
      have HOF := Lib.hid (mof_any P _ w3 H3.out.2.1 (by have := H24.out; omega))
      rw [← HN.out.1] at HOF
      go_wp2_with fail
      refine HOF.out.mono ?_
      rintro e w4 ⟨p, b, l, rfl, hm, hp, g1, g2, g3, hb⟩
      have H4 := Lib.hid (And.intro (H3.out.1.trans (hb.mono H3.out.1.size)) (And.intro hm (H3.out.2.2.below hb)))
      have hl24 : l.length ≤ 24 := ents_count hp (by have := H24.out; simpa using this)
      have HL := Lib.hid (And.intro hl24 hm.lt)
      clear hb H3 HOF hm hp g1 g2 g3 hl24
      go_wp2_with fail
      refine (mpairs_any w4 p b N l H4.out.2.1 (by have := HL.out; omega)).mono ?_
      rintro e w5 ⟨vp, rfl, hP, hb⟩
      have H5 := Lib.hid (And.intro (H4.out.1.trans (hb.mono H4.out.1.size)) (And.intro (H4.out.2.1.below hb) (And.intro (H4.out.2.2.below hb) hP)))
      have hlt5 := Nat.lt_of_lt_of_le HL.out.2.2 hb.size
      have HLT := Lib.hid hlt5
      clear hb H4 hP hlt5
      obtain ⟨ap, cp, rfl, hp1, hp2⟩ := pairs_form H5.out.2.2.2
      obtain ⟨L, hLL⟩ : ∃ L, L = (prs l).length := ⟨_, rfl⟩
      rw [← hLL] at H5 hp1 ⊢
      have HLL := Lib.hid (And.intro hLL (show L ≤ 24 by rw [hLL]; have := HL.out.1; simpa [prs] using this))
      clear hLL hp2
      by_cases hL0 : L = 0
      · subst hL0
        have hnil : prs l = [] := List.length_eq_zero_iff.1 HLL.out.1.symm
        have hroot : rootOf (prs l) = em 256 := by rw [hnil]; exact root_nil
        obtain ⟨ea, hea⟩ : ∃ y, y = em 256 := ⟨_, rfl⟩
        have HR := Lib.hid (And.intro hroot hea)
        clear hnil hroot hea
        have hes := eq_sums_same ea
        go_wp2_with fail
        refine (alive15_any w5).mono ?_
        rintro e w6 ⟨rfl, hb⟩
        have H6 := Lib.hid (And.intro (H5.out.1.trans (hb.mono H5.out.1.size)) (H5.out.2.1.below hb))
        clear hb
        go_wp2_with fail
        have HX := Lib.hid (mroot_any w6 p b N l H6.out.2 (by have := HL.out; omega))
        rw [HR.out.1, ← HR.out.2] at HX
        refine HX.out.mono ?_
        rintro e w7 ⟨rfl, hb⟩
        have H7 := Lib.hid (H6.out.1.trans (hb.mono H6.out.1.size))
        clear hb HX
        go_wp2_with fail
        have HX := Lib.hid (empty_any 256 w7 (Nat.le_refl _))
        rw [← HR.out.2] at HX
        refine HX.out.mono ?_
        rintro e w8 ⟨rfl, hb⟩
        have H8 := Lib.hid (H7.out.trans (hb.mono H7.out.size))
        clear hb HX
        go_wp2_with fail
        exact bodyPost_ret (results_tmp rfl _ _ _) rfl ⟨rfl, H8.out⟩
      · have e0 : decide (L = 0) = false := by simpa using hL0
        have e0' : decide ((L : Int) = 0) = false := by simp; omega
        have e0'' : ((L : Int) == 0) = false := by rw [beq_eq_false_iff_ne]; omega
        obtain ⟨ba, oa, ca, y0, xs0, he1, _, _, _⟩ := pairs_one H5.out.2.2.2 (i := 0) (by rw [← HLL.out.1]; omega)
        simp only [Value.slice.injEq] at he1
        obtain ⟨rfl, -, rfl⟩ := he1
        obtain ⟨I, hI⟩ : ∃ I, I = F % L := ⟨_, rfl⟩
        have hIm : (F : Int) % (L : Int) = (I : Int) := by rw [hI]; rfl
        have hIL : I < L := by rw [hI]; exact Nat.mod_lt _ (by omega)
        have HI := Lib.hid (And.intro hIL hIm)
        have q1 : (0 : Int) ≤ (I : Int) := by omega
        have q2 : (I : Int) ≤ (L : Int) := by omega
        have q3 : (L : Int) ≤ (cp : Int) := by omega
        have q4 : (I : Int) ≤ (cp : Int) := by omega
        have q5 : ¬ cp = I := by omega
        clear hI hIL hIm
        go_wp2_with fail
        rw [HI.out.2]
        refine wp_region_sched (fun W => True) [.t 0, .t 1, .t 2, .t 4, .t 5, .t 6, .e 3 false, .e 7 false, .e 8 false, .t 9] (by kernel_rfl) (by kernel_rfl) (by intro c a d v w h; cases d <;> exact h) ?_
        have H6 := Lib.hid (And.intro H5.out.1.drew (And.intro (H5.out.2.1.below (Below.refl _ _).drew) (And.intro (H5.out.2.2.1.below (Below.refl _ _).drew) (H5.out.2.2.2.below (Below.refl _ _).drew))))
        have HLT6 := Lib.hid (show b < w5.drew.heap.size from HLT.out)
        clear H5 HLT
        generalize w5.drew = V at *
        iterate 6
          refine wpS_t rfl (v := ?_) (by rfl) (fun W => ?_) ?_
          rotate_left
          · go_simp
            try rfl
          try simp only [Act.put, List.setIfInBounds_toArray, List.set_cons_zero, List.set_cons_succ]
        have hPd : PairsAt V (.slice (some ⟨ba, oa + I * 33, none⟩) (L - I) (cp - I)) ((prs l).drop I) := by
          have h := H6.out.2.2.2
          rw [HLL.out.1] at h
          have h2 := h.drop (i := I) (by rw [← HLL.out.1]; have := HI.out.1; omega)
          rw [← HLL.out.1] at h2
          exact h2
        have hPt : PairsAt V (.slice (some ⟨ba, oa, none⟩) I cp) ((prs l).take I) := by
          have h := H6.out.2.2.2
          rw [HLL.out.1] at h
          exact h.take (by rw [← HLL.out.1]; have := HI.out.1; omega)
        have hld : ((prs l).drop I).length ≤ 24 := by rw [List.length_drop, ← HLL.out.1]; have := HLL.out.2; omega
        have hlt : ((prs l).take I).length ≤ 24 := by rw [List.length_take, ← HLL.out.1]; have := HLL.out.2; omega
        have HPP := Lib.hid (And.intro hPd (And.intro hPt (And.intro hld hlt)))
        clear hPd hPt hld hlt q1 q2 q3 q4 q5
        refine wpS_e rfl (by rfl) (fun K hK => ?_)
        refine wp_app_pairs (W0 := V) _ _ (by rfl) (Below.refl _ _) (.slice none 0 0) _ [] ((prs l).drop I) (by rfl) (pairs_nil V V.heap.size) (fun c hc => (List.not_mem_nil hc).elim) (by rfl) HPP.out.1 (by have := HPP.out.2.2.1; simp only [List.length_nil]; omega) ?_
        intro a1 c1 V1 cs1 ho1 hE1 hm1 hb1
        simp only [List.map_nil, List.nil_append] at hm1
        have hl1 : cs1.length ≤ 24 := by have h := congrArg List.length hm1; rw [List.length_map] at h; rw [h]; exact HPP.out.2.2.1
        obtain ⟨L1, hL1⟩ : ∃ L1, L1 = cs1.length := ⟨_, rfl⟩
        rw [← hL1]
        have HA1 := Lib.hid (And.intro ho1 (And.intro hE1 (And.intro hm1 (And.intro hb1 (And.intro hl1 hL1)))))
        clear ho1 hE1 hm1 hb1 hl1 hL1
        refine hK _ _ ?_; clear hK K
        try simp only [Act.put, List.setIfInBounds_toArray, List.set_cons_zero, List.set_cons_succ]
        refine wpS_e rfl (by rfl) (fun K hK => ?_)
        refine wp_app_pairs (W0 := V) _ _ (by rfl) HA1.out.2.2.2.1 (.slice a1 L1 c1) _ cs1 ((prs l).take I) (by rfl) (by rw [HA1.out.2.2.2.2.2]; exact HA1.out.1) HA1.out.2.1 (by rfl) HPP.out.2.1 (by have := HPP.out.2.2.2; have := HA1.out.2.2.2.2.1; omega) ?_
        intro a2 c2 V2 cs2 ho2 hE2 hm2 hb2
        rw [HA1.out.2.2.1] at hm2
        have hQ : PairsAt V2 (.slice a2 cs2.length c2) ((prs l).drop I ++ (prs l).take I) := pairs_own ho2 hE2 hb2 hm2
        have hql : ((prs l).drop I ++ (prs l).take I).length ≤ 48 := by rw [List.length_append]; have := HPP.out.2.2; omega
        have hsame : puts [] ((prs l).drop I ++ (prs l).take I) = prs l := puts_same (prs_rise H6.out.2.1.rise) (vals_full H6.out.2.1) (by
          have := List.perm_append_comm (l₁ := (prs l).drop I) (l₂ := (prs l).take I)
          rw [List.take_append_drop] at this
          exact this)
        obtain ⟨Q, hQe⟩ : ∃ Q, Q = (prs l).drop I ++ (prs l).take I := ⟨_, rfl⟩
        rw [← hQe] at hQ hql hsame
        obtain ⟨L2, hL2⟩ : ∃ L2, L2 = cs2.length := ⟨_, rfl⟩
        rw [← hL2] at hQ ⊢
        have H7 := Lib.hid (And.intro (H6.out.1.trans (hb2.mono H6.out.1.size)) (And.intro (H6.out.2.1.below hb2) (And.intro (H6.out.2.2.1.below hb2) (H6.out.2.2.2.below hb2))))
        have HQ := Lib.hid (And.intro hQ (And.intro hql (And.intro hsame (Nat.lt_of_lt_of_le HLT6.out hb2.size))))
        clear ho2 hE2 hm2 hb2 hQ hql hsame hQe hL2 HPP HA1 H6 HLT6
        refine hK _ _ ?_; clear hK K
        try simp only [Act.put, List.setIfInBounds_toArray, List.set_cons_zero, List.set_cons_succ]
        refine wpS_e rfl (by rfl) (fun K hK => ?_)
        go_simp
        refine (mof_any Q _ V2 HQ.out.1 (by have := HQ.out.2.1; omega)).mono ?_
        rintro e V3 ⟨p2, b2, l2, rfl, hm3, hp3, g1, g2, g3, hb3⟩
        have H8 := Lib.hid (show OW w V3 (.slice ao M capo) O (.slice (some ⟨ba, oa, none⟩) L cp) p b N l p2 b2 Q.length l2 from ⟨H7.out.1.trans (hb3.mono H7.out.1.size), H7.out.2.2.1.below hb3, H7.out.2.2.2.below hb3, H7.out.2.1.below hb3, hm3, Nat.le_trans H7.out.1.size g2, by have := HQ.out.2.2.2; omega⟩)
        have HP2 := Lib.hid (show prs l2 = prs l by rw [hp3]; exact HQ.out.2.2.1)
        have HQL := Lib.hid HQ.out.2.1
        clear hm3 hp3 g1 g2 g3 hb3 H7 HQ
        refine hK _ _ ?_; clear hK K
        try simp only [Act.put, List.setIfInBounds_toArray, List.set_cons_zero, List.set_cons_succ]
        iterate 1
          refine wpS_t rfl (v := ?_) (by rfl) (fun W => ?_) ?_
          rotate_left
          · go_simp
            try rfl
          try simp only [Act.put, List.setIfInBounds_toArray, List.set_cons_zero, List.set_cons_succ]
        refine wpS_done ?_
        go_wp2_with fail
        have HO := Lib.hid (show M ≤ 24 by rw [HN.out.2]; exact HO24.out)
        go_loopw [11] (fun iv W => ∃ (j : Nat) (l3 : List Ent), j ≤ M ∧ iv = .int .i64 (j : Int) ∧ prs l3 = puts (prs l) (O.take j) ∧ OW w W (.slice ao M capo) O (.slice (some ⟨ba, oa, none⟩) L cp) p b N l p2 b2 (Q.length + j) l3) (fun iv _ => M - (intOf iv).toNat)
        case atStart => exact ⟨0, l2, by omega, rfl, HP2.out, H8.out⟩
        case round =>
          clear H8 HP2
          obtain ⟨j, l3, hj, rfl, hp3, hS⟩ := hrel
          have HS := Lib.hid (And.intro hp3 hS)
          clear hp3 hS
          by_cases hlt : j < M
          · have c1 : decide (j < M) = true := by simpa using hlt
            have c1' : decide ((j : Int) < (M : Int)) = true := by simp; omega
            have hj0 : (0 : Int) ≤ (j : Int) := by omega
            have hlt' : (j : Int) < (M : Int) := by omega
            obtain ⟨bo, oo, co', y, xs, he1, hr1, hy1, hg1⟩ := pairs_one (HS.out.2.oth.below (Below.refl _ _).drew) (i := j) (by rw [← HN.out.2]; exact hlt)
            simp only [Value.slice.injEq] at he1
            obtain ⟨rfl, -, rfl⟩ := he1
            have HX := Lib.hid (And.intro hr1 hy1)
            have HG := Lib.hid hg1
            have HJ := Lib.hid (And.intro hj hlt)
            clear hr1 hy1 hg1
            go_wp2_with fail
            have hcell : wr.drew.cell? ⟨bo, oo + j * 33 + 32, none⟩ = some (peV y) := HX.out.1 32 (peV y) (by rw [encP, List.getElem?_append_right (by rw [length_cellsOf]; omega), length_cellsOf]; rfl)
            have HC := Lib.hid (And.intro (encP_key HX.out.1) hcell)
            clear hcell
            refine wp_region_sched (fun W => W.rangeAt bo (oo + j * 33) (cellsOf y.1) ∧ W.cell? ⟨bo, oo + j * 33 + 32, none⟩ = some (peV y)) [.t 0, .t 1, .t 2, .t 3, .t 4, .t 6, .t 7, .t 8, .t 9, .s 5, .e 10 true, .e 11 false] (by kernel_rfl) (by kernel_rfl) (by intro c a d v w h; cases d <;> exact h) ?_
            have HS1 := Lib.hid (And.intro HS.out.1 (HS.out.2.below (Below.refl _ _).drew))
            clear HS
            generalize wr.drew = V at *
            iterate 9
              refine wpS_t rfl (v := ?_) (by rfl) (fun W => ?_) ?_
              rotate_left
              · go_simp
                try rfl
              try simp only [Act.put, List.setIfInBounds_toArray, List.set_cons_zero, List.set_cons_succ]
            refine wpS_load_sum (by exact HC.out) rfl (by rfl) _ (by rfl) bo (oo + j * 33) (by rfl) y.1 (fun V hV => hV.1) ?_
            try simp only [Act.put, List.setIfInBounds_toArray, List.set_cons_zero, List.set_cons_succ]
            refine wpS_k rfl (by rfl) (fun K hK => ?_)
            have g := HC.out.2
            go_simp
            refine hK _ _ ⟨by exact HC.out, ?_⟩; clear hK K
            try simp only [Act.put, List.setIfInBounds_toArray, List.set_cons_zero, List.set_cons_succ]
            clear g
            refine wpS_e rfl (by rfl) (fun K hK => ?_)
            go_simp
            refine (mput_any y.1 xs (peV y) V p2 b2 (Q.length + j) l3 HS1.out.2.m2 (by have := HQL.out; have := HO.out; have := HJ.out; omega) HX.out.2).mono ?_
            rintro e W2 ⟨rfl, l4, hm4, hp4, hk4⟩
            have H4 := Lib.hid (And.intro (show prs l4 = puts (prs l) (O.take (j + 1)) by rw [puts_take (prs l) O HG.out, hp4, HS1.out.1]) (HS1.out.2.put hm4 hk4))
            clear hm4 hp4 hk4 HS1
            refine hK _ _ ?_; clear hK K
            try simp only [Act.put, List.setIfInBounds_toArray, List.set_cons_zero, List.set_cons_succ]
            refine wpS_done ?_
            have hwj : wrap64 ((j : Int) + 1) = ((j + 1 : Nat) : Int) := by have := HO.out; have := HJ.out; unfold wrap64; omega
            go_wp2_with fail
            rw [hwj]
            clear hwj
            exact ⟨⟨j + 1, l4, by omega, rfl, H4.out.1, H4.out.2⟩, by simp only [intOf]; omega⟩
          · have hjM : j = M := by omega
            subst hjM
            clear hlt hj
            have c1 : decide (j < j) = false := by simp
            have c1' : decide ((j : Int) < (j : Int)) = false := by simp
            rw [List.take_of_length_le (by rw [← HN.out.2]; exact Nat.le_refl _)] at HS
            obtain ⟨R, hR⟩ : ∃ R, R = O.map fun q => (q.1, Keys.get (prs l) q.1) := ⟨_, rfl⟩
            have HR := Lib.hid hR
            have hend : puts (puts (prs l) O) R = prs l := by rw [hR]; exact puts_back (prs_rise HS.out.2.map.rise) (vals_full HS.out.2.map) O
            have HEND := Lib.hid hend
            clear hR hend
            go_wp2_with fail
            go_loopw [12, 13, 14] (fun iv _ _ W => ∃ (i : Nat) (l4 : List Ent), i ≤ j ∧ iv = .int .i64 (i : Int) ∧ prs l4 = puts (puts (prs l) O) (R.take i) ∧ OW w W (.slice ao j capo) O (.slice (some ⟨ba, oa, none⟩) L cp) p b N l p2 b2 (Q.length + j + i) l4) (fun iv _ _ _ => j - (intOf iv).toNat)
            case atStart => exact ⟨0, l3, by omega, rfl, HS.out.1, HS.out.2⟩
            case round =>
              clear HS
              obtain ⟨i, l4, hi, rfl, hp4, hS⟩ := hrel
              have HS := Lib.hid (And.intro hp4 hS)
              clear hp4 hS
              by_cases hlt : i < j
              · have d1 : decide (i < j) = true := by simpa using hlt
                have d1' : decide ((i : Int) < (j : Int)) = true := by simp; omega
                have hi0 : (0 : Int) ≤ (i : Int) := by omega
                have hlt' : (i : Int) < (j : Int) := by omega
                obtain ⟨bo, oo, co', y, xs, he1, hr1, hy1, hg1⟩ := pairs_one HS.out.2.oth (i := i) (by rw [← HN.out.2]; exact hlt)
                simp only [Value.slice.injEq] at he1
                obtain ⟨rfl, -, rfl⟩ := he1
                have HX := Lib.hid (encP_key hr1)
                have hgr : R[i]? = some (y.1, Keys.get (prs l) y.1) := by rw [HR.out, List.getElem?_map, hg1]; rfl
                have HG := Lib.hid hgr
                have HJ := Lib.hid (And.intro hi hlt)
                clear hr1 hy1 hg1 hgr hi hlt
                go_wp2_with (refine wpList_load_sum rfl _ rfl bo (oo + i * 33) rfl y.1 HX.out ?_)
                refine (mget_any y.1 wr p b N l HS.out.2.map).mono ?_
                rintro e W1 ⟨v1, rfl, hN1, hb1⟩
                obtain ⟨a1', c1', rfl, _, _, _⟩ := id hN1.1
                have HS1 := Lib.hid (And.intro HS.out.1 (And.intro (HS.out.2.below hb1) (And.intro hN1.1 ((Keeps.of_below (X := fun _ => False) hb1).range HX.out (fun h => h)))))
                clear hb1 hN1 HS HX
                obtain ⟨G, hG⟩ : ∃ G, G = Keys.get (prs l) y.1 := ⟨_, rfl⟩
                rw [← hG] at HS1 HG ⊢
                clear hG
                obtain ⟨m0, hm0⟩ : ∃ m, m = G.length := ⟨_, rfl⟩
                rw [← hm0] at HS1 ⊢
                clear hm0
                go_wp2_with (refine wpList_load_sum rfl _ rfl bo (oo + i * 33) rfl y.1 HS1.out.2.2.2 ?_)
                refine (mput_any y.1 G _ W1 p2 b2 (Q.length + j + i) l4 HS1.out.2.1.m2 (by have := HQL.out; have := HO.out; have := HJ.out; omega) HS1.out.2.2.1).mono ?_
                rintro e W2 ⟨rfl, l5, hm5, hp5, hk5⟩
                have H5 := Lib.hid (And.intro (show prs l5 = puts (puts (prs l) O) (R.take (i + 1)) by rw [puts_take _ R HG.out, hp5, HS1.out.1]) (HS1.out.2.1.put hm5 hk5))
                clear hm5 hp5 hk5 HS1
                have hwj : wrap64 ((i : Int) + 1) = ((i + 1 : Nat) : Int) := by have := HO.out; have := HJ.out; unfold wrap64; omega
                go_wp2_with fail
                rw [hwj]
                clear hwj
                exact ⟨⟨i + 1, l5, by have := HJ.out; omega, rfl, H5.out.1, H5.out.2⟩, by simp only [intOf]; have := HJ.out; omega⟩
              · have hij : i = j := by omega
                subst hij
                clear hlt hi
                have d1 : decide (i < i) = false := by simp
                have d1' : decide ((i : Int) < (i : Int)) = false := by simp
                rw [List.take_of_length_le (by rw [HR.out, List.length_map, ← HN.out.2]; exact Nat.le_refl _), HEND.out] at HS
                obtain ⟨rt, hrt⟩ : ∃ r, r = rootOf (prs l) := ⟨_, rfl⟩
                have HRT := Lib.hid hrt
                clear hrt
                have hes := eq_sums_same rt
                have hl4 : l4.length ≤ 24 := by
                  have h1 := congrArg List.length HS.out.1
                  simp [prs] at h1
                  have := HL.out.1
                  omega
                have HL4 := Lib.hid hl4
                clear hl4
                go_wp2_with fail
                refine (alive15_any wr).mono ?_
                rintro e W1 ⟨rfl, hb⟩
                have HS1 := Lib.hid (And.intro HS.out.1 (HS.out.2.below hb))
                clear HS hb
                go_wp2_with fail
                refine (mpairs_any W1 p2 b2 _ l4 HS1.out.2.m2 (by have := HL4.out; omega)).mono ?_
                rintro e W2 ⟨vq, rfl, hP, hb⟩
                rw [HS1.out.1] at hP
                have HS2 := Lib.hid (And.intro (HS1.out.2.below hb) hP)
                obtain ⟨aq, cq, rfl, _, _⟩ := pairs_form hP
                have HP1 := Lib.hid HS1.out.1
                clear HS1 hb hP
                rw [← HLL.out.1] at HS2 ⊢
                go_wp2_with fail
                refine (same_pairs (prs l) (prs l) _ _ W2 HS2.out.2 HS2.out.1.prs).mono ?_
                rintro e W3 ⟨rfl, hb⟩
                rw [decide_eq_true rfl]
                have HS3 := Lib.hid (HS2.out.1.below hb)
                clear HS2 hb
                go_wp2_with fail
                have HX1 := Lib.hid (mroot_any W3 p2 b2 _ l4 HS3.out.m2 (by have := HL4.out; omega))
                rw [HP1.out, ← HRT.out] at HX1
                refine HX1.out.mono ?_
                rintro e W4 ⟨rfl, hb⟩
                have HS4 := Lib.hid (HS3.out.below hb)
                clear HS3 hb HX1
                go_wp2_with fail
                have HX1 := Lib.hid (mroot_any W4 p b N l HS4.out.map (by have := HL.out.1; omega))
                rw [← HRT.out] at HX1
                refine HX1.out.mono ?_
                rintro e W5 ⟨rfl, hb⟩
                have HS5 := Lib.hid (HS4.out.below hb)
                clear HS4 hb HX1
                go_wp2_with fail
                exact bodyPost_ret (results_tmp rfl _ _ _) rfl ⟨rfl, HS5.out.bw⟩
end Go.Proofs.Ytfmgoehnbaiamaa
