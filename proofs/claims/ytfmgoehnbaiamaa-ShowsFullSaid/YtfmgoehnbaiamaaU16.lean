/-
  Walk: almonerlaw15.MapsOne.
-/
import Derived.Test.YtfmgoehnbaiamaaU15
open Go Go.RowKit Alm
namespace Go.Proofs.Ytfmgoehnbaiamaa
theorem own_empty (k : Sum) : ∀ n, own (k, []) n = em n
  | 0 => by rw [em_zero]; exact vl_nil k
  | n + 1 => by rw [own_succ, own_empty k n, em_succ]; split <;> rfl
theorem root_put (k : Sum) (bs : List UInt8) (h : bs.length ≤ 256) : rootOf (Keys.putB [] k bs) = own (k, bs) 256 := by
  unfold Keys.putB
  rw [if_neg (by omega)]
  by_cases hb : bs = []
  · rw [if_pos hb, hb, own_empty]; exact root_nil
  · rw [if_neg hb]; rfl
/-- Two sums of the caller's, and what was there before. -/
structure OV (w0 W : World) (z6 z7 : Nat) (s e : Sum) : Prop where
  bw : Below w0.heap.size w0 W
  r6 : W.rangeAt z6 0 (cellsOf s)
  t6 : W.there z6 0 32
  r7 : W.rangeAt z7 0 (cellsOf e)
  t7 : W.there z7 0 32
  g6 : w0.heap.size ≤ z6
  g7 : w0.heap.size ≤ z7
  ne : z6 ≠ z7
theorem OV.below {w0 W W' : World} {z6 z7 : Nat} {s e : Sum} (h : OV w0 W z6 z7 s e) (hb : Below W.heap.size W W') : OV w0 W' z6 z7 s e :=
  have kk := Keeps.of_below (X := fun _ => False) hb
  ⟨h.bw.trans (hb.mono h.bw.size), kk.range h.r6 (fun h => h), kk.there h.t6 (by decide) (fun h => h), kk.range h.r7 (fun h => h), kk.there h.t7 (by decide) (fun h => h), h.g6, h.g7, h.ne⟩
theorem OV.set6 {w0 W : World} {z6 z7 : Nat} {s e : Sum} (h : OV w0 W z6 z7 s e) (x : Sum) : OV w0 (W.setCells z6 0 (cellsOf x)) z6 z7 x e :=
  ⟨h.bw.trans ((keeps_setCells_ z6 (cellsOf x) 0 W).below h.bw.size (fun k hk => by have := h.g6; omega)), range_stored z6 (cellsOf x) 0 W (by rw [length_cellsOf]; exact World.there_setCells h.t6 _ _ _), World.there_setCells h.t6 _ _ _, (keeps_setCells_ z6 (cellsOf x) 0 W).range h.r7 (fun e => h.ne e.symm), World.there_setCells h.t7 _ _ _, h.g6, h.g7, h.ne⟩
theorem OV.set7 {w0 W : World} {z6 z7 : Nat} {s e : Sum} (h : OV w0 W z6 z7 s e) (x : Sum) : OV w0 (W.setCells z7 0 (cellsOf x)) z6 z7 s x :=
  ⟨h.bw.trans ((keeps_setCells_ z7 (cellsOf x) 0 W).below h.bw.size (fun k hk => by have := h.g7; omega)), (keeps_setCells_ z7 (cellsOf x) 0 W).range h.r6 h.ne, World.there_setCells h.t6 _ _ _, range_stored z7 (cellsOf x) 0 W (by rw [length_cellsOf]; exact World.there_setCells h.t7 _ _ _), World.there_setCells h.t7 _ _ _, h.g6, h.g7, h.ne⟩
set_option maxRecDepth 100000 in
set_option maxHeartbeats 2000000 in
theorem mapsOne_any (k : Sum) (bs : List UInt8) (v : Value) (w : World) (hv : BytesAt w v bs) : Calls Try.prog 5 #[sv k, v] w fun e w' => e = .returned (.bool true) ∧ Below w.heap.size w w' := by
  obtain ⟨z2, hz2⟩ : ∃ z, z = w.heap.size := ⟨_, rfl⟩
  have hb0 := al (Below.refl _ w) (.cells (cellsOf k).toArray 29)
  have hr0 : (w.alloc (.cells (cellsOf k).toArray 29)).rangeAt z2 0 (cellsOf k) := by rw [hz2]; exact range_new w (cellsOf k).toArray 29 _ rfl
  have hv0 := bytes_below hv hb0 (Nat.le_refl _)
  have H0 := Lib.hid (And.intro hb0 (And.intro hr0 hv0))
  obtain ⟨a, cap, rfl, h1, h2, _⟩ := hv
  obtain ⟨N, hN⟩ : ∃ N, N = bs.length := ⟨_, rfl⟩
  rw [← hN] at H0 h1 ⊢
  have HN := Lib.hid (And.intro hN trivial)
  have HZ2 := Lib.hid hz2
  clear hN hb0 hr0 hv0 h2
  go_enter Try.func5, Try.ntmps5
  go_wp2_with fail
  rw [← hz2]
  clear hz2
  generalize w.alloc (.cells (cellsOf k).toArray 29) = w1 at *
  refine (mnew_any w1).mono ?_
  rintro e w2 ⟨rfl, hm, hb⟩
  obtain ⟨p, hp⟩ : ∃ p, p = w1.heap.size + 1 := ⟨_, rfl⟩
  obtain ⟨b, hbb⟩ : ∃ b, b = w1.heap.size := ⟨_, rfl⟩
  rw [← hp, ← hbb] at hm
  rw [← hp]
  have H2 := Lib.hid (And.intro hm (And.intro (H0.out.1.trans (hb.mono H0.out.1.size)) (And.intro (show w2.rangeAt z2 0 (cellsOf k) from (Keeps.of_below (X := fun _ => False) hb).range H0.out.2.1 (fun h => h)) (And.intro (bytes_below H0.out.2.2 hb (Nat.le_refl _)) (show w.heap.size ≤ b by have := H0.out.1.size; omega)))))
  clear hm hb hp hbb H0
  go_wp2_with (refine wpList_load_sum rfl _ rfl z2 0 rfl k H2.out.2.2.1 ?_)
  refine (mput_any k bs _ _ p b 0 [] H2.out.1 (by omega) H2.out.2.2.2.1).mono ?_
  rintro e w3 ⟨rfl, l, hm, hp, hk⟩
  have H3 := Lib.hid (And.intro hm (And.intro (H2.out.2.1.trans (hk.below H2.out.2.1.size (fun k hk => by have := H2.out.2.2.2.2; omega))) (And.intro (hk.range H2.out.2.2.1 (range_maps H2.out.1.on H2.out.2.2.1 (cellsOf_ne _))) (bytes_maps H2.out.1.on hk H2.out.2.2.2.1))))
  have HL := Lib.hid (show prs l = Keys.putB [] k bs from hp)
  clear hm hp hk H2
  by_cases c1 : 256 < N
  · have d1 : decide (256 < (N : Int)) = true := by simp; omega
    have d1' : decide (256 < N) = true := by simpa using c1
    rw [if_pos (show bs.length > 256 by rw [← HN.out.1]; exact c1)]
    go_wp2_with fail
    refine (alive15_any w3).mono ?_
    rintro e w4 ⟨rfl, hb⟩
    have HB := Lib.hid (H3.out.2.1.trans (hb.mono H3.out.2.1.size))
    clear hb H3
    go_wp2_with fail
    exact bodyPost_ret (results_tmp rfl _ _ _) rfl ⟨rfl, HB.out⟩
  · rw [if_neg (show ¬ bs.length > 256 by rw [← HN.out.1]; exact c1)]
    have HC := Lib.hid (show bs.length ≤ 256 by rw [← HN.out.1]; omega)
    clear c1
    have hes := eq_sums_same (own (k, bs) 256)
    have HES := Lib.hid hes
    clear hes
    obtain ⟨S0, hS0⟩ : ∃ s, s = vl k bs := ⟨_, rfl⟩
    have HV := Lib.hid (vl_any k bs _ w3 H3.out.2.2.2 (by have := HC.out; omega))
    rw [← hS0] at HV
    have HS0 := Lib.hid (show S0 = own (k, bs) 0 from hS0)
    clear hS0
    go_wp2_with (refine wpList_load_sum rfl _ rfl z2 0 rfl k H3.out.2.2.1 ?_)
    refine HV.out.mono ?_
    rintro e w4 ⟨rfl, hb4⟩
    have H4 := Lib.hid hb4
    clear hb4 HV
    have HG := Lib.hid trivial
    go_wp2_with (have _ := HG; refine wpList_var_sum (by rfl) rfl _ _ rfl S0 rfl rfl ?_; intro w5 hb hr ht; obtain ⟨z6, hz6⟩ : ∃ x, x = w4.heap.size := ⟨_, rfl⟩; rw [← hz6] at hr ht ⊢; have H5 := Lib.hid (And.intro (H4.out.trans (hb.mono H4.out.size)) (And.intro hr (And.intro ht (show w3.heap.size ≤ z6 by rw [hz6]; exact H4.out.size)))); clear HG hb hr ht hz6 H4)
    have HE := Lib.hid (empty_any 0 w5 (by omega))
    rw [em_zero] at HE
    refine HE.out.mono ?_
    rintro e w6 ⟨rfl, hb⟩
    have hz67 : z6 < w6.heap.size := Nat.lt_of_lt_of_le (there_lt H5.out.2.2.1 (by decide)) hb.size
    have H6 := Lib.hid (And.intro (H5.out.1.trans (hb.mono H5.out.1.size)) (And.intro ((Keeps.of_below (X := fun _ => False) hb).range H5.out.2.1 (fun h => h)) (And.intro ((Keeps.of_below (X := fun _ => False) hb).there H5.out.2.2.1 (by decide) (fun h => h)) (And.intro H5.out.2.2.2 hz67))))
    clear hb hz67 H5 HE
    have HG := Lib.hid trivial
    go_wp2_with (have _ := HG; refine wpList_var_sum (by rfl) rfl _ _ rfl z0 rfl rfl ?_; intro w7 hb hr ht; obtain ⟨z7, hz7⟩ : ∃ x, x = w6.heap.size := ⟨_, rfl⟩; rw [← hz7] at hr ht ⊢; have H7 := Lib.hid (show OV w3 w7 z6 z7 S0 z0 from ⟨H6.out.1.trans (hb.mono H6.out.1.size), (Keeps.of_below (X := fun _ => False) hb).range H6.out.2.1 (fun h => h), (Keeps.of_below (X := fun _ => False) hb).there H6.out.2.2.1 (by decide) (fun h => h), hr, ht, H6.out.2.2.2.1, by rw [hz7]; exact H6.out.1.size, by rw [hz7]; exact Nat.ne_of_lt H6.out.2.2.2.2⟩); clear HG hb hr ht hz7 H6)
    go_loopw [8] (fun d W => ∃ h : Nat, h ≤ 256 ∧ d = .int .i64 (255 - (h : Int)) ∧ OV w3 W z6 z7 (own (k, bs) h) (em h)) (fun d _ => (intOf d + 1).toNat)
    case atStart => exact ⟨0, by omega, rfl, by rw [← HS0.out, em_zero]; exact H7.out⟩
    case round =>
      clear H7
      obtain ⟨h, hh, rfl, hO⟩ := hrel
      have HO := Lib.hid hO
      clear hO
      by_cases hlt : h < 256
      · obtain ⟨D, hD⟩ : ∃ D, D = 255 - h := ⟨_, rfl⟩
        have hd : (255 : Int) - (h : Int) = (D : Int) := by omega
        rw [hd]
        have c1 : decide ((0 : Int) ≤ (D : Int)) = true := by simp
        obtain ⟨q, hq⟩ : ∃ q, q = (Keys.kn k >>> (255 - D)) % 2 := ⟨_, rfl⟩
        have hDh : 255 - D = h := by omega
        have HD := Lib.hid (And.intro hD (And.intro hd hlt))
        have HQ := Lib.hid (show q = (Keys.kn k >>> h) % 2 by rw [hq, hDh])
        have HB := Lib.hid (bit_any k D wr (by omega))
        rw [← hq] at HB
        have hr2 := (Keeps.of_below (X := fun _ => False) HO.out.bw).range H3.out.2.2.1 (fun h => h)
        have HK := Lib.hid hr2
        obtain ⟨A, hA⟩ : ∃ A, A = own (k, bs) h := ⟨_, rfl⟩
        obtain ⟨E, hE⟩ : ∃ E, E = em h := ⟨_, rfl⟩
        rw [← hA, ← hE] at HO
        have HAE := Lib.hid (And.intro hA hE)
        clear hD hd hlt hq hDh hr2 hh hA hE
        go_wp2_with (refine wpList_load_sum rfl _ rfl z2 0 rfl k HK.out ?_)
        refine HB.out.mono ?_
        rintro e w8 ⟨rfl, hb⟩
        have HO8 := Lib.hid (HO.out.below hb)
        clear hb HO HB HK
        by_cases hq0 : q = 0
        · subst hq0
          have hnx : own (k, bs) (h + 1) = sd A E := by
            rw [own_succ, Keys.bit_odd, ← HQ.out, HAE.out.1, HAE.out.2]; rfl
          have HX := Lib.hid hnx
          clear hnx
          have HG := Lib.hid trivial
          go_wp2_with (first
            | (have _ := HG; refine wpList_load_sum rfl _ rfl z6 0 rfl A HO8.out.r6 ?_)
            | (have _ := HG; refine wpList_load_sum rfl _ rfl z7 0 rfl E HO8.out.r7 ?_))
          refine (sd_any A E w8).mono ?_
          rintro e w9 ⟨rfl, hb⟩
          have HO9 := Lib.hid (HO8.out.below hb)
          clear hb HO8
          go_wp2_with (first
            | (have _ := HG; refine wpList_store_sum rfl _ _ rfl z6 0 (sd A E) rfl rfl HO9.out.t6 ?_; have HO10 := Lib.hid (HO9.out.set6 (sd A E)); clear HG HO9; generalize w9.setCells z6 0 (cellsOf (sd A E)) = w10 at *)
            | (refine wpList_load_sum rfl _ rfl z7 0 rfl E HO10.out.r7 ?_))
          refine (sd_any E E w10).mono ?_
          rintro e w11 ⟨rfl, hb⟩
          have HO11 := Lib.hid (HO10.out.below hb)
          clear hb HO10
          have HG := Lib.hid trivial
          go_wp2_with (have _ := HG; refine wpList_store_sum rfl _ _ rfl z7 0 (sd E E) rfl rfl HO11.out.t7 ?_; have HO12 := Lib.hid (HO11.out.set7 (sd E E)); clear HG HO11; generalize w11.setCells z7 0 (cellsOf (sd E E)) = w12 at *)
          have hw : wrap64 ((D : Int) - 1) = (D : Int) - 1 := by have := HD.out.1; unfold wrap64; omega
          rw [hw]
          refine ⟨⟨h + 1, by have := HD.out.2.2; omega, congrArg _ (by have := HD.out.2.1; omega), by rw [HX.out, em_succ, ← HAE.out.2]; exact HO12.out⟩, ?_⟩
          simp only [intOf]
          omega
        · have hq1 : q = 1 := by have := HQ.out; omega
          subst hq1
          clear hq0
          have hnx : own (k, bs) (h + 1) = sd E A := by
            rw [own_succ, Keys.bit_odd, ← HQ.out, HAE.out.1, HAE.out.2]; rfl
          have HX := Lib.hid hnx
          clear hnx
          have HG := Lib.hid trivial
          go_wp2_with (first
            | (have _ := HG; refine wpList_load_sum rfl _ rfl z6 0 rfl A HO8.out.r6 ?_)
            | (have _ := HG; refine wpList_load_sum rfl _ rfl z7 0 rfl E HO8.out.r7 ?_))
          refine (sd_any E A w8).mono ?_
          rintro e w9 ⟨rfl, hb⟩
          have HO9 := Lib.hid (HO8.out.below hb)
          clear hb HO8
          go_wp2_with (first
            | (have _ := HG; refine wpList_store_sum rfl _ _ rfl z6 0 (sd E A) rfl rfl HO9.out.t6 ?_; have HO10 := Lib.hid (HO9.out.set6 (sd E A)); clear HG HO9; generalize w9.setCells z6 0 (cellsOf (sd E A)) = w10 at *)
            | (refine wpList_load_sum rfl _ rfl z7 0 rfl E HO10.out.r7 ?_))
          refine (sd_any E E w10).mono ?_
          rintro e w11 ⟨rfl, hb⟩
          have HO11 := Lib.hid (HO10.out.below hb)
          clear hb HO10
          have HG := Lib.hid trivial
          go_wp2_with (have _ := HG; refine wpList_store_sum rfl _ _ rfl z7 0 (sd E E) rfl rfl HO11.out.t7 ?_; have HO12 := Lib.hid (HO11.out.set7 (sd E E)); clear HG HO11; generalize w11.setCells z7 0 (cellsOf (sd E E)) = w12 at *)
          have hw : wrap64 ((D : Int) - 1) = (D : Int) - 1 := by have := HD.out.1; unfold wrap64; omega
          rw [hw]
          refine ⟨⟨h + 1, by have := HD.out.2.2; omega, congrArg _ (by have := HD.out.2.1; omega), by rw [HX.out, em_succ, ← HAE.out.2]; exact HO12.out⟩, ?_⟩
          simp only [intOf]
          omega
      · have e : h = 256 := by omega
        subst e
        clear hlt hh
        have c1 : decide ((0 : Int) ≤ (255 : Int) - ((256 : Nat) : Int)) = false := by decide
        have hA : rootOf (prs l) = own (k, bs) 256 := by rw [HL.out]; exact root_put k bs HC.out
        obtain ⟨A, hA2⟩ : ∃ A, A = own (k, bs) 256 := ⟨_, rfl⟩
        rw [← hA2] at hA HO HES
        have HA := Lib.hid hA
        clear hA hA2
        go_wp2_with fail
        refine wp_region_sched (fun V => OV w3 V z6 z7 A (em 256)) [.e 0 true, .t 1, .t 2, .s 4, .e 3 true, .t 5, .t 6, .t 7] (by kernel_rfl) (by kernel_rfl) (by intro c a d v w h; cases d <;> exact h) ?_
        have HS := Lib.hid (HO.out.below (Below.refl _ _).drew)
        clear HO
        generalize wr.drew = V at *
        refine wpS_k rfl (by rfl) (fun K hK => ?_)
        go_simp
        refine (alive15_any V).mono ?_
        rintro e V1 ⟨rfl, hb⟩
        have HS1 := Lib.hid (HS.out.below hb)
        clear HS hb
        refine hK _ _ ⟨by exact HS1.out, ?_⟩; clear hK K
        try simp only [Act.put, List.setIfInBounds_toArray, List.set_cons_zero, List.set_cons_succ]
        iterate 2
          refine wpS_t rfl (v := ?_) (by rfl) (fun W => ?_) ?_
          rotate_left
          · go_simp
            try rfl
          try simp only [Act.put, List.setIfInBounds_toArray, List.set_cons_zero, List.set_cons_succ]
        refine wpS_load_sum (by exact HS1.out) rfl (by rfl) _ (by rfl) z6 0 (by rfl) A (fun W hW => hW.r6) ?_
        try simp only [Act.put, List.setIfInBounds_toArray, List.set_cons_zero, List.set_cons_succ]
        refine wpS_k rfl (by rfl) (fun K hK => ?_)
        go_simp
        have HR := Lib.hid (mroot_any V1 p b (0 + 1) l (H3.out.1.below HS1.out.bw) (by
          have := congrArg List.length HL.out
          have h2 := length_putB [] k bs
          simp [prs] at this
          simp at h2
          omega))
        rw [HA.out] at HR
        refine HR.out.mono ?_
        rintro e V2 ⟨rfl, hb⟩
        have HS2 := Lib.hid (HS1.out.below hb)
        clear HS1 HR hb
        refine hK _ _ ⟨by exact HS2.out, ?_⟩; clear hK K
        try simp only [Act.put, List.setIfInBounds_toArray, List.set_cons_zero, List.set_cons_succ]
        have hes := HES.out
        iterate 3
          refine wpS_t rfl (v := ?_) (by rfl) (fun W => ?_) ?_
          rotate_left
          · go_simp
            try rfl
          try simp only [Act.put, List.setIfInBounds_toArray, List.set_cons_zero, List.set_cons_succ]
        refine wpS_done ?_
        go_wp2_with fail
        exact bodyPost_ret (results_tmp rfl _ _ _) rfl ⟨rfl, H3.out.2.1.trans (HS2.out.bw.mono H3.out.2.1.size)⟩
end Go.Proofs.Ytfmgoehnbaiamaa
