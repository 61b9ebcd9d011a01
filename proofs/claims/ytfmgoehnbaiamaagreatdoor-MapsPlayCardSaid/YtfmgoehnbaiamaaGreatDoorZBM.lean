/-
  Joined: MP5, MP3.
-/
import Derived.Test.YtfmgoehnbaiamaaGreatDoorMP2
import Derived.Test.YtfmgoehnbaiamaaGreatDoorZBK
import Derived.Test.YtfmgoehnbaiamaaGreatDoorZBL
import Derived.Test.YtfmgoehnbaiamaaGreatDoorZBH
import Derived.Test.YtfmgoehnbaiamaaGreatDoorZAS
-- Walks: a copy of a pair (TwinPair), what was left of it (LeftPair); almonerref15: Get, Root.
open Go Go.RowKit Alm
namespace Go.Proofs.YtfmgoehnbaiamaaGreatDoor
def zeroPE : PE := (zeroSum, none, 0, 0)
set_option maxRecDepth 100000 in
set_option maxHeartbeats 1000000 in
theorem twin_pair (x : PE) (l : List UInt8) (w : World) (hs : BytesAt w (peV x) l) (hl : l.length < 900000) :
    Calls Tryz.prog 8 #[.agg (encP x).toArray] w fun e w' => ∃ g cap, e = .returned (.agg (encP (x.1, some ⟨g, 0, none⟩, l.length, cap)).toArray) ∧ TwinB w' w.heap.size (.slice (some ⟨g, 0, none⟩) l.length cap) l ∧ Below w.heap.size w w' := by
  obtain ⟨w1, hw1⟩ : ∃ y, y = w.alloc (.cells (encP x).toArray 41) := ⟨_, rfl⟩
  obtain ⟨w2, hw2⟩ : ∃ y, y = w1.alloc (.cells (encP zeroPE).toArray 41) := ⟨_, rfl⟩
  have r1 : w1.rangeAt w.heap.size 0 (encP x) := by rw [hw1]; exact range_new w _ _ _ rfl
  have t2 : w2.there w1.heap.size 0 33 := by
    have hsz : (encP zeroPE).toArray.size = 33 := by rw [List.size_toArray, length_encP]
    have := there_new w1 (encP zeroPE).toArray 41
    rw [hsz] at this
    rw [hw2]; exact this
  have b1 : Below w.heap.size w w1 := by rw [hw1]; exact al (Below.refl _ _) _
  have b2 : Below w1.heap.size w1 w2 := by rw [hw2]; exact al (Below.refl _ _) _
  have r12 := (Keeps.of_below (X := fun _ => False) b2).range r1 (fun h => h)
  have b12 := b1.trans (b2.mono b1.size)
  have s1 : w1.heap.size = w.heap.size + 1 := by rw [hw1, World.size_alloc]
  rw [s1] at t2
  have H0 := Lib.hid (And.intro r12 (And.intro t2 (And.intro b12 (bytes_below hs b12 (Nat.le_refl _)))))
  have HW := Lib.hid (And.intro hw1 hw2)
  clear r1 t2 b1 b2 r12 b12 s1 hw1 hw2 hs
  go_enter Tryz.func8, Tryz.ntmps8
  refine Alm.wp_cut 1 ?_
  intro T hT
  dsimp only [cutN]
  replace hT := Lib.hid hT
  go_wp2_with fail
  refine hT.out _ _ ?_
  clear hT
  dsimp only [dropN]
  change Code.wp _ _ _ _ ((w.alloc (.cells (encP x).toArray 41)).alloc (.cells (encP zeroPE).toArray 41))
  rw [← HW.out.1, ← HW.out.2]
  clear HW
  go_wp2_with fail
  refine wp_region_sched (fun V => V.rangeAt w.heap.size 0 (encP x)) [.t 0, .t 2, .s 1, .e 3 true, .e 4 true, .t 5, .e 6 false] (by kernel_rfl) (by kernel_rfl) (by intro c a d v w h; cases d <;> exact h) ?_
  have H1 := Lib.hid (And.intro (show w2.drew.rangeAt w.heap.size 0 (encP x) from H0.out.1) (And.intro ((Keeps.of_below (X := fun _ => False) (Below.refl w2.heap.size w2).drew).there H0.out.2.1 (by decide) (fun h => h)) (And.intro H0.out.2.2.1.drew (bytes_below H0.out.2.2.2 (Below.refl _ _).drew (Nat.le_refl _)))))
  clear H0
  generalize w2.drew = V at *
  iterate 2
    refine wpS_t rfl (v := ?_) (by rfl) (fun W => ?_) ?_
    rotate_left
    · go_simp
      try rfl
    try simp only [Act.put, List.setIfInBounds_toArray, List.set_cons_zero, List.set_cons_succ]
  refine wpS_load_sum (by exact H1.out.1) rfl (by rfl) _ (by rfl) w.heap.size 0 (by rfl) x.1 (fun W hW => encP_key hW) ?_
  try simp only [Act.put, List.setIfInBounds_toArray, List.set_cons_zero, List.set_cons_succ]
  refine wpS_k rfl (by rfl) (fun K hK => ?_)
  have g := encP_cell H1.out.1
  go_simp
  refine hK _ _ ⟨by exact H1.out.1, ?_⟩; clear hK K
  try simp only [Act.put, List.setIfInBounds_toArray, List.set_cons_zero, List.set_cons_succ]
  clear g
  refine wpS_k rfl (by rfl) (fun K hK => ?_)
  go_simp
  refine (twin_bytes l (peV x) V H1.out.2.2.2 hl).mono ?_
  rintro e V1 ⟨v', rfl, ht, hb⟩
  have kk := Keeps.of_below (X := fun _ => False) hb
  obtain ⟨g, cap, rfl, ht'⟩ := id ht
  have hgt : ∀ i, (Value.slice (some ⟨g, 0, none⟩) l.length cap).ownBlock = some i → V.heap.size ≤ i := fun i hi => ((TwinB.lie ht).lt i hi).1
  have H2 := Lib.hid (And.intro (kk.range H1.out.1 (fun h => h)) (And.intro (kk.there H1.out.2.1 (by decide) (fun h => h)) (And.intro (H1.out.2.2.1.trans (hb.mono H1.out.2.2.1.size)) (And.intro ht (And.intro hgt (there_lt H1.out.2.1 (by decide)))))))
  clear kk hb ht hgt ht'
  refine hK _ _ ⟨by exact H2.out.1, ?_⟩; clear hK K
  try simp only [Act.put, List.setIfInBounds_toArray, List.set_cons_zero, List.set_cons_succ]
  obtain ⟨y, hy⟩ : ∃ y : PE, y = (x.1, some ⟨g, 0, none⟩, l.length, cap) := ⟨_, rfl⟩
  refine wpS_t rfl (v := .agg (encP y).toArray) (by rfl) (fun W => exec_build_pair _ rfl y (by rw [hy]; rfl) W) ?_
  try simp only [Act.put, List.setIfInBounds_toArray, List.set_cons_zero, List.set_cons_succ]
  have HY := Lib.hid hy
  clear hy
  have hsz' : (encP y).toArray.size = 33 := by rw [List.size_toArray, length_encP]
  refine wpS_e rfl (by rfl) (fun K hK => ?_)
  refine wp_store_mid 41 _ _ rfl (w.heap.size + 1) 0 (encP y).toArray (by rfl) (by rfl) (by rw [hsz']; exact H2.out.2.1) (by rw [hsz']; exact infoPair) (all_encP y) ?_
  refine hK _ _ ?_; clear hK K
  try simp only [Act.put]
  refine wpS_done ?_
  go_wp2_with fail
  have k2 := keeps_setCells_ (w.heap.size + 1) (encP y) 0 V1
  have ht9 := H2.out.2.2.2.1.keep k2 (fun x hx e => by have h1 := H2.out.2.2.2.2.1 x hx; have h2 := H2.out.2.2.2.2.2; omega)
  have hVs : w.heap.size ≤ V.heap.size := by have := H2.out.2.2.2.2.2; omega
  have ht8 : TwinB (V1.setCells (w.heap.size + 1) 0 (encP y)) w.heap.size (.slice (some ⟨g, 0, none⟩) l.length cap) l := by
    obtain ⟨g', cap', he, hl⟩ := ht9
    exact ⟨g', cap', he, hl.mono hVs⟩
  exact bodyPost_ret (results_mid Tryz.results8 _ _ (w.heap.size + 1) 0 (encP y) _ rfl (range_stored _ _ _ _ (by rw [length_encP]; exact World.there_setCells H2.out.2.1 _ _ _)) Tryz.underlying41 rfl (by rw [length_encP]; exact infoPair)) rfl
    ⟨g, cap, by rw [HY.out], ht8, setCells_below _ (by omega) _ _ _ _ H2.out.2.2.1⟩
set_option maxRecDepth 100000 in
set_option maxHeartbeats 1000000 in
theorem left_pair (y x : PE) (hxy : y.1 = x.1) (l : List UInt8) (base : Nat) (w : World) (ht : TwinB w base (peV y) l) (hv : BytesAt w (peV x) l) (hl : l.length < 900000) : Calls Tryz.prog 10 #[.agg (encP y).toArray, .agg (encP x).toArray] w fun e w' => e = .returned (.bool true) ∧ Below w.heap.size w w' := by
  have hz : (w.alloc (.cells (encP y).toArray 41)).heap.size = w.heap.size + 1 := Array.size_push _
  have h1 : ((w.alloc (.cells (encP y).toArray 41)).alloc (.cells (encP x).toArray 41)).rangeAt w.heap.size 0 (encP y) := World.rangeAt_alloc (range_new w (encP y).toArray 41 _ rfl) _
  have h2 : ((w.alloc (.cells (encP y).toArray 41)).alloc (.cells (encP x).toArray 41)).rangeAt (w.heap.size + 1) 0 (encP x) := by rw [← hz]; exact range_new _ (encP x).toArray 41 _ rfl
  have hB := al (al (Below.refl _ w) (.cells (encP y).toArray 41)) (.cells (encP x).toArray 41)
  have hb2 := bytes_below hv hB (Nat.le_refl _)
  have H := Lib.hid (And.intro h1 (And.intro h2 (And.intro hB (And.intro (ht.below hB) hb2))))
  clear h1 h2 hz hB hb2 ht hv
  have heq := eq_sums y.1 x.1
  have hd : decide (y.1 = x.1) = true := by simpa using hxy
  rw [hd] at heq
  clear hd hxy
  have c1 := encP_cell H.out.1
  have c2 := encP_cell H.out.2.1
  have HL := Lib.hid hl
  clear hl
  go_enter Tryz.func10, Tryz.ntmps10
  go_wp2_with (first
    | (refine wpList_load_sum rfl _ rfl w.heap.size 0 rfl y.1 (encP_key H.out.1) ?_)
    | (refine wpList_load_sum rfl _ rfl (w.heap.size + 1) 0 rfl x.1 (encP_key H.out.2.1) ?_))
  refine (left_bytes l (peV y) (peV x) base _ H.out.2.2.2.1 H.out.2.2.2.2 HL.out).mono ?_
  rintro e W1 ⟨rfl, hb1⟩
  have HB := Lib.hid (H.out.2.2.1.trans (hb1.mono H.out.2.2.1.size))
  clear hb1
  go_wp2_with fail
  exact bodyPost_ret (results_tmp rfl _ _ _) rfl ⟨rfl, HB.out⟩
theorem get_hit {P : List Keys.Pr} {k : Sum} {j : Nat} {bs : List UInt8} (h : P[j]? = some (k, bs)) (hn : ∀ p ∈ P.take j, p.1 ≠ k) : Keys.get P k = bs := by
  have hj := (List.getElem?_eq_some_iff.1 h).1
  have he := (List.getElem?_eq_some_iff.1 h).2
  have e : P.find? (fun p => decide (p.1 = k)) = some (k, bs) := by
    conv => lhs; rw [← List.take_append_drop j P, List.find?_append, List.drop_eq_getElem_cons hj, he]
    have h0 : (P.take j).find? (fun p => decide (p.1 = k)) = none := List.find?_eq_none.2 fun p hp => by simpa using hn p hp
    rw [h0]
    simp
  unfold Keys.get
  rw [e]
theorem get_miss {P : List Keys.Pr} {k : Sum} (hn : ∀ p ∈ P, p.1 ≠ k) : Keys.get P k = [] := by
  have h0 : P.find? (fun p => decide (p.1 = k)) = none := List.find?_eq_none.2 fun p hp => by simpa using hn p hp
  unfold Keys.get
  rw [h0]
set_option maxRecDepth 100000 in
set_option maxHeartbeats 1000000 in
theorem rget_any (P : List Keys.Pr) (k : Sum) (vl : Value) (w : World) (hl : PairsAt w vl P) (hb : ∀ p ∈ P, p.2.length < 4000000000) (hN : P.length < 100000) :
    Calls Tryz.prog 18 #[vl, sv k] w fun e w' => ∃ v, e = .returned v ∧ BytesAt w' v (Keys.get P k) ∧ Below w.heap.size w w' := by
  obtain ⟨al_, cl, hv, hl1, hl2⟩ := pairs_form hl
  subst hv
  obtain ⟨N, hNN⟩ : ∃ N, N = P.length := ⟨_, rfl⟩
  rw [← hNN] at hl hl1 ⊢
  obtain ⟨z, hz⟩ : ∃ z, z = w.heap.size := ⟨_, rfl⟩
  have hb0 := al (Below.refl _ w) (.cells (cellsOf k).toArray 24)
  have hr0 : (w.alloc (.cells (cellsOf k).toArray 24)).rangeAt z 0 (cellsOf k) := by rw [hz]; exact range_new w (cellsOf k).toArray 24 _ rfl
  have H0 := Lib.hid (And.intro hr0 (hl.below hb0))
  have HBW := Lib.hid hb0
  have HZ := Lib.hid hz
  have HN := Lib.hid (And.intro hN (And.intro hNN hb))
  have k1 : (N : Int) ≤ (cl : Int) := by omega
  clear hb0 hz hr0 hl hb hN hNN hl2
  go_enter Tryz.func18, Tryz.ntmps18
  go_wp2_with fail
  rw [← HZ.out]
  generalize w.alloc (.cells (cellsOf k).toArray 24) = W0 at *
  go_loopw [5] (fun iv W => ∃ j : Nat, j ≤ N ∧ iv = .int .i64 (j : Int) ∧ (∀ p ∈ P.take j, p.1 ≠ k) ∧ Below W0.heap.size W0 W) (fun iv _ => N - (intOf iv).toNat)
  case atStart => exact ⟨0, Nat.zero_le _, rfl, (fun p hp => by simp at hp), Below.refl _ _⟩
  case round =>
    obtain ⟨j, hj, rfl, hn, hB⟩ := hrel
    have HR := Lib.hid (And.intro hn hB)
    clear hn hB
    by_cases hlt : j < N
    · obtain ⟨c1, c1', hj0, hlt'⟩ := dec_lt hlt
      have hPA := H0.out.2.below HR.out.2
      obtain ⟨ba, oa, ca, y, yb, he1, hr1, hyb, hyP⟩ := pairs_one hPA (i := j) (by rw [← HN.out.2.1]; exact hlt)
      simp only [Value.slice.injEq] at he1
      obtain ⟨rfl, -, rfl⟩ := he1
      have hmem : (y.1, yb) ∈ P := List.mem_of_getElem? hyP
      have HY := Lib.hid (And.intro hyb (And.intro hyP (HN.out.2.2 _ hmem)))
      have HX := Lib.hid (And.intro hr1 ((Keeps.of_below (X := fun _ => False) HR.out.2).range H0.out.1 (fun h => h)))
      have HJ := Lib.hid (And.intro hj hlt)
      clear hPA hr1 hyb hyP hmem hj
      go_wp2_with fail
      refine wp_region_sched (fun V => V.rangeAt ba (oa + j * 33) (cellsOf y.1)) [.t 0, .t 1, .t 2, .t 3, .s 4, .e 5 true, .t 6] (by kernel_rfl) (by kernel_rfl) (by intro c a d v w h; cases d <;> exact h) ?_
      have hd := (Below.refl wr.heap.size wr).drew
      have kk := Keeps.of_below (X := fun _ => False) hd
      have HXY := Lib.hid (And.intro (kk.range HX.out.1 (fun h => h)) (And.intro (kk.range HX.out.2 (fun h => h)) (And.intro (bytes_below HY.out.1 hd (Nat.le_refl _)) (HR.out.2.trans (hd.mono HR.out.2.size)))))
      clear hd kk
      generalize World.drew _ = VV at *
      have heq := eq_sums y.1 k
      obtain ⟨d, hdd⟩ : ∃ d, d = decide (y.1 = k) := ⟨_, rfl⟩
      rw [← hdd] at heq
      have HD := Lib.hid hdd
      clear hdd
      iterate 4
        refine wpS_t rfl (v := ?_) (by rfl) (fun W => ?_) ?_
        rotate_left
        · go_simp
          try rfl
        try simp only [Act.put, List.setIfInBounds_toArray, List.set_cons_zero, List.set_cons_succ]
      refine wpS_load_sum (by exact encP_key HXY.out.1) rfl (by rfl) _ (by rfl) ba (oa + j * 33) (by rfl) y.1 (fun V hV => hV) ?_
      try simp only [Act.put, List.setIfInBounds_toArray, List.set_cons_zero, List.set_cons_succ]
      refine wpS_k rfl (by rfl) (fun K hK => ?_)
      refine wp_load_sum _ (by rfl) z 0 (by rfl) k HXY.out.2.1 ?_
      refine hK _ _ ⟨by exact encP_key HXY.out.1, ?_⟩; clear hK K
      try simp only [Act.put, List.setIfInBounds_toArray, List.set_cons_zero, List.set_cons_succ]
      iterate 1
        refine wpS_t rfl (v := ?_) (by rfl) (fun W => ?_) ?_
        rotate_left
        · go_simp
          try rfl
        try simp only [Act.put, List.setIfInBounds_toArray, List.set_cons_zero, List.set_cons_succ]
      refine wpS_done ?_
      clear heq
      cases d with
      | true =>
        have hky : y.1 = k := of_decide_eq_true HD.out.symm
        have hget := get_hit (P := P) (k := k) (bs := yb) (by rw [← hky]; exact HY.out.2.1) HR.out.1
        have HG := Lib.hid hget
        clear hky hget
        have gy : VV.cell? ⟨ba, oa + j * 33 + 32, none⟩ = some (peV y) := by
          have := HXY.out.1 32 (peV y) (by rw [encP, List.getElem?_append_right (by rw [length_cellsOf]; omega), length_cellsOf]; rfl)
          exact this
        go_wp2_with (at_builtin; refine wpList_plain rfl fun _ hK => wp_append_nil_bytesB _ _ rfl rfl (peV y) yb rfl HXY.out.2.2.1 HY.out.2.2 ?_; intro ax cx V1 hb1 hbx hbo; refine hK _ _ ?_; have HF := Lib.hid (And.intro hbx (HXY.out.2.2.2.trans (hb1.mono HXY.out.2.2.2.size))); clear hb1 hbx hbo hK)
        refine bodyPost_ret (results_tmp rfl _ _ _) rfl ⟨_, rfl, by rw [HG.out]; exact HF.out.1, HBW.out.trans (HF.out.2.mono HBW.out.size)⟩
      | false =>
        have hky : ¬ y.1 = k := of_decide_eq_false HD.out.symm
        have hn2 : ∀ p ∈ P.take (j + 1), p.1 ≠ k := fun p hp => by
          have hjP : j < P.length := by rw [← HN.out.2.1]; exact hlt
          rw [List.take_succ_eq_append_getElem hjP, List.mem_append, List.mem_singleton] at hp
          rcases hp with hp | hp
          · exact HR.out.1 p hp
          · have h1 := HY.out.2.1
            rw [List.getElem?_eq_getElem hjP, Option.some.injEq] at h1
            rw [hp, h1]; exact hky
        have HN2 := Lib.hid hn2
        have hwj : wrap64 ((j : Int) + 1) = ((j + 1 : Nat) : Int) := by have := HN.out.1; have := HN.out.2.1; have := HJ.out.2; unfold wrap64; omega
        have HWJ := Lib.hid hwj
        clear hky hn2 hwj
        go_wp2_with fail
        rw [HWJ.out]
        exact ⟨⟨j + 1, hlt, rfl, HN2.out, HXY.out.2.2.2⟩, by simp only [intOf, Int.toNat_natCast]; omega⟩
    · have hjn : j = N := by omega
      subst hjn
      have hm := get_miss (P := P) (k := k) (by have h := HR.out.1; rwa [List.take_of_length_le (by rw [HN.out.2.1]; exact Nat.le_refl _)] at h)
      have HM := Lib.hid hm
      clear hm
      go_wp2_with fail
      exact bodyPost_ret (results_tmp rfl _ _ _) rfl ⟨_, rfl, by rw [HM.out]; exact ⟨none, 0, rfl, Nat.le_refl _, by decide, .inl rfl⟩, HBW.out.trans (HR.out.2.mono HBW.out.size)⟩
set_option maxRecDepth 100000 in
theorem rroot_any (P : List Keys.Pr) (v : Value) (w : World) (hv : PairsAt w v P) (hb : ∀ p ∈ P, p.2.length < 900000) (hN : P.length < 100000) :
    Calls Tryz.prog 21 #[v] w fun e w' => e = .returned (sv (atH 256 P)) ∧ Below w.heap.size w w' := by
  obtain ⟨w1, hw1⟩ : ∃ x, x = w.alloc (.cells (cells8 (List.replicate 32 0)).toArray 24) := ⟨_, rfl⟩
  have b1 : Below w.heap.size w w1 := by rw [hw1]; exact al (Below.refl _ _) _
  have t1 : w1.there w.heap.size 0 32 := by rw [hw1]; exact there_new w (cells8 (List.replicate 32 0)).toArray 24
  have H0 := Lib.hid (And.intro (hv.below b1) (And.intro b1 t1))
  have HW := Lib.hid hw1
  have HN := Lib.hid (And.intro hb hN)
  obtain ⟨R, hR⟩ : ∃ R, R = atH 256 P := ⟨_, rfl⟩
  rw [← hR]
  have HR := Lib.hid hR
  clear hw1 b1 t1 hv hb hN hR
  go_enter Tryz.func21, Tryz.ntmps21
  refine Alm.wp_cut 1 ?_
  intro T hT
  dsimp only [cutN]
  replace hT := Lib.hid hT
  go_wp2_with fail
  refine hT.out _ _ ?_
  clear hT
  dsimp only [dropN]
  change Code.wp _ _ _ _ (w.alloc (.cells (cells8 (List.replicate 32 0)).toArray 24))
  rw [← HW.out]
  clear HW
  go_wp2_with (go_at_call 66; refine (rall_any w1).mono ?_; rintro e w2 ⟨vn, rfl, hn, hb2⟩; refine Hid.out ?_)
  refine Lib.hid ?_
  have kk := Keeps.of_below (X := fun _ => False) hb2
  have hat := rat_any 256 P v vn w2 (Nat.le_refl _) (H0.out.1.below hb2) hn HN.out.1 HN.out.2
  rw [← HR.out] at hat
  rw [show ((256 - 256 : Nat) : Int) = 0 from rfl] at hat
  have HA := Lib.hid (And.intro hat (And.intro (H0.out.2.1.trans (hb2.mono H0.out.2.1.size)) (kk.there H0.out.2.2 (by decide) (fun h => h))))
  clear hat kk hn hb2
  go_wp2_with (go_at_call 65; refine HA.out.1.mono ?_; rintro e w3 ⟨rfl, hb3⟩; refine Hid.out ?_)
  refine Lib.hid ?_
  have HF := Lib.hid (And.intro (HA.out.2.1.trans (hb3.mono HA.out.2.1.size)) ((Keeps.of_below (X := fun _ => False) hb3).there HA.out.2.2 (by decide) (fun h => h)))
  clear hb3
  go_wp2_with (refine wpList_store_sum rfl _ _ rfl w.heap.size 0 R rfl rfl HF.out.2 ?_)
  exact bodyPost_ret (results_sum Tryz.results21 _ _ _ _ rfl (World.there_setCells HF.out.2 _ _ _)) rfl ⟨rfl, setCells_below _ (Nat.le_refl _) _ _ _ _ HF.out.1⟩
end Go.Proofs.YtfmgoehnbaiamaaGreatDoor
-- Walks: maps: Get, Pairs: what they answer lies in memory of its own, with its room.
namespace Go.Proofs.YtfmgoehnbaiamaaGreatDoor
set_option maxRecDepth 100000 in
set_option maxHeartbeats 1000000 in
theorem mget_lie (k : Sum) (w : World) (p b n : Nat) (l : List Ent) (h : MapIn w p b n l) : Calls Tryz.prog 14 #[.pointer (some ⟨p, 0, none⟩), sv k] w fun e w' => ∃ v, e = .returned (.tuple #[v, .int .i64 0]) ∧ Lie w' w.heap.size 1 v (ones (Keys.get (prs l) k)) ∧ Below w.heap.size w w' := by
  have H0 := Lib.hid (GS.start h k)
  clear h
  obtain ⟨bs, hbs⟩ : ∃ bs, bs = Keys.get (prs l) k := ⟨_, rfl⟩
  rw [← hbs]
  have HS := Lib.hid hbs
  clear hbs
  go_enter Tryz.func14, Tryz.ntmps14
  go_wp2_with (go_at_call 48; refine (mnone_live _ p b H0.out.cell).mono ?_; rintro e w1 ⟨rfl, rfl⟩)
  generalize w.alloc (.cells (cellsOf k).toArray 24) = W at *
  refine wp_region_sched (fun V => V.cell? ⟨p, 0, none⟩ = some (.map (some b)) ∧ GS w p b n l k V) [.t 0, .t 1, .t 2, .s 3, .e 4 true, .e 5 false, .e 6 false, .e 7 false, .t 8, .t 9] (by kernel_rfl) (by kernel_rfl) (by intro c a d v w h; cases d <;> exact h) ?_
  replace H0 := Lib.hid H0.out.drew
  generalize W.drew = W at *
  iterate 3
    refine wpS_t rfl (v := ?_) (by rfl) (fun W => ?_) ?_
    rotate_left
    · go_simp
      try rfl
    try simp only [Act.put, List.setIfInBounds_toArray, List.set_cons_zero, List.set_cons_succ]
  refine wpS_s (by exact ⟨H0.out.cell, H0.out⟩) rfl (v := ?_) (by rfl) (fun W hSW => ?_) ?_
  rotate_left
  · go_simp
    try rfl
  try simp only [Act.put, List.setIfInBounds_toArray, List.set_cons_zero, List.set_cons_succ]
  refine wpS_k rfl (by rfl) (fun K hK => ?_)
  refine wp_load_sum _ (by rfl) w.heap.size 0 (by rfl) k H0.out.key ?_
  refine hK _ _ ⟨by exact ⟨H0.out.cell, H0.out⟩, ?_⟩; clear hK K
  try simp only [Act.put, List.setIfInBounds_toArray, List.set_cons_zero, List.set_cons_succ]
  refine wpS_e rfl (by rfl) (fun K hK => ?_)
  refine wp_lookup_map _ _ (by rfl) p b n l (by rfl) H0.out.map k (by rfl) ?_
  refine hK _ _ ?_; clear hK K
  try simp only [Act.put, List.setIfInBounds_toArray, List.set_cons_zero, List.set_cons_succ]
  obtain ⟨g1, g2⟩ := getE_bytes H0.out.map k
  generalize (getE l k).1 = v0 at *
  rw [← HS.out] at g1 g2
  refine wpS_e rfl (by rfl) (fun K hK => ?_)
  go_simp
  refine (clone_lie W v0 bs g1 (by omega)).mono ?_
  rintro e V1 ⟨v1, rfl, hn1, hb1⟩
  have H1 := Lib.hid (And.intro hn1 (H0.out.next hb1).below)
  have hsz := H0.out.below.size
  clear hn1 hb1 H0 g1
  refine hK _ _ ?_; clear hK K
  try simp only [Act.put, List.setIfInBounds_toArray, List.set_cons_zero, List.set_cons_succ]
  refine wpS_e rfl (by rfl) (fun K hK => ?_)
  go_simp
  refine (clip_lie V1 W.heap.size v1 bs H1.out.1).mono ?_
  rintro e V2 ⟨v2, rfl, hn2, rfl⟩
  have H2 := Lib.hid (And.intro (show Lie V1 w.heap.size 1 v2 (ones bs) from hn2.mono hsz) H1.out.2)
  clear hn2 H1 hsz
  refine hK _ _ ?_; clear hK K
  try simp only [Act.put, List.setIfInBounds_toArray, List.set_cons_zero, List.set_cons_succ]
  iterate 2
    refine wpS_t rfl (v := ?_) (by rfl) (fun W => ?_) ?_
    rotate_left
    · go_simp
      try rfl
    try simp only [Act.put, List.setIfInBounds_toArray, List.set_cons_zero, List.set_cons_succ]
  refine wpS_done ?_
  go_wp2_with fail
  exact bodyPost_ret (results_tmp2 rfl _ _ _) rfl ⟨_, rfl, H2.out⟩
end Go.Proofs.YtfmgoehnbaiamaaGreatDoor
