/-
  Walks: shows.empty, shows.at.
-/
import Derived.Test.YtfmgoehnbaiamaaGreatDoorZBG
open Go Go.RowKit Alm
namespace Go.Proofs.YtfmgoehnbaiamaaGreatDoor
/-- What is empty, from height 0 on; at each depth, from 0 on. -/
noncomputable def ems (n : Nat) : List Sum := (List.range n).map em
theorem length_ems (n : Nat) : (ems n).length = n := by simp [ems]
theorem ems_succ (n : Nat) : ems (n + 1) = ems n ++ [em n] := by simp [ems, List.range_succ]
theorem ems_get {n i : Nat} (h : i < n) : (ems n)[i]? = some (em i) := by simp [ems, h]
noncomputable def nones : List Sum := (ems 257).reverse
theorem length_nones : nones.length = 257 := by simp [nones, length_ems]
theorem nones_get {d : Nat} (h : d ≤ 256) : nones[d]? = some (em (256 - d)) := by
  unfold nones
  rw [List.getElem?_reverse (by rw [length_ems]; omega), length_ems, ems_get (by omega)]
/-- What empty has in hand. -/
structure EW (w W : World) (g j cap : Nat) : Prop where
  bw : Below w.heap.size w W
  own : W.ownsRow w.heap.size 24 32 (.slice (some ⟨g, 0, none⟩) (j + 1) cap) (j + 1) (cellsAll (ems (j + 1)))
set_option maxRecDepth 100000 in
set_option maxHeartbeats 2000000 in
theorem sempty_any (w : World) : Calls Tryz.prog 95 #[] w fun e w' => ∃ v, e = .returned v ∧ SumsAt w' v nones ∧ (∃ a c, v = .slice a 257 c) ∧ Below w.heap.size w w' := by
  go_enter Tryz.func95, Tryz.ntmps95
  go_wp2_with fail
  have HE := Lib.hid (empty_any 0 w (by omega))
  refine HE.out.mono ?_
  rintro e w1 ⟨rfl, hb1⟩
  have HB1 := Lib.hid hb1
  clear hb1 HE
  go_wp2_with (refine wpList_plain rfl fun K hK => ?_; refine wp_build_sums 1 _ (by rfl) [em 0] rfl (by omega) (by omega) (by rfl) ?_; refine hK _ _ ?_; clear hK K)
  obtain ⟨g0, hg0⟩ : ∃ g, g = w1.heap.size := ⟨_, rfl⟩
  have hw1 := HB1.out.size
  have h0 : EW w (w1.alloc (.cells (cellsAll [em 0]).toArray 24)) g0 0 1 := ⟨al HB1.out _, by
    rw [hg0]
    have e1 : ems (0 + 1) = [em 0] := rfl
    rw [e1]
    have e2 : (cellsAll [em 0]).length = 32 := by simp [cellsAll, length_cellsOf]
    exact ⟨e2, .inr ⟨w1.heap.size, 1, _, rfl, hw1, heap_alloc_new w1 _, Nat.le_refl _, by unfold maxLen; omega, by rw [List.size_toArray, e2], by rw [List.take_of_length_le (by rw [List.toList_toArray, e2]; omega)]⟩⟩⟩
  have H0 := Lib.hid h0
  rw [← hg0]
  clear h0 hw1 hg0 HB1
  generalize w1.alloc (.cells (cellsAll [em 0]).toArray 24) = W1 at *
  clear w1
  go_loopw [1, 4] (fun sv_ iv W => ∃ (j : Nat) (g cap : Nat), j ≤ 256 ∧ sv_ = .slice (some ⟨g, 0, none⟩) (j + 1) cap ∧ iv = .int .i64 (j : Int) ∧ EW w W g j cap) (fun _ iv _ => 256 - (intOf iv).toNat)
  case atStart => exact ⟨0, g0, 1, by omega, rfl, rfl, H0.out⟩
  case round =>
    clear H0
    obtain ⟨j, g, cap, hj, rfl, rfl, hE⟩ := hrel
    have HE := Lib.hid hE
    clear hE
    by_cases hlt : j < 256
    · have c1 : decide (j < 256) = true := by simpa using hlt
      have c1' : decide ((j : Int) < 256) = true := by simp; omega
      obtain ⟨J, hJ⟩ : ∃ J, J = j + 1 := ⟨_, rfl⟩
      have ho := HE.out.own
      have hr := own_sum_range ho
      have hr1 := range_at hr (i := j) (by rw [length_ems]; omega)
      have hg1 : (ems (j + 1))[j]'(by rw [length_ems]; omega) = em j := by
        have := ems_get (n := j + 1) (i := j) (by omega)
        rw [List.getElem?_eq_getElem (by rw [length_ems]; omega), Option.some.injEq] at this
        exact this
      rw [hg1, Nat.zero_add] at hr1
      rw [← hJ] at ho ⊢
      have HJ := Lib.hid (And.intro hJ hlt)
      have HO := Lib.hid ho
      have HR := Lib.hid hr1
      have hw : IntKind.i64.wrap ((J : Int) - 1) = (j : Int) := by rw [IntKind.wrap_i64]; omega
      have hjJ : (j : Int) < (J : Int) := by omega
      have hj0 : (0 : Int) ≤ (j : Int) := by omega
      clear ho hr hr1 hg1 hJ hlt
      go_wp2_with fail
      refine wp_region_sched (fun W => W.rangeAt g (j * 32) (cellsOf (em j))) [.t 0, .t 1, .t 2, .t 3, .t 4, .t 5, .t 7, .t 8, .t 9, .t 10, .t 11, .s 6, .e 12 true, .e 13 false, .e 14 false, .e 15 false, .t 16] (by kernel_rfl) (by kernel_rfl) (by intro c a d v w h; cases d <;> exact h) ?_
      have HB1 := Lib.hid (And.intro HE.out.bw.drew (And.intro (show wr.drew.rangeAt g (j * 32) (cellsOf (em j)) from HR.out) (show wr.drew.ownsRow w.heap.size 24 32 (.slice (some ⟨g, 0, none⟩) J cap) J (cellsAll (ems J)) from HO.out)))
      clear HE HR HO
      generalize wr.drew = V at *
      iterate 11
        refine wpS_t rfl (v := ?_) (by rfl) (fun W => ?_) ?_
        rotate_left
        · go_simp
          try rfl
        try simp only [Act.put, List.setIfInBounds_toArray, List.set_cons_zero, List.set_cons_succ]
      refine wpS_load_sum (by exact HB1.out.2.1) rfl (by rfl) _ (by rfl) g (j * 32) (by rfl) (em j) (fun V hV => hV) ?_
      try simp only [Act.put, List.setIfInBounds_toArray, List.set_cons_zero, List.set_cons_succ]
      refine wpS_k rfl (by rfl) (fun K hK => ?_)
      refine wp_load_sum _ (by rfl) g (j * 32) (by rfl) (em j) HB1.out.2.1 ?_
      refine hK _ _ ⟨by exact HB1.out.2.1, ?_⟩; clear hK K
      try simp only [Act.put, List.setIfInBounds_toArray, List.set_cons_zero, List.set_cons_succ]
      refine wpS_e rfl (by rfl) (fun K hK => ?_)
      go_simp
      refine (sd_any (em j) (em j) V).mono ?_
      rintro e V1 ⟨rfl, hb1⟩
      rw [← em_succ, ← HJ.out.1]
      have HB2 := Lib.hid (And.intro (HB1.out.1.trans (hb1.mono HB1.out.1.size)) ((Keeps.of_below (X := fun _ => False) hb1).owns HB1.out.2.2 (fun _ _ h => h)))
      clear HB1 hb1
      refine hK _ _ ?_; clear hK K
      try simp only [Act.put, List.setIfInBounds_toArray, List.set_cons_zero, List.set_cons_succ]
      refine wpS_e rfl (by rfl) (fun K hK => ?_)
      refine wp_build_sums 1 _ (by rfl) [em J] rfl (by omega) (by omega) (by rfl) ?_
      have hb2 := al (Below.refl V1.heap.size V1) (.cells (cellsAll [em J]).toArray 24)
      have HB3 := Lib.hid (And.intro (HB2.out.1.trans (hb2.mono HB2.out.1.size)) (And.intro ((Keeps.of_below (X := fun _ => False) hb2).owns HB2.out.2 (fun _ _ h => h)) (range_new V1 (cellsAll [em J]).toArray 24 _ rfl)))
      clear HB2 hb2
      refine hK _ _ ?_; clear hK K
      try simp only [Act.put, List.setIfInBounds_toArray, List.set_cons_zero, List.set_cons_succ]
      generalize V1.heap.size = q at *
      generalize V1.alloc (.cells (cellsAll [em J]).toArray 24) = V2 at *
      refine wpS_e rfl (by rfl) (fun K hK => ?_)
      refine wp_append_sums _ _ (by rfl) w.heap.size (.slice (some ⟨g, 0, none⟩) J cap) (ems J) [em J] J 1 (length_ems J) rfl (by rfl) HB3.out.2.1 q 0 1 (by rfl) HB3.out.2.2 (by omega) (by have := HJ.out; omega) HB3.out.1.size ?_
      intro g3 cap3 V3 ho3 hg3 _ _
      rw [← ems_succ] at ho3
      have HE3 := Lib.hid (show EW w V3 g3 J cap3 from ⟨HB3.out.1.grown hg3 HB3.out.1.size (fun k hk => own_base HB3.out.2.1 k hk), ho3⟩)
      clear ho3 hg3 HB3
      refine hK _ _ ?_; clear hK K
      try simp only [Act.put, List.setIfInBounds_toArray, List.set_cons_zero, List.set_cons_succ]
      iterate 1
        refine wpS_t rfl (v := ?_) (by rfl) (fun W => ?_) ?_
        rotate_left
        · go_simp
          try rfl
        try simp only [Act.put, List.setIfInBounds_toArray, List.set_cons_zero, List.set_cons_succ]
      refine wpS_done ?_
      go_wp2_with fail
      refine ⟨⟨J, g3, cap3, by have := HJ.out; omega, rfl, congrArg _ (by have := HJ.out; omega), HE3.out⟩, ?_⟩
      simp only [intOf]
      have := HJ.out
      omega
    · have hj6 : j = 256 := by omega
      subst hj6
      have hne : ems 257 ≠ [] := fun e => by have := length_ems 257; rw [e] at this; cases this
      have hn := own_new (l := ems 257) (by rw [length_ems]; exact HE.out.own) hne
      have HN := Lib.hid hn
      have HB := Lib.hid HE.out.bw
      clear hn hne HE hj hlt
      go_wp2_with fail
      refine (reverse_sums wr w.heap.size _ (ems 257) HN.out (by rw [length_ems]; omega)).mono ?_
      rintro e w2 ⟨rfl, hn2, hk2⟩
      have HN2 := Lib.hid (And.intro hn2.sums (HB.out.trans (hk2.below HB.out.size (fun k hk => HN.out.own k hk))))
      clear hn2 hk2 HN HB
      go_wp2_with fail
      exact bodyPost_ret (results_tmp rfl _ _ _) rfl ⟨.slice (some ⟨g, 0, none⟩) 257 cap, rfl, HN2.out.1, ⟨_, _, rfl⟩, HN2.out.2⟩
/-- One of what is empty. -/
theorem nones_at {w : World} {v : Value} (h : SumsAt w v nones) : ∃ b o c, v = .slice (some ⟨b, o, none⟩) 257 c ∧ 257 ≤ c ∧ ∀ W, Below w.heap.size w W → ∀ n, n ≤ 256 → W.rangeAt b (o + (256 - n) * 32) (cellsOf (em n)) := by
  obtain ⟨a, c, rfl, h1, h2, h3⟩ := h
  have hne : nones ≠ [] := fun e => by have := length_nones; rw [e] at this; cases this
  obtain ⟨b, o, rfl, hr⟩ := h3.resolve_left hne
  rw [length_nones] at h1
  refine ⟨b, o, c, by rw [length_nones], h1, fun W hb n hn => ?_⟩
  have hl : 256 - n < nones.length := by rw [length_nones]; omega
  have h4 := range_at hr (i := 256 - n) hl
  have h5 := nones_get (d := 256 - n) (by omega)
  rw [List.getElem?_eq_getElem hl, Option.some.injEq, show 256 - (256 - n) = n by omega] at h5
  rw [h5] at h4
  exact (Keeps.of_below (X := fun _ => False) hb).range h4 (fun h => h)
set_option maxRecDepth 100000 in
set_option maxHeartbeats 2000000 in
theorem sat_nil (n : Nat) (a : Option Addr) (cap : Nat) (vn : Value) (w : World) (hn : n ≤ 256) (hN : SumsAt w vn nones) :
    Calls Tryz.prog 98 #[.slice a 0 cap, .int .i64 ((256 - n : Nat) : Int), vn] w fun e w' => e = .returned (sv (atH n [])) ∧ Below w.heap.size w w' := by
  obtain ⟨bn, on, cn, rfl, hcn, hr⟩ := nones_at hN
  have hb0 := al (Below.refl _ w) (.cells (cells8 (List.replicate 32 0)).toArray 24)
  have ht0 := there_new w (cells8 (List.replicate 32 0)).toArray 24
  have HB0 := Lib.hid (And.intro hb0 (And.intro ht0 (hr _ hb0 n hn)))
  obtain ⟨A, hA⟩ : ∃ A, A = em n := ⟨_, rfl⟩
  rw [atH_nil, ← hA]
  rw [← hA] at HB0
  obtain ⟨D, hD⟩ : ∃ D, D = 256 - n := ⟨_, rfl⟩
  rw [← hD] at HB0 ⊢
  have hD0 : (0 : Int) ≤ (D : Int) := by omega
  have hD1 : (D : Int) < 257 := by omega
  clear hb0 ht0 hr hA hD hN
  go_enter Tryz.func98, Tryz.ntmps98
  go_wp2_with (first
    | (refine wpList_load_sum rfl _ rfl bn (on + D * 32) rfl A HB0.out.2.2 ?_)
    | (refine wpList_store_sum rfl _ _ rfl w.heap.size 0 A rfl rfl HB0.out.2.1 ?_))
  try rw [Exit.noGoto_ret]
  exact bodyPost_ret (results_sum Tryz.results98 _ _ _ _ rfl (World.there_setCells HB0.out.2.1 _ _ _)) rfl ⟨rfl, setCells_below _ (Nat.le_refl _) _ _ _ _ HB0.out.1⟩
theorem same_zero {n : Nat} {P : List Keys.Pr} (h : Keys.Same (n + 1) P) : Keys.Same n (P.filter fun p => !(Keys.kn p.1).testBit n) := fun p hp q hq => by
  obtain ⟨h1, h2⟩ := List.mem_filter.1 hp
  obtain ⟨h3, h4⟩ := List.mem_filter.1 hq
  have a1 : (Keys.kn p.1).testBit n = false := by simpa using h2
  have a2 : (Keys.kn q.1).testBit n = false := by simpa using h4
  rw [Keys.shr_succ (Keys.kn p.1), Keys.shr_succ (Keys.kn q.1), h p h1 q h3, a1, a2]
theorem same_one {n : Nat} {P : List Keys.Pr} (h : Keys.Same (n + 1) P) : Keys.Same n (P.filter fun p => (Keys.kn p.1).testBit n) := fun p hp q hq => by
  obtain ⟨h1, h2⟩ := List.mem_filter.1 hp
  obtain ⟨h3, h4⟩ := List.mem_filter.1 hq
  rw [Keys.shr_succ (Keys.kn p.1), Keys.shr_succ (Keys.kn q.1), h p h1 q h3, h2, h4]
theorem PairsAt.drop' {w : World} {b o cap i : Nat} {P : List Keys.Pr} (h : PairsAt w (.slice (some ⟨b, o, none⟩) P.length cap) P) (hi : i ≤ P.length) : PairsAt w (.slice (if cap = i then some ⟨b, o, none⟩ else some ⟨b, o + i * 33, none⟩) (P.length - i) (cap - i)) (P.drop i) := by
  by_cases hc : cap = i
  · rw [if_pos hc]
    obtain ⟨a, cap', cs, he, h1, h2, _⟩ := h
    simp only [Value.slice.injEq, true_and] at he
    obtain ⟨-, rfl⟩ := he
    have e : P.drop i = [] := List.drop_eq_nil_of_le (by omega)
    rw [e]
    exact ⟨some ⟨b, o, none⟩, cap - i, [], by rw [show P.length - i = 0 by omega]; rfl, Nat.zero_le _, by omega, rfl, fun c hc => (List.not_mem_nil hc).elim, .inl rfl⟩
  · rw [if_neg hc]
    exact h.drop hi
set_option maxRecDepth 100000 in
set_option maxHeartbeats 2000000 in
theorem sat_any : ∀ (n : Nat) (P : List Keys.Pr) (v vn : Value) (w : World), n ≤ 256 → PairsAt w v P → SumsAt w vn nones → Keys.Rise P → Keys.Same n P → Full P → P.length < 100000 →
    Calls Tryz.prog 98 #[v, .int .i64 ((256 - n : Nat) : Int), vn] w fun e w' => e = .returned (sv (atH n P)) ∧ Below w.heap.size w w' := by
  intro n
  induction n with
  | zero =>
    intro P v vn w hn hv hN hR hS hF hl
    by_cases hP : P = []
    · subst hP
      obtain ⟨a, cap, rfl, h1, h2⟩ := pairs_form hv
      exact sat_nil 0 a cap vn w hn hN
    · obtain ⟨ba, oa, ca, y, xs, rfl, hr1, hy1, hg1⟩ := pairs_one hv (i := 0) (List.length_pos_iff.2 hP)
      rw [Nat.zero_mul, Nat.add_zero] at hr1
      obtain ⟨bn, on, cn, rfl, hcn, _⟩ := nones_at hN
      have hxs : xs.length ≤ 256 := (hF (y.1, xs) (List.mem_iff_getElem?.2 ⟨0, hg1⟩)).2
      have hat : atH 0 P = vl y.1 xs := by
        rw [atH_zero]
        cases P with
        | nil => cases hg1
        | cons p r =>
          simp only [List.getElem?_cons_zero, Option.some.injEq] at hg1
          rw [hg1]
      obtain ⟨N, hNN⟩ : ∃ N, N = P.length := ⟨_, rfl⟩
      have h0 : N ≠ 0 := fun e => hP (List.length_eq_zero_iff.1 (by rw [← hNN, e]))
      rw [← hNN] at hv ⊢
      have hb0 := al (Below.refl _ w) (.cells (cells8 (List.replicate 32 0)).toArray 24)
      have ht0 := there_new w (cells8 (List.replicate 32 0)).toArray 24
      have kk := Keeps.of_below (X := fun _ => False) hb0
      obtain ⟨A, hA⟩ : ∃ A, A = vl y.1 xs := ⟨_, rfl⟩
      rw [hat, ← hA]
      have HB0 := Lib.hid (And.intro hb0 (And.intro ht0 (And.intro (kk.range hr1 (fun h => h)) (And.intro (bytes_below hy1 hb0 (Nat.le_refl _)) (And.intro hxs hA)))))
      clear hb0 ht0 kk hr1 hy1 hg1 hxs hA hat hv hNN hN hR hS hF hl hn
      have f1 : decide (N = 0) = false := by simpa using h0
      have f2 : decide ((N : Int) = 0) = false := by simp; omega
      have f3 : ((N : Int) == 0) = false := by rw [beq_eq_false_iff_ne]; omega
      have f4 : (0 : Int) < (N : Int) := by omega
      have f5 : 0 < N := by omega
      obtain ⟨q, hq⟩ : ∃ q, q = w.heap.size := ⟨_, rfl⟩
      have HQ := Lib.hid hq
      clear hq
      go_enter Tryz.func98, Tryz.ntmps98
      go_wp2_with fail
      have hcell : (World.drew (w.alloc (.cells (cells8 (List.replicate 32 0)).toArray 24))).cell? ⟨ba, oa + 32, none⟩ = some (peV y) := HB0.out.2.2.1 32 (peV y) (by rw [encP, List.getElem?_append_right (by rw [length_cellsOf]; omega), length_cellsOf]; rfl)
      have HC := Lib.hid (show (World.drew (w.alloc (.cells (cells8 (List.replicate 32 0)).toArray 24))).rangeAt ba oa (cellsOf y.1) ∧ _ from And.intro (encP_key HB0.out.2.2.1) hcell)
      have HD := Lib.hid (show Below w.heap.size w (World.drew (w.alloc (.cells (cells8 (List.replicate 32 0)).toArray 24))) ∧ (World.drew (w.alloc (.cells (cells8 (List.replicate 32 0)).toArray 24))).there w.heap.size 0 32 ∧ BytesAt (World.drew (w.alloc (.cells (cells8 (List.replicate 32 0)).toArray 24))) (peV y) xs from ⟨HB0.out.1.drew, HB0.out.2.1, bytes_below HB0.out.2.2.2.1 (Below.refl _ _).drew (Nat.le_refl _)⟩)
      have HXA := Lib.hid HB0.out.2.2.2.2
      clear hcell HB0
      refine wp_region_sched (fun W => W.rangeAt ba oa (cellsOf y.1) ∧ W.cell? ⟨ba, oa + 32, none⟩ = some (peV y)) [.t 0, .t 1, .t 2, .t 4, .t 5, .t 6, .s 3, .e 7 true, .e 8 false, .e 9 false] (by kernel_rfl) (by kernel_rfl) (by intro c a d v w h; cases d <;> exact h) ?_
      change wpS _ _ _ _ _ _ _ (World.drew (w.alloc (.cells (cells8 (List.replicate 32 0)).toArray 24)))
      rw [← HQ.out] at HD ⊢
      generalize World.drew (w.alloc (.cells (cells8 (List.replicate 32 0)).toArray 24)) = V at *
      iterate 6
        refine wpS_t rfl (v := ?_) (by rfl) (fun W => ?_) ?_
        rotate_left
        · go_simp
          try rfl
        try simp only [Act.put, List.setIfInBounds_toArray, List.set_cons_zero, List.set_cons_succ]
      refine wpS_load_sum (by exact HC.out) rfl (by rfl) _ (by rfl) ba oa (by rfl) y.1 (fun V hV => hV.1) ?_
      try simp only [Act.put, List.setIfInBounds_toArray, List.set_cons_zero, List.set_cons_succ]
      refine wpS_k rfl (by rfl) (fun K hK => ?_)
      have g := HC.out.2
      go_simp
      refine hK _ _ ⟨by exact HC.out, ?_⟩; clear hK K
      try simp only [Act.put, List.setIfInBounds_toArray, List.set_cons_zero, List.set_cons_succ]
      clear g
      refine wpS_e rfl (by rfl) (fun K hK => ?_)
      go_simp
      have HX := Lib.hid (vl_any y.1 xs (peV y) V HD.out.2.2 (by have := HXA.out.1; omega))
      rw [← HXA.out.2] at HX
      refine HX.out.mono ?_
      rintro e V1 ⟨rfl, hb⟩
      have H1 := Lib.hid (And.intro (HD.out.1.trans (hb.mono (by rw [HQ.out]; exact HD.out.1.size))) ((Keeps.of_below (X := fun _ => False) hb).there HD.out.2.1 (by decide) (fun h => h)))
      clear hb HX HD
      refine hK _ _ ?_; clear hK K
      try simp only [Act.put, List.setIfInBounds_toArray, List.set_cons_zero, List.set_cons_succ]
      refine wpS_e rfl (by rfl) (fun K hK => ?_)
      refine wp_store_sum _ _ (by rfl) q 0 A (by rfl) (by rfl) H1.out.2 ?_
      refine hK _ _ ?_; clear hK K
      try simp only [Act.put]
      refine wpS_done ?_
      go_wp2_with fail
      try rw [Exit.noGoto_ret]
      exact bodyPost_ret (results_sum Tryz.results98 _ _ _ _ rfl (World.there_setCells H1.out.2 _ _ _)) rfl ⟨rfl, setCells_below _ (by rw [HQ.out]; exact Nat.le_refl _) _ _ _ _ (by rw [← HQ.out]; exact H1.out.1)⟩
  | succ n ih =>
    intro P v vn w hn hv hN hR hS hF hl
    by_cases hP : P = []
    · subst hP
      obtain ⟨a, cap, rfl, h1, h2⟩ := pairs_form hv
      exact sat_nil (n + 1) a cap vn w hn hN
    · obtain ⟨ba, oa, ca, _, _, rfl, _, _, _⟩ := pairs_one hv (i := 0) (List.length_pos_iff.2 hP)
      obtain ⟨bn, on, cn, rfl, hcn, _⟩ := nones_at hN
      obtain ⟨c, hc⟩ : ∃ c, c = cutH n P := ⟨_, rfl⟩
      obtain ⟨s1, s2⟩ := cut_split hR hS
      have hcl : c ≤ P.length := by rw [hc]; exact List.length_filter_le _ _
      rw [← hc] at s1 s2
      have hat : atH (n + 1) P = sd (atH n (P.take c)) (atH n (P.drop c)) := by
        rw [s1, s2]
        unfold atH
        rw [Keys.at']
      obtain ⟨A, hA⟩ : ∃ A, A = atH n (P.take c) := ⟨_, rfl⟩
      obtain ⟨B, hB⟩ : ∃ B, B = atH n (P.drop c) := ⟨_, rfl⟩
      rw [hat, ← hA, ← hB]
      have hF1 : Full (P.take c) := fun p hp => hF p (List.mem_of_mem_take hp)
      have hF2 : Full (P.drop c) := fun p hp => hF p (List.mem_of_mem_drop hp)
      have hS1 : Keys.Same n (P.take c) := by rw [s1]; exact same_zero hS
      have hS2 : Keys.Same n (P.drop c) := by rw [s2]; exact same_one hS
      have hR1 : Keys.Rise (P.take c) := hR.sublist (List.take_sublist _ _)
      have hR2 : Keys.Rise (P.drop c) := hR.sublist (List.drop_sublist _ _)
      have i1 := fun (v vn : Value) (w : World) h1 h2 => ih (P.take c) v vn w (by omega) h1 h2 hR1 hS1 hF1 (by rw [List.length_take]; omega)
      have i2 := fun (v vn : Value) (w : World) h1 h2 => ih (P.drop c) v vn w (by omega) h1 h2 hR2 hS2 hF2 (by rw [List.length_drop]; omega)
      rw [← hA] at i1
      rw [← hB] at i2
      obtain ⟨D, hD⟩ : ∃ D, D = 256 - (n + 1) := ⟨_, rfl⟩
      obtain ⟨E, hE⟩ : ∃ E, E = 256 - n := ⟨_, rfl⟩
      have hcut := fun (v : Value) (w : World) (hv : PairsAt w v P) => cut_any P v D w hv (by omega) hl hR (by rw [show 255 - D + 1 = n + 1 by omega]; exact hS)
      rw [show 255 - D = n by omega, ← hc] at hcut
      have hDE : D + 1 = E ∧ D ≤ 255 := by omega
      rw [← hE] at i1 i2
      rw [← hD]
      have HI := Lib.hid (And.intro i1 (And.intro i2 hcut))
      have hb0 := al (Below.refl _ w) (.cells (cells8 (List.replicate 32 0)).toArray 24)
      have ht0 := there_new w (cells8 (List.replicate 32 0)).toArray 24
      have HB0 := Lib.hid (And.intro hb0 (And.intro ht0 (And.intro (hv.below hb0) (hN.below hb0 (Nat.le_refl _)))))
      obtain ⟨N, hNN⟩ : ∃ N, N = P.length := ⟨_, rfl⟩
      have h0 : N ≠ 0 := fun e => hP (List.length_eq_zero_iff.1 (by rw [← hNN, e]))
      rw [← hNN] at HB0 hcl ⊢
      obtain ⟨_, _, he, hca, _⟩ := pairs_form (HB0.out.2.2.1)
      simp only [Value.slice.injEq] at he
      obtain ⟨-, -, rfl⟩ := he
      rw [← hNN] at hca
      have HNN := Lib.hid hNN
      clear hb0 ht0 hv hNN hN hR hS hF hl hn i1 i2 hcut hA hB hat s1 s2 hF1 hF2 hS1 hS2 hR1 hR2 hc ih
      have f1 : decide (N = 0) = false := by simpa using h0
      have f2 : decide ((N : Int) = 0) = false := by simp; omega
      have f3 : ((N : Int) == 0) = false := by rw [beq_eq_false_iff_ne]; omega
      have f4 : decide (D = 256) = false := by simp; omega
      have f5 : decide ((D : Int) = 256) = false := by simp; omega
      have f6 : ((D : Int) == 256) = false := by rw [beq_eq_false_iff_ne]; omega
      have q1 : (0 : Int) ≤ (c : Int) := by omega
      have q2 : (c : Int) ≤ (N : Int) := by omega
      have q3 : (N : Int) ≤ (ca : Int) := by omega
      have q4 : (c : Int) ≤ (ca : Int) := by omega
      have hw : IntKind.i64.wrap ((D : Int) + 1) = (E : Int) := by rw [IntKind.wrap_i64]; omega
      obtain ⟨q, hq⟩ : ∃ q, q = w.heap.size := ⟨_, rfl⟩
      have HQ := Lib.hid hq
      clear hq hD hE
      go_enter Tryz.func98, Tryz.ntmps98
      go_wp2_with fail
      refine (HI.out.2.2 _ (w.alloc (.cells (cells8 (List.replicate 32 0)).toArray 24)) HB0.out.2.2.1).mono ?_
      rintro e W1 ⟨rfl, hb⟩
      have H1 := Lib.hid (And.intro (HB0.out.1.trans (hb.mono HB0.out.1.size)) (And.intro ((Keeps.of_below (X := fun _ => False) hb).there HB0.out.2.1 (by decide) (fun h => h)) (And.intro (HB0.out.2.2.1.below hb) (HB0.out.2.2.2.below hb (Nat.le_refl _)))))
      rw [← HQ.out] at H1 ⊢
      clear hb HB0
      go_wp2_with fail
      refine wp_region_sched (fun W => True) [.t 0, .t 1, .t 2, .t 3, .t 4, .t 5, .t 7, .t 8, .t 9, .t 10, .t 11, .t 12, .e 6 false, .e 13 false, .e 14 false, .e 15 false] (by kernel_rfl) (by kernel_rfl) (by intro c a d v w h; cases d <;> exact h) ?_
      have H2 := Lib.hid (show Below w.heap.size w W1.drew ∧ W1.drew.there q 0 32 ∧ PairsAt W1.drew (.slice (some ⟨ba, oa, none⟩) N ca) P ∧ SumsAt W1.drew (.slice (some ⟨bn, on, none⟩) 257 cn) nones from ⟨by rw [← HQ.out]; exact H1.out.1.drew, H1.out.2.1, H1.out.2.2.1.below (Below.refl _ _).drew, H1.out.2.2.2.below (Below.refl _ _).drew (Nat.le_refl _)⟩)
      clear H1
      generalize W1.drew = V at *
      iterate 12
        refine wpS_t rfl (v := ?_) (by rfl) (fun W => ?_) ?_
        rotate_left
        · go_simp
          try rfl
        try simp only [Act.put, List.setIfInBounds_toArray, List.set_cons_zero, List.set_cons_succ]
      have hPt : PairsAt V (.slice (some ⟨ba, oa, none⟩) c ca) (P.take c) := by
        have h := H2.out.2.2.1
        rw [HNN.out] at h
        exact h.take (by rw [← HNN.out]; exact hcl)
      have hPd : PairsAt V (.slice (if ca = c then some ⟨ba, oa, none⟩ else some ⟨ba, oa + c * 33, none⟩) (N - c) (ca - c)) (P.drop c) := by
        have h := H2.out.2.2.1
        rw [HNN.out] at h
        have h2 := h.drop' (i := c) (by rw [← HNN.out]; exact hcl)
        rw [← HNN.out] at h2
        exact h2
      have HPP := Lib.hid (And.intro hPt hPd)
      clear hPt hPd
      refine wpS_e rfl (by rfl) (fun K hK => ?_)
      go_simp
      refine (HI.out.1 _ _ V HPP.out.1 H2.out.2.2.2).mono ?_
      rintro e V1 ⟨rfl, hb⟩
      have H3 := Lib.hid (And.intro (H2.out.1.trans (hb.mono H2.out.1.size)) (And.intro ((Keeps.of_below (X := fun _ => False) hb).there H2.out.2.1 (by decide) (fun h => h)) (And.intro (HPP.out.2.below hb) (H2.out.2.2.2.below hb (Nat.le_refl _)))))
      clear hb H2 HPP
      refine hK _ _ ?_; clear hK K
      try simp only [Act.put, List.setIfInBounds_toArray, List.set_cons_zero, List.set_cons_succ]
      refine wpS_e rfl (by rfl) (fun K hK => ?_)
      go_simp
      refine (HI.out.2.1 _ _ V1 H3.out.2.2.1 H3.out.2.2.2).mono ?_
      rintro e V2 ⟨rfl, hb⟩
      have H4 := Lib.hid (And.intro (H3.out.1.trans (hb.mono H3.out.1.size)) ((Keeps.of_below (X := fun _ => False) hb).there H3.out.2.1 (by decide) (fun h => h)))
      clear hb H3
      refine hK _ _ ?_; clear hK K
      try simp only [Act.put, List.setIfInBounds_toArray, List.set_cons_zero, List.set_cons_succ]
      refine wpS_e rfl (by rfl) (fun K hK => ?_)
      go_simp
      refine (sd_any A B V2).mono ?_
      rintro e V3 ⟨rfl, hb⟩
      have H5 := Lib.hid (And.intro (H4.out.1.trans (hb.mono H4.out.1.size)) ((Keeps.of_below (X := fun _ => False) hb).there H4.out.2 (by decide) (fun h => h)))
      clear hb H4
      refine hK _ _ ?_; clear hK K
      try simp only [Act.put, List.setIfInBounds_toArray, List.set_cons_zero, List.set_cons_succ]
      refine wpS_e rfl (by rfl) (fun K hK => ?_)
      refine wp_store_sum _ _ (by rfl) q 0 (sd A B) (by rfl) (by rfl) H5.out.2 ?_
      refine hK _ _ ?_; clear hK K
      try simp only [Act.put]
      refine wpS_done ?_
      go_wp2_with fail
      all_goals exact bodyPost_ret (results_sum Tryz.results98 _ _ _ _ rfl (World.there_setCells H5.out.2 _ _ _)) rfl ⟨rfl, setCells_below _ (by rw [HQ.out]; exact Nat.le_refl _) _ _ _ _ H5.out.1⟩
end Go.Proofs.YtfmgoehnbaiamaaGreatDoor
