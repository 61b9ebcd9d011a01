/-
  Walks: pairs compared (SamePairs); a map of pairs (law 15's of).
-/
import Derived.Test.YtfmgoehnbaiamaaU11
open Go Go.RowKit Alm
namespace Go.Proofs.Ytfmgoehnbaiamaa
theorem wpS_load_pair {md : Region.Mode} {S : World → Prop} {ops : List Oper} {Q : Exit → Act → World → Prop} {r : List Mv} {a : Act} {w : World} {o : Oper} {i : Nat} (hS : S w) (ho : ops[i]? = some o) (hg : Region.wanted o (yielded ops.toArray a.tmps) = true) (x : Operand) (hop : o.op = .load 36 x) (b off : Nat) (hx : a.eval x = .pointer (some ⟨b, off, none⟩)) (y : PE)
    (hc : ∀ W, S W → W.rangeAt b off (encP y)) (h : wpS Try.prog md ops.toArray Q S r (a.put o.dst (.agg (encP y).toArray)) w) : wpS Try.prog md ops.toArray Q S (.s i :: r) a w :=
  wpS_load_mid hS ho hg _ x hop b off hx (encP y) _ hc Try.underlying36 rfl (by rw [length_encP]; exact infoPair) h
theorem pairs_one {w : World} {v : Value} {P : List Keys.Pr} (h : PairsAt w v P) {i : Nat} (hi : i < P.length) : ∃ (b o cap : Nat) (y : PE) (bs : List UInt8), v = .slice (some ⟨b, o, none⟩) P.length cap ∧ w.rangeAt b (o + i * 33) (encP y) ∧ BytesAt w (peV y) bs ∧ P[i]? = some (y.1, bs) := by
  obtain ⟨b, o, cap, y, h1, _, _, h2, h3, h4⟩ := pairs_at h hi
  refine ⟨b, o, cap, y, _, h1, h2, h3, ?_⟩
  rw [h4]
  simp [List.getD_eq_getElem?_getD, List.getElem?_eq_getElem hi]
set_option maxRecDepth 100000 in
set_option maxHeartbeats 1000000 in
theorem same_pairs (A B : List Keys.Pr) (va vb : Value) (w : World) (ha : PairsAt w va A) (hb : PairsAt w vb B) : Calls Try.prog 27 #[va, vb] w fun e w' => e = .returned (.bool (decide (A = B))) ∧ Below w.heap.size w w' := by
  have HA := Lib.hid ha
  have HB := Lib.hid hb
  obtain ⟨aa, ca, rfl, ha1, ha2⟩ := pairs_form ha
  obtain ⟨ab, cb, rfl, hb1, hb2⟩ := pairs_form hb
  clear ha hb
  obtain ⟨n, hn⟩ : ∃ n, n = A.length := ⟨_, rfl⟩
  obtain ⟨m, hm⟩ : ∃ m, m = B.length := ⟨_, rfl⟩
  rw [← hn] at ha1 HA ⊢
  rw [← hm] at hb1 HB ⊢
  have HN := Lib.hid hn; clear hn
  have HM := Lib.hid hm; clear hm
  unfold maxLen at ha2 hb2
  have hn63 : (n : Int) < 9223372036854775808 := by omega
  by_cases hnm : n = m
  · subst hnm
    have hne : ((n : Int) != (n : Int)) = false := by simp
    have hq : decide (A = B) = decide (∀ j, j < n → A[j]? = B[j]?) := by
      rw [decide_eq_decide]
      constructor
      · rintro rfl j _; rfl
      · intro h
        refine List.ext_getElem? fun j => ?_
        by_cases hj : j < n
        · exact h j hj
        · rw [List.getElem?_eq_none (by rw [← HN.out]; omega), List.getElem?_eq_none (by rw [← HM.out]; omega)]
    obtain ⟨r, hr⟩ : ∃ r, r = decide (A = B) := ⟨_, rfl⟩
    rw [← hr] at hq ⊢
    have HQ := Lib.hid hq; clear hq hr
    have H63 := Lib.hid hn63
    go_enter Try.func27, Try.ntmps27
    go_wp2_with fail
    go_loopw [5] (fun i W => ∃ j : Nat, j ≤ n ∧ i = .int .i64 (j : Int) ∧ (∀ k, k < j → A[k]? = B[k]?) ∧ Below w.heap.size w W) (fun i _ => n - (intOf i).toNat)
    case atStart => exact ⟨0, by omega, rfl, fun k hk => by omega, Below.refl _ _⟩
    case round =>
      obtain ⟨j, hj, rfl, hall, hBl⟩ := hrel
      have HL := Lib.hid hall; clear hall
      by_cases hlt : j < n
      · have hlt' : (j : Int) < (n : Int) := by omega
        have hj0 : (0 : Int) ≤ (j : Int) := by omega
        obtain ⟨ba, oa, ca', y, xs, he1, hr1, hy1, hg1⟩ := pairs_one (HA.out.below hBl.drew) (i := j) (by rw [← HN.out]; exact hlt)
        obtain ⟨bb, ob, cb', z, zs, he2, hr2, hy2, hg2⟩ := pairs_one (HB.out.below hBl.drew) (i := j) (by rw [← HM.out]; exact hlt)
        simp only [Value.slice.injEq] at he1 he2
        obtain ⟨rfl, -, rfl⟩ := he1
        obtain ⟨rfl, -, rfl⟩ := he2
        have HX := Lib.hid (And.intro hr1 (And.intro hr2 (And.intro hy1 hy2)))
        have HG := Lib.hid (And.intro hg1 hg2)
        have HJ := Lib.hid (And.intro hj hlt)
        clear hr1 hr2 hy1 hy2 hg1 hg2
        go_wp2_with fail
        refine wp_region_sched (fun W => W.rangeAt ba (oa + j * 33) (encP y) ∧ W.rangeAt bb (ob + j * 33) (encP z)) [.t 0, .t 1, .t 2, .t 4, .t 5, .t 6, .s 3, .e 7 true, .e 8 false, .t 9] (by kernel_rfl) (by kernel_rfl) (by intro c a d v w h; cases d <;> exact h) ?_
        have HBD := Lib.hid hBl.drew
        clear hBl
        generalize wr.drew = V at *
        iterate 6
          refine wpS_t rfl (v := ?_) (by rfl) (fun W => ?_) ?_
          rotate_left
          · go_simp
            try rfl
          try simp only [Act.put, List.setIfInBounds_toArray, List.set_cons_zero, List.set_cons_succ]
        refine wpS_load_pair (by exact ⟨HX.out.1, HX.out.2.1⟩) rfl (by rfl) _ (by rfl) ba (oa + j * 33) (by rfl) y (fun V hV => hV.1) ?_
        try simp only [Act.put, List.setIfInBounds_toArray, List.set_cons_zero, List.set_cons_succ]
        refine wpS_k rfl (by rfl) (fun K hK => ?_)
        refine wp_load_pair _ (by rfl) bb (ob + j * 33) (by rfl) z (by exact HX.out.2.1) ?_
        refine hK _ _ ⟨by exact ⟨HX.out.1, HX.out.2.1⟩, ?_⟩; clear hK K
        try simp only [Act.put, List.setIfInBounds_toArray, List.set_cons_zero, List.set_cons_succ]
        refine wpS_e rfl (by rfl) (fun K hK => ?_)
        go_simp
        refine (same_pair y z xs zs V HX.out.2.2.1 HX.out.2.2.2).mono ?_
        rintro e V2 ⟨rfl, hb2⟩
        have HB2 := Lib.hid (HBD.out.trans (hb2.mono HBD.out.size))
        clear hb2
        refine hK _ _ ?_; clear hK K
        try simp only [Act.put, List.setIfInBounds_toArray, List.set_cons_zero, List.set_cons_succ]
        by_cases hpq : y.1 = z.1 ∧ xs = zs
        · have HE := Lib.hid hpq
          have hd : decide (y.1 = z.1 ∧ xs = zs) = true := by simpa using hpq
          rw [hd]
          clear hpq hd
          iterate 1
            refine wpS_t rfl (v := ?_) (by rfl) (fun W => ?_) ?_
            rotate_left
            · go_simp
              try rfl
            try simp only [Act.put, List.setIfInBounds_toArray, List.set_cons_zero, List.set_cons_succ]
          refine wpS_done ?_
          go_wp2_with fail
          refine ⟨⟨j + 1, by omega, by simp, fun k hk => ?_, HB2.out⟩, by simp [intOf]; omega⟩
          by_cases hkj : k < j
          · exact HL.out k hkj
          · have : k = j := by omega
            rw [this, HG.out.1, HG.out.2, HE.out.1, HE.out.2]
        · have HE := Lib.hid hpq
          have hd : decide (y.1 = z.1 ∧ xs = zs) = false := by simpa using hpq
          rw [hd]
          clear hpq hd
          iterate 1
            refine wpS_t rfl (v := ?_) (by rfl) (fun W => ?_) ?_
            rotate_left
            · go_simp
              try rfl
            try simp only [Act.put, List.setIfInBounds_toArray, List.set_cons_zero, List.set_cons_succ]
          refine wpS_done ?_
          have hr : r = false := by
            rw [HQ.out]
            simp only [decide_eq_false_iff_not]
            intro h
            have := h j HJ.out.2
            rw [HG.out.1, HG.out.2] at this
            simp only [Option.some.injEq, Prod.mk.injEq] at this
            exact HE.out this
          go_wp2_with fail
          exact bodyPost_ret (results_tmp rfl _ _ _) rfl ⟨by rw [hr]; rfl, HB2.out⟩
      · have hjn : j = n := by omega
        subst hjn
        have hr : r = true := by rw [HQ.out]; simpa using HL.out
        go_wp2_with fail
        exact bodyPost_ret (results_tmp rfl _ _ _) rfl ⟨by rw [hr]; rfl, hBl⟩
  · have hne : ((n : Int) != (m : Int)) = true := by rw [bne_iff_ne]; omega
    have hne2 : ((n : Int) == (m : Int)) = false := by rw [beq_eq_false_iff_ne]; omega
    have hab : ¬ A = B := by intro h; have h1 := HN.out; rw [h, ← HM.out] at h1; exact hnm h1
    have HNE := Lib.hid hab
    clear hab
    go_enter Try.func27, Try.ntmps27
    go_wp2_with fail
    exact bodyPost_ret (results_tmp rfl _ _ _) rfl ⟨by rw [decide_eq_false HNE.out]; rfl, Below.refl _ _⟩
end Go.Proofs.Ytfmgoehnbaiamaa
