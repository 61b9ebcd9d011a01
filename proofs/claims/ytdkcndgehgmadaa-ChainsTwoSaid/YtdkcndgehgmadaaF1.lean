/-
  Walks: fronts.fold.
-/
import Derived.Test.YtdkcndgehgmadaaF0
open Go Go.RowKit Alm
namespace Go.Proofs.Ytdkcndgehgmadaa
set_option maxRecDepth 100000 in
set_option maxHeartbeats 1000000 in
theorem fold_any (l : List Sum) (k g cap base : Nat) (w : World) (hk : k < l.length) (ho : w.ownsRow base 24 32 (.slice (some ⟨g, 0, none⟩) l.length cap) l.length (cellsAll l)) :
    Calls Try.prog 68 #[.slice (some ⟨g, 0, none⟩) l.length cap, .int .i64 k, .func (.func 34) #[] #[]] w fun e w' =>
      e = .returned (.slice (some ⟨g, 0, none⟩) (l.length - k) cap) ∧ w'.ownsRow base 24 32 (.slice (some ⟨g, 0, none⟩) (l.length - k) cap) (l.length - k) (cellsAll (fold2 nd k l)) ∧ Keeps (· = g) w w' := by
  have hkm : k < 9223372036854775807 := by
    obtain ⟨g', cap', he, h1, h2, _, _⟩ := own_range ho (by omega)
    unfold maxLen at h2
    simp only [Value.slice.injEq, Option.some.injEq, Addr.mk.injEq, and_true] at he
    omega
  go_enter Try.func68, Try.ntmps68
  go_wp2_with fail
  go_loopw [0, 9] (fun v i W => ∃ j : Nat, j ≤ k ∧ i = .int .i64 (j : Int) ∧ v = .slice (some ⟨g, 0, none⟩) (l.length - j) cap ∧ W.ownsRow base 24 32 (.slice (some ⟨g, 0, none⟩) (l.length - j) cap) (l.length - j) (cellsAll (fold2 nd j l)) ∧ Keeps (· = g) w W) (fun _ i _ => k - (intOf i).toNat)
  case atStart => exact ⟨0, by omega, rfl, rfl, ho, Keeps.refl _ _⟩
  case round =>
    clear ho
    obtain ⟨j, hj, rfl, rfl, ho, hg⟩ := hrel
    by_cases hlt : j < k
    · have hlt' : (j : Int) < (k : Int) := by omega
      obtain ⟨q, hq⟩ : ∃ q, l.length - j = q + 2 := ⟨l.length - j - 2, by omega⟩
      rw [hq] at ho ⊢
      have hq1 : l.length - (j + 1) = q + 1 := by omega
      have hfl : (fold2 nd j l).length = q + 2 := by rw [length_fold2 _ _ _ (by omega)]; exact hq
      obtain ⟨r, x, y, hr⟩ := exists_two (l := fold2 nd j l) (by omega)
      have hfn : fold2 nd (j + 1) l = r ++ [nd x y] := by rw [fold2_add _ j 1 _ (by omega), hr, fold2_two]; rfl
      rw [hr] at ho hfl
      have hrl : r.length = q := by simp at hfl; exact hfl
      obtain ⟨hg2, hg3⟩ : q + 2 ≤ cap ∧ cap ≤ maxLen := by
        obtain ⟨g', cap', he, h1, h2, _, _⟩ := own_range ho (by omega)
        simp only [Value.slice.injEq, Option.some.injEq, Addr.mk.injEq, and_true] at he
        omega
      unfold maxLen at hg3
      have hrg := own_sum_range ho
      have hx := range_at hrg (i := q) (by omega)
      have hy := range_at hrg (i := q + 1) (by omega)
      rw [Nat.zero_add] at hx hy
      have ex : (r ++ [x, y])[q]'(by omega) = x := by simp [List.getElem_append_right, hrl]
      have ey : (r ++ [x, y])[q + 1]'(by omega) = y := by simp [List.getElem_append_right, hrl]
      rw [ex] at hx
      rw [ey] at hy
      clear hrg ex ey
      have w1 : IntKind.i64.wrap (q : Int) = (q : Int) := by rw [IntKind.wrap_i64]; omega
      have w2 : IntKind.i64.wrap ((q : Int) + 1) = (q : Int) + 1 := by rw [IntKind.wrap_i64]; omega
      have w3 : IntKind.i64.wrap ((q : Int) + 2 - 1) = (q : Int) + 1 := by rw [IntKind.wrap_i64]; omega
      have b1 : (q : Int) ≤ (cap : Int) := by omega
      have b2 : (q : Int) < (q : Int) + 2 := by omega
      have b4 : ¬ ((q : Int) + 1 < 0) := by omega
      have b5 : (0 : Int) ≤ (q : Int) + 1 := by omega
      have b3 : (q : Int) + 1 < (q : Int) + 2 := by omega
      have HQ := Lib.hid hq; clear hq
      have HQ1 := Lib.hid hq1; clear hq1
      have H3 := Lib.hid (And.intro hg2 hg3); clear hg2 hg3
      have HR := Lib.hid hr; clear hr
      have HF := Lib.hid hfl; clear hfl
      have HL := Lib.hid hrl; clear hrl
      have HN := Lib.hid hfn; clear hfn
      have HO := Lib.hid ho; clear ho
      have HG := Lib.hid hg; clear hg
      have HX := Lib.hid hx; clear hx
      have HY := Lib.hid hy; clear hy
      go_wp2_with fail
      refine wp_region_sched (fun W => W.rangeAt g (q * 32) (cellsOf x) ∧ W.rangeAt g ((q + 1) * 32) (cellsOf y)) [.t 0, .t 1, .t 2, .t 3, .t 4, .t 5, .t 6, .t 7, .t 8, .s 9, .t 10, .t 11, .t 12, .t 13, .s 14, .e 15 false, .e 16 false, .e 17 false, .t 18] (by kernel_rfl) (by kernel_rfl) (by intro c a d v w h; cases d <;> exact h) ?_
      iterate 9
        refine wpS_t rfl (v := ?_) (by rfl) (fun W => ?_) ?_
        rotate_left
        · go_simp
          try rfl
        try simp only [Act.put, List.setIfInBounds_toArray, List.set_cons_zero, List.set_cons_succ]
      refine wpS_load_sum (by exact ⟨HX.out, HY.out⟩) rfl (by rfl) _ (by rfl) g (q * 32) (by rfl) x (fun W hW => hW.1) ?_
      try simp only [Act.put, List.setIfInBounds_toArray, List.set_cons_zero, List.set_cons_succ]
      iterate 4
        refine wpS_t rfl (v := ?_) (by rfl) (fun W => ?_) ?_
        rotate_left
        · go_simp
          try rfl
        try simp only [Act.put, List.setIfInBounds_toArray, List.set_cons_zero, List.set_cons_succ]
      refine wpS_load_sum (by exact ⟨HX.out, HY.out⟩) rfl (by rfl) _ (by rfl) g ((q + 1) * 32) (by rfl) y (fun W hW => hW.2) ?_
      try simp only [Act.put, List.setIfInBounds_toArray, List.set_cons_zero, List.set_cons_succ]
      refine wpS_e rfl (by rfl) (fun K hK => ?_)
      go_simp
      obtain ⟨z, hz⟩ : ∃ z, z = nd x y := ⟨_, rfl⟩
      refine (nd_any x y _).mono ?_
      rw [← hz] at HN ⊢
      have HZ := Lib.hid hz; clear hz
      rintro e w1 ⟨rfl, hb1⟩
      refine hK _ _ ?_; clear hK K
      try simp only [Act.put, List.setIfInBounds_toArray, List.set_cons_zero, List.set_cons_succ]
      have ho1 := (Keeps.of_below (X := fun _ => False) hb1).owns (HO.out : wr.drew.ownsRow _ _ _ _ _ _) (fun _ _ h => h)
      have hg1 : Keeps (· = g) w w1 := HG.out.drew.trans (.of_below hb1)
      rw [cellsAll_append] at ho1
      have HO1 := Lib.hid ho1; clear ho1
      have HG1 := Lib.hid hg1; clear hg1 hb1
      refine wpS_e rfl (by rfl) (fun K hK => ?_)
      refine wp_build_sums 1 _ (by rfl) [z] rfl (by omega) (by omega) (by rfl) ?_
      refine hK _ _ ?_; clear hK K
      try simp only [Act.put, List.setIfInBounds_toArray, List.set_cons_zero, List.set_cons_succ]
      refine wpS_e rfl (by rfl) (fun K hK => ?_)
      refine wp_append_sum_fits _ _ (by rfl) base g q cap r HL.out (by rfl) (own_take (n := q) (m := 2) ((HO1.out.alloc _)) (by rw [length_cellsAll, HL.out]; omega)) w1.heap.size 0 1 z (by rfl) (by rw [cellsAll_one]; exact range_new w1 _ _ _ rfl) (by have := H3.out; omega) ?_
      intro w2 ho2 hg2
      refine hK _ _ ?_; clear hK K
      try simp only [Act.put, List.setIfInBounds_toArray, List.set_cons_zero, List.set_cons_succ]
      have HO2 := Lib.hid ho2; clear ho2
      have HG2 := Lib.hid (HG1.out.trans (((Keeps.refl (· = g) w1).alloc _).trans (.of_grown hg2 (fun k hk => by simpa using hk.symm)))); clear hg2
      iterate 1
        refine wpS_t rfl (v := ?_) (by rfl) (fun W => ?_) ?_
        rotate_left
        · go_simp
          try rfl
        try simp only [Act.put, List.setIfInBounds_toArray, List.set_cons_zero, List.set_cons_succ]
      refine wpS_done ?_
      go_wp2_with fail
      refine ⟨⟨j + 1, by omega, by simp, by rw [HQ1.out], by rw [HQ1.out, HN.out]; exact HO2.out, HG2.out⟩, by simp [intOf]; omega⟩
    · have hjk : j = k := by omega
      subst hjk
      have HO := Lib.hid ho; clear ho
      go_wp2_with fail
      exact bodyPost_ret (results_tmp rfl _ _ _) rfl ⟨rfl, HO.out, hg⟩
theorem fold_at (l : List Sum) (n k g cap base : Nat) (w : World) (hn : l.length = n) (hk : k < n) (ho : w.ownsRow base 24 32 (.slice (some ⟨g, 0, none⟩) n cap) n (cellsAll l)) :
    Calls Try.prog 68 #[.slice (some ⟨g, 0, none⟩) n cap, .int .i64 k, .func (.func 34) #[] #[]] w fun e w' =>
      e = .returned (.slice (some ⟨g, 0, none⟩) (n - k) cap) ∧ w'.ownsRow base 24 32 (.slice (some ⟨g, 0, none⟩) (n - k) cap) (n - k) (cellsAll (fold2 nd k l)) ∧ Keeps (· = g) w w' := by
  subst hn; exact fold_any l k g cap base w hk ho
end Go.Proofs.Ytdkcndgehgmadaa
