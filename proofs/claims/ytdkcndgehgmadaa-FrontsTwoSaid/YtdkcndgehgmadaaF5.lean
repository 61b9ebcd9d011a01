/-
  Walks: the fronts' law's 'alive'.
-/
import Derived.Test.YtdkcndgehgmadaaF4
import Derived.Test.YtdkcndgehgmadaaE0
open Go Go.RowKit Alm
namespace Go.Proofs.Ytdkcndgehgmadaa
/-- A front made since w0, beside variables X of one's own. -/
def Live (w0 W : World) (p : Nat) (l : List Sum) (X : List Nat) : Prop :=
  ∃ v, FrontAt W p v l ∧ w0.heap.size ≤ p ∧ Below w0.heap.size w0 W ∧ p ∉ X ∧ (∀ k, v.ownBlock = some k → w0.heap.size ≤ k ∧ k ∉ X) ∧ ∀ x ∈ X, x < W.heap.size
theorem Live.start {w0 W W' : World} {p : Nat} (hB : Below w0.heap.size w0 W) (hb : Below W.heap.size W W') (h : FrontAt W' p (.slice none 0 0) []) (hp : p = W.heap.size) : Live w0 W' p [] [] :=
  ⟨_, h, by rw [hp]; exact hB.size, hB.trans (hb.mono hB.size), by simp, fun k hk => (by cases hk), by simp⟩
theorem Live.below {w0 W W' : World} {p : Nat} {l : List Sum} {X : List Nat} (h : Live w0 W p l X) (hb : Below W.heap.size W W') : Live w0 W' p l X := by
  obtain ⟨v, h1, h2, h3, h4, h5, h6⟩ := h
  exact ⟨v, h1.below hb, h2, h3.trans (hb.mono h3.size), h4, h5, fun x hx => Nat.lt_of_lt_of_le (h6 x hx) hb.size⟩
theorem Live.var {w0 W W' : World} {p : Nat} {l : List Sum} {X : List Nat} (h : Live w0 W p l X) (hb : Below W.heap.size W W') (hlt : W.heap.size < W'.heap.size) : Live w0 W' p l (W.heap.size :: X) := by
  obtain ⟨v, h1, h2, h3, h4, h5, h6⟩ := h
  refine ⟨v, h1.below hb, h2, h3.trans (hb.mono h3.size), ?_, fun k hk => ⟨(h5 k hk).1, ?_⟩, fun x hx => ?_⟩
  · intro hm
    rcases List.mem_cons.1 hm with e | e
    · have := h1.lt; omega
    · exact h4 e
  · intro hm
    rcases List.mem_cons.1 hm with e | e
    · have := own_lt h1.2.1 hk; omega
    · exact (h5 k hk).2 e
  · rcases List.mem_cons.1 hx with e | e
    · omega
    · exact Nat.lt_of_lt_of_le (h6 x e) hb.size
theorem Live.all {w0 W : World} {p : Nat} {l : List Sum} {X : List Nat} (h : Live w0 W p l X) : Below w0.heap.size w0 W := by
  obtain ⟨v, h1, h2, h3, h4, h5, h6⟩ := h
  exact h3
theorem live_size {w0 W : World} {p : Nat} {l : List Sum} {X : List Nat} (h : Live w0 W p l X) : Calls Try.prog 33 #[.pointer (some ⟨p, 0, none⟩)] W fun e w' => e = .returned (.int .u64 (l.length : Int)) ∧ W = w' := by
  obtain ⟨v, h1, _⟩ := h
  exact size_live W p v l h1
theorem live_root {w0 W : World} {p : Nat} {l : List Sum} {X : List Nat} (h : Live w0 W p l X) : Calls Try.prog 30 #[.pointer (some ⟨p, 0, none⟩)] W fun e w' => e = .returned (sv (rt l)) ∧ Live w0 w' p l X ∧ Below W.heap.size W w' := by
  have h' := h
  obtain ⟨v, h1, _⟩ := h
  exact (root_live W p v l h1).mono fun e w' ⟨he, hb⟩ => ⟨he, h'.below hb, hb⟩
theorem live_sums {w0 W : World} {p : Nat} {l : List Sum} {X : List Nat} (h : Live w0 W p l X) : Calls Try.prog 31 #[.pointer (some ⟨p, 0, none⟩)] W fun e w' => ∃ v', e = .returned v' ∧ SumsNew w' W.heap.size v' (stk nd e0 64 l) ∧ Live w0 w' p l X ∧ Below W.heap.size W w' := by
  have h' := h
  obtain ⟨v, h1, _⟩ := h
  exact (sums_live W p v l h1).mono fun e w' ⟨v', he, hs, hb⟩ => ⟨v', he, hs, h'.below hb, hb⟩
theorem live_add {w0 W : World} {p : Nat} {l : List Sum} {X : List Nat} (s : Sum) (h : Live w0 W p l X) (hl : l.length + 1 < 4000000000) : Calls Try.prog 32 #[.pointer (some ⟨p, 0, none⟩), sv s] W fun e w' => e = .returned (.int .i64 0) ∧ Live w0 w' p (l ++ [s]) X ∧ Keeps (fun k => k ∉ X ∧ w0.heap.size ≤ k) W w' := by
  obtain ⟨v, h1, h2, h3, h4, h5, h6⟩ := h
  refine (add_live W p v l s h1 hl).mono ?_
  rintro e w' ⟨v', rfl, hf, hk, hv⟩
  have hk2 : Keeps (fun k => k ∉ X ∧ w0.heap.size ≤ k) W w' := hk.mono (fun k hk => by
    rcases hk with rfl | hk
    · exact ⟨h4, h2⟩
    · exact ⟨(h5 k hk).2, (h5 k hk).1⟩)
  refine ⟨rfl, ⟨v', hf, h2, h3.trans (hk2.below h3.size (fun k hk => hk.2)), h4, fun k hk' => ?_, fun x hx => Nat.lt_of_lt_of_le (h6 x hx) hk.size⟩, hk2⟩
  rcases hv k hk' with h | h
  · exact h5 k h
  · exact ⟨Nat.le_trans h3.size h, fun hm => by have := h6 k hm; omega⟩
theorem rt_two (a b : Sum) : rt [a, b] = nd a b := by
  rw [rt_eq, root_split nd e0 (by simp)]
  have : cut [a, b].length = 1 := cut_eq (j := 0) (by simp) (by simp)
  rw [this]; simp [root_one]
theorem rt_three (a b c : Sum) : rt [a, b, c] = nd (nd a b) c := by
  have h2 := rt_two a b
  rw [rt_eq] at h2 ⊢
  rw [root_split nd e0 (by simp)]
  have : cut [a, b, c].length = 2 := cut_eq (j := 1) (by simp) (by simp)
  rw [this]; simp [root_one, h2]
theorem stk_three (a b c : Sum) : stk nd e0 64 [a, b, c] = [nd a b, c] := by
  have h : ∀ j, stk nd e0 (j + 2) [a, b, c] = [nd a b, c] := by
    intro j
    induction j with
    | zero =>
      have h2 := rt_two a b
      rw [rt_eq] at h2
      simp [stk, h2, root_one]
    | succ j ih =>
      rw [show j + 1 + 2 = (j + 2) + 1 from by omega, stk, if_neg, ih]
      have : 2 ^ 2 ≤ 2 ^ (j + 2) := Nat.pow_le_pow_right (by omega) (by omega)
      simp only [List.length_cons, List.length_nil]; omega
  exact h 62
set_option maxRecDepth 100000 in
set_option maxHeartbeats 4000000 in
theorem alive_fronts (w : World) : Calls Try.prog 28 #[] w fun e w' => e = .returned (.bool true) ∧ Below w.heap.size w w' := by
  go_enter Try.func28, Try.ntmps28
  go_wp2_with fail
  refine (new_front w).mono ?_
  rintro e w1 ⟨rfl, hF, hB⟩
  obtain ⟨p, hp⟩ : ∃ p, p = w.heap.size := ⟨_, rfl⟩
  have HL := Lib.hid (Live.start (Below.refl _ _) hB (by rw [hp]; exact hF) hp : Live w w1 p [] [])
  rw [← hp]
  clear hp hF hB
  go_wp2_with fail
  refine (live_root HL.out).mono ?_
  rintro e w2 ⟨rfl, hL, hb2⟩
  have HL2 := Lib.hid hL; clear hL HL hb2
  go_wp2_with (refine wpList_var_sum (by rfl) rfl _ _ rfl (rt []) rfl rfl ?_; intro W3 hb3 hr3 _ hlt3)
  rw [val_1]
  have HL3 := Lib.hid (HL2.out.var hb3 hlt3)
  have HR3 := Lib.hid hr3
  generalize w2.heap.size = q at *
  clear hb3 hr3 hlt3 HL2
  refine (live_add (lit 1) HL3.out (by simp)).mono ?_
  rintro e w4 ⟨rfl, hL, hk⟩
  have HL4 := Lib.hid hL
  have HR4 := Lib.hid (hk.range HR3.out (fun h => h.1 (by simp))); clear hL hk HL3 HR3
  go_wp2_with fail
  rw [val_2]
  refine (live_add (lit 2) HL4.out (by simp)).mono ?_
  rintro e w5 ⟨rfl, hL, hk⟩
  have HL5 := Lib.hid hL
  have HR5 := Lib.hid (hk.range HR4.out (fun h => h.1 (by simp))); clear hL hk HL4 HR4
  go_wp2_with fail
  rw [val_3]
  refine (live_add (lit 3) HL5.out (by simp)).mono ?_
  rintro e w6 ⟨rfl, hL, hk⟩
  have HL6 := Lib.hid hL
  have HR6 := Lib.hid (hk.range HR5.out (fun h => h.1 (by simp))); clear hL hk HL5 HR5
  go_wp2_with fail
  rw [val_1, val_2]
  refine (nd_any (lit 1) (lit 2) _).mono ?_
  rintro e w7 ⟨rfl, hb7⟩
  have HL7 := Lib.hid (HL6.out.below hb7)
  have HR7 := Lib.hid ((Keeps.of_below (X := fun _ => False) hb7).range HR6.out (fun h => h)); clear hb7 HL6 HR6
  go_wp2_with (refine wpList_var_sum (by rfl) rfl _ _ rfl (nd (lit 1) (lit 2)) rfl rfl ?_; intro W8 hb8 hr8 _ hlt8)
  have HL8 := Lib.hid (HL7.out.var hb8 hlt8)
  have HA8 := Lib.hid hr8
  have HR8 := Lib.hid ((Keeps.of_below (X := fun _ => False) hb8).range HR7.out (fun h => h))
  generalize w7.heap.size = r at *
  clear hb8 hr8 hlt8 HL7 HR7
  generalize hab : nd (lit 1) (lit 2) = ab at *
  have HAB := Lib.hid hab; clear hab
  have hes := eq_sums_same
  refine wp_region_sched (fun W => W.rangeAt q 0 (cellsOf (rt [])) ∧ W.rangeAt r 0 (cellsOf ab)) [.s 0, .e 1 true, .t 2, .t 3, .t 4, .t 5, .t 6, .t 7, .t 8, .t 9, .t 10, .t 11, .t 12, .t 13, .t 14, .t 15, .t 16, .e 17 true, .t 18, .t 19, .t 20, .t 21, .t 24, .s 23, .f 22 25 true, .e 26 true, .t 27, .t 28, .t 29, .t 32, .s 31, .e 30 true, .e 33 false, .t 34, .t 35, .t 36] (by kernel_rfl) (by kernel_rfl) (by intro c a d v w h; cases d <;> exact h) ?_
  have HL9 := Lib.hid (HL8.out.below (W' := W8.drew) (Below.refl _ _).drew)
  have HS9 := Lib.hid ((⟨HR8.out, HA8.out⟩ : W8.drew.rangeAt q 0 (cellsOf (rt [])) ∧ W8.drew.rangeAt r 0 (cellsOf ab)))
  generalize W8.drew = W9 at *
  clear HL8 HR8 HA8
  refine wpS_load_sum (by exact HS9.out) rfl (by rfl) _ (by rfl) q 0 (by rfl) (rt []) (fun W hW => hW.1) ?_
  try simp only [Act.put, List.setIfInBounds_toArray, List.set_cons_zero, List.set_cons_succ]
  refine wpS_k rfl (by rfl) (fun K hK => ?_)
  go_simp
  refine (rt_any [] _ W9 ⟨none, 0, rfl, Nat.le_refl _, by decide, .inl rfl⟩).mono ?_
  rintro e w10 ⟨rfl, hb⟩
  have hk := Keeps.of_below (X := fun _ => False) hb
  have HL10 := Lib.hid (HL9.out.below hb)
  have HS10 := Lib.hid (And.intro (hk.range HS9.out.1 (fun h => h)) (hk.range HS9.out.2 (fun h => h)))
  clear hk hb HL9 HS9
  refine hK _ _ ⟨by exact HS10.out, ?_⟩; clear hK K
  try simp only [Act.put, List.setIfInBounds_toArray, List.set_cons_zero, List.set_cons_succ]
  iterate 15
    refine wpS_t rfl (v := ?_) (by rfl) (fun W => ?_) ?_
    rotate_left
    · go_simp
      try rfl
    try simp only [Act.put, List.setIfInBounds_toArray, List.set_cons_zero, List.set_cons_succ]
  refine wpS_k rfl (by rfl) (fun K hK => ?_)
  go_simp
  refine (live_size HL10.out).mono ?_
  rintro e w11 ⟨rfl, rfl⟩
  refine hK _ _ ⟨by exact HS10.out, ?_⟩; clear hK K
  try simp only [Act.put, List.setIfInBounds_toArray, List.set_cons_zero, List.set_cons_succ]
  iterate 5
    refine wpS_t rfl (v := ?_) (by rfl) (fun W => ?_) ?_
    rotate_left
    · go_simp
      try rfl
    try simp only [Act.put, List.setIfInBounds_toArray, List.set_cons_zero, List.set_cons_succ]
  rw [val_3]
  refine wpS_load_sum (by exact HS10.out) rfl (by rfl) _ (by rfl) r 0 (by rfl) ab (fun W hW => hW.2) ?_
  try simp only [Act.put, List.setIfInBounds_toArray, List.set_cons_zero, List.set_cons_succ]
  have hl3 : ([] ++ [lit 1] ++ [lit 2] ++ [lit 3] : List Sum) = [lit 1, lit 2, lit 3] := rfl
  rw [hl3] at HL10
  have hst : stk nd e0 64 [lit 1, lit 2, lit 3] = [ab, lit 3] := by rw [stk_three, HAB.out]
  have hrt : rt [lit 1, lit 2, lit 3] = nd ab (lit 3) := by rw [rt_three, HAB.out]
  have HST := Lib.hid hst; clear hst
  have HRT := Lib.hid hrt; clear hrt
  clear hl3
  refine wpS_fk ?_ ?_
  · refine wpOp_of rfl (by rfl) (fun K hK => ?_)
    go_simp
    refine (live_sums HL10.out).mono ?_
    rintro e W ⟨v, rfl, hv, hL, hb⟩
    rw [HST.out] at hv
    have hk := Keeps.of_below (X := fun _ => False) hb
    have HS11 := Lib.hid (And.intro (hk.range HS10.out.1 (fun h => h)) (hk.range HS10.out.2 (fun h => h)))
    refine hK _ _ ⟨by exact HS11.out, ?_⟩; clear hK K hk hb
    refine wpOp_of rfl (by rfl) (fun K hK => ?_)
    refine wp_build_sums 2 _ (by rfl) [ab, lit 3] rfl (by omega) (by omega) (by rfl) ?_
    have hb := al (Below.refl _ W) (.cells (cellsAll [ab, lit 3]).toArray 24)
    have hk := Keeps.of_below (X := fun _ => False) hb
    have HLX := Lib.hid (hL.below hb)
    have HSX := Lib.hid (And.intro (hk.range HS11.out.1 (fun h => h)) (hk.range HS11.out.2 (fun h => h)))
    have HVX := Lib.hid (hv.sums.below hb (Nat.le_refl _))
    have HYX : Hid (SumsAt (W.alloc (.cells (cellsAll [ab, lit 3]).toArray 24)) (.slice (some ⟨W.heap.size, 0, none⟩) 2 2) [ab, lit 3]) := ⟨_, 2, rfl, Nat.le_refl _, by decide, .inr ⟨_, _, rfl, range_new W _ _ _ rfl⟩⟩
    refine hK _ _ ⟨by exact HSX.out, ?_⟩
    clear hK K hk hb hL hv HS11
    try simp only [Act.put, List.setIfInBounds_toArray, List.set_cons_zero, List.set_cons_succ]
    generalize hWX : W.alloc (.cells (cellsAll [ab, lit 3]).toArray 24) = WX at *
    generalize hvx : (Value.slice (some ⟨W.heap.size, 0, none⟩) 2 2) = vx at *
    clear hWX hvx
    refine wpS_k rfl (by rfl) (fun K hK => ?_)
    go_simp
    refine (same_sums [ab, lit 3] [ab, lit 3] v vx WX HVX.out HYX.out).mono ?_
    rw [decide_eq_true (rfl : [ab, lit 3] = [ab, lit 3])]
    rintro e W12 ⟨rfl, hb⟩
    have hk := Keeps.of_below (X := fun _ => False) hb
    have HL12 := Lib.hid (HLX.out.below hb)
    have HS12 := Lib.hid (And.intro (hk.range HSX.out.1 (fun h => h)) (hk.range HSX.out.2 (fun h => h)))
    clear hk hb HLX HSX HVX HYX
    refine hK _ _ ⟨by exact HS12.out, ?_⟩; clear hK K
    try simp only [Act.put, List.setIfInBounds_toArray, List.set_cons_zero, List.set_cons_succ]
    iterate 4
      refine wpS_t rfl (v := ?_) (by rfl) (fun W => ?_) ?_
      rotate_left
      · go_simp
        try rfl
      try simp only [Act.put, List.setIfInBounds_toArray, List.set_cons_zero, List.set_cons_succ]
    rw [val_3]
    refine wpS_load_sum (by exact HS12.out) rfl (by rfl) _ (by rfl) r 0 (by rfl) ab (fun W hW => hW.2) ?_
    try simp only [Act.put, List.setIfInBounds_toArray, List.set_cons_zero, List.set_cons_succ]
    refine wpS_k rfl (by rfl) (fun K hK => ?_)
    go_simp
    refine (live_root HL12.out).mono ?_
    rintro e W13 ⟨rfl, hL, hb⟩
    rw [HRT.out]
    have hk := Keeps.of_below (X := fun _ => False) hb
    have HL13 := Lib.hid hL
    have HS13 := Lib.hid (And.intro (hk.range HS12.out.1 (fun h => h)) (hk.range HS12.out.2 (fun h => h)))
    clear hk hb hL HL12 HS12
    refine hK _ _ ⟨by exact HS13.out, ?_⟩; clear hK K
    try simp only [Act.put, List.setIfInBounds_toArray, List.set_cons_zero, List.set_cons_succ]
    refine wpS_e rfl (by rfl) (fun K hK => ?_)
    go_simp
    refine (nd_any ab (lit 3) W13).mono ?_
    rintro e W14 ⟨rfl, hb⟩
    have hB := (HL13.out.below hb).all
    clear hb
    refine hK _ _ ?_; clear hK K
    try simp only [Act.put, List.setIfInBounds_toArray, List.set_cons_zero, List.set_cons_succ]
    iterate 3
      refine wpS_t rfl (v := ?_) (by rfl) (fun W => ?_) ?_
      rotate_left
      · go_simp
        try rfl
      try simp only [Act.put, List.setIfInBounds_toArray, List.set_cons_zero, List.set_cons_succ]
    refine wpS_done ?_
    go_wp2_with fail
    exact bodyPost_ret (results_tmp rfl _ _ _) rfl ⟨rfl, hB⟩
  · refine wpOp_of rfl (by rfl) (fun K hK => ?_)
    refine wp_build_sums 2 _ (by rfl) [ab, lit 3] rfl (by omega) (by omega) (by rfl) ?_
    have hb := al (Below.refl _ w10) (.cells (cellsAll [ab, lit 3]).toArray 24)
    have hk := Keeps.of_below (X := fun _ => False) hb
    have HLW := Lib.hid (HL10.out.below hb)
    have HSW := Lib.hid (And.intro (hk.range HS10.out.1 (fun h => h)) (hk.range HS10.out.2 (fun h => h)))
    have HYW : Hid (SumsAt (w10.alloc (.cells (cellsAll [ab, lit 3]).toArray 24)) (.slice (some ⟨w10.heap.size, 0, none⟩) 2 2) [ab, lit 3]) := ⟨_, 2, rfl, Nat.le_refl _, by decide, .inr ⟨_, _, rfl, range_new w10 _ _ _ rfl⟩⟩
    refine hK _ _ ⟨by exact HSW.out, ?_⟩
    clear hK K hk hb
    refine wpOp_of rfl (by rfl) (fun K hK => ?_)
    go_simp
    refine (live_sums HLW.out).mono ?_
    rintro e WX ⟨v, rfl, hv, hL, hb⟩
    rw [HST.out] at hv
    have hk := Keeps.of_below (X := fun _ => False) hb
    have HLX := Lib.hid hL
    have HSX := Lib.hid (And.intro (hk.range HSW.out.1 (fun h => h)) (hk.range HSW.out.2 (fun h => h)))
    have HVX := Lib.hid hv.sums
    have HYX := Lib.hid (HYW.out.below hb (Nat.le_refl _))
    refine hK _ _ ⟨by exact HSX.out, ?_⟩
    clear hK K hk hb hL hv HLW HSW HYW
    try simp only [Act.put, List.setIfInBounds_toArray, List.set_cons_zero, List.set_cons_succ]
    generalize hvx : (Value.slice (some ⟨w10.heap.size, 0, none⟩) 2 2) = vx at *
    clear hvx
    refine wpS_k rfl (by rfl) (fun K hK => ?_)
    go_simp
    refine (same_sums [ab, lit 3] [ab, lit 3] v vx WX HVX.out HYX.out).mono ?_
    rw [decide_eq_true (rfl : [ab, lit 3] = [ab, lit 3])]
    rintro e W12 ⟨rfl, hb⟩
    have hk := Keeps.of_below (X := fun _ => False) hb
    have HL12 := Lib.hid (HLX.out.below hb)
    have HS12 := Lib.hid (And.intro (hk.range HSX.out.1 (fun h => h)) (hk.range HSX.out.2 (fun h => h)))
    clear hk hb HLX HSX HVX HYX
    refine hK _ _ ⟨by exact HS12.out, ?_⟩; clear hK K
    try simp only [Act.put, List.setIfInBounds_toArray, List.set_cons_zero, List.set_cons_succ]
    iterate 4
      refine wpS_t rfl (v := ?_) (by rfl) (fun W => ?_) ?_
      rotate_left
      · go_simp
        try rfl
      try simp only [Act.put, List.setIfInBounds_toArray, List.set_cons_zero, List.set_cons_succ]
    rw [val_3]
    refine wpS_load_sum (by exact HS12.out) rfl (by rfl) _ (by rfl) r 0 (by rfl) ab (fun W hW => hW.2) ?_
    try simp only [Act.put, List.setIfInBounds_toArray, List.set_cons_zero, List.set_cons_succ]
    refine wpS_k rfl (by rfl) (fun K hK => ?_)
    go_simp
    refine (live_root HL12.out).mono ?_
    rintro e W13 ⟨rfl, hL, hb⟩
    rw [HRT.out]
    have hk := Keeps.of_below (X := fun _ => False) hb
    have HL13 := Lib.hid hL
    have HS13 := Lib.hid (And.intro (hk.range HS12.out.1 (fun h => h)) (hk.range HS12.out.2 (fun h => h)))
    clear hk hb hL HL12 HS12
    refine hK _ _ ⟨by exact HS13.out, ?_⟩; clear hK K
    try simp only [Act.put, List.setIfInBounds_toArray, List.set_cons_zero, List.set_cons_succ]
    refine wpS_e rfl (by rfl) (fun K hK => ?_)
    go_simp
    refine (nd_any ab (lit 3) W13).mono ?_
    rintro e W14 ⟨rfl, hb⟩
    have hB := (HL13.out.below hb).all
    clear hb
    refine hK _ _ ?_; clear hK K
    try simp only [Act.put, List.setIfInBounds_toArray, List.set_cons_zero, List.set_cons_succ]
    iterate 3
      refine wpS_t rfl (v := ?_) (by rfl) (fun W => ?_) ?_
      rotate_left
      · go_simp
        try rfl
      try simp only [Act.put, List.setIfInBounds_toArray, List.set_cons_zero, List.set_cons_succ]
    refine wpS_done ?_
    go_wp2_with fail
    exact bodyPost_ret (results_tmp rfl _ _ _) rfl ⟨rfl, hB⟩
end Go.Proofs.Ytdkcndgehgmadaa
