/-
  Walks: the paths' law's 'alive'.
-/
import Derived.Test.YtdkcndgehgmadaaP1
import Derived.Test.YtdkcndgehgmadaaP4
import Derived.Test.YtdkcndgehgmadaaG11
open Go Go.RowKit Alm
namespace Go.Proofs.Ytdkcndgehgmadaa
theorem pathsOf_arg (l : List Sum) (m : Nat) (v : Value) (w : World) (hv : SumsAt w v l) (h : l.length ≤ m) (hm : m < 4000000000) : Calls Try.prog 24 #[v, .int .i64 (m : Int)] w fun e w' => e = .returned (.tuple #[.slice none 0 0, .int .i64 1]) ∧ w = w' := by
  obtain ⟨a, cap, rfl, _, _, _⟩ := hv
  have k0 : (0 : Int) ≤ (m : Int) := by omega
  have k1 : ((l.length : Nat) : Int) ≤ (m : Int) := by omega
  go_enter Try.func24, Try.ntmps24
  go_wp2_with fail
  exact bodyPost_ret (results_tmp2 rfl _ _ _) rfl ⟨rfl, rfl⟩
theorem path_30 (a b c : Sum) : path nd e0 [a, b, c] 0 = [b, c] := by
  rw [path_left_ [a, b, c] 0 (by simp) (by rw [show [a, b, c].length = 3 from rfl, cut_three]; omega)]
  rw [show [a, b, c].length = 3 from rfl, cut_three]
  simp only [List.take, List.drop]
  rw [path_left_ [a, b] 0 (by simp) (by rw [show [a, b].length = 2 from rfl, cut_two]; omega)]
  rw [show [a, b].length = 2 from rfl, cut_two]
  simp only [List.take, List.drop]
  rw [path_end [a] 0 (by simp), rt_one, rt_one]; rfl
theorem path_32 (a b c : Sum) : path nd e0 [a, b, c] 2 = [nd a b] := by
  rw [path_right_ [a, b, c] 2 (by simp) (by rw [show [a, b, c].length = 3 from rfl, cut_three]; omega)]
  rw [show [a, b, c].length = 3 from rfl, cut_three]
  simp only [List.take, List.drop]
  rw [path_end [c] _ (by simp), rt_pair]; rfl
theorem pathBe_path (l : List Sum) (k : Nat) (x : Sum) (h : l[k]? = some x) : pathBe x k l.length (path nd e0 l k) (rt l) = true := by
  have hk : k < l.length := (List.getElem?_eq_some_iff.1 h).1
  have := leads_path nd e0 l k x h []
  rw [List.append_nil] at this
  unfold pathBe
  rw [this, rt_eq]
  simp [hk]
theorem pathBe_more (l : List Sum) (k : Nat) (x : Sum) (h : l[k]? = some x) (s : Sum) : pathBe x k l.length (path nd e0 l k ++ [s]) (rt l) = false := by
  have := leads_path nd e0 l k x h [s]
  unfold pathBe
  rw [this]
  simp
theorem pathBe_less (x : Sum) (k n : Nat) (p : List Sum) (r : Sum) (h : p.length < plen k n) : pathBe x k n p r = false := by
  unfold pathBe
  rw [leads_none nd x k n p h]
  simp
theorem pathBe_one (a : Sum) (p : List Sum) (r : Sum) : pathBe a 0 1 p r = (decide (p = []) && decide (a = r)) := by
  unfold pathBe
  rw [leads, dif_pos (Nat.le_refl _)]
  cases p <;> simp
set_option maxRecDepth 100000 in
set_option maxHeartbeats 4000000 in
theorem alive_paths (w : World) : Calls Try.prog 23 #[] w fun e w' => e = .returned (.bool true) ∧ Below w.heap.size w w' := by
  go_enter Try.func23, Try.ntmps23
  go_wp2_with (first
    | (refine wpList_build_one rfl _ rfl (.int .u8 1) (lit 1) rfl build_1 ?_)
    | (refine wpList_build_one rfl _ rfl (.int .u8 2) (lit 2) rfl build_2 ?_)
    | (refine wpList_build_one rfl _ rfl (.int .u8 3) (lit 3) rfl build_3 ?_)
    | (refine wpList_build_sums rfl 3 _ rfl [lit 1, lit 2, lit 3] rfl (by omega) (by omega) rfl ?_))
  have hr := range_new w (cellsAll [lit 1, lit 2, lit 3]).toArray 24 _ rfl
  have hB := al (Below.refl _ w) (.cells (cellsAll [lit 1, lit 2, lit 3]).toArray 24)
  obtain ⟨L, hL⟩ : ∃ L, L = w.heap.size := ⟨_, rfl⟩
  rw [← hL] at hr ⊢
  clear hL
  generalize w.alloc (.cells (cellsAll [lit 1, lit 2, lit 3]).toArray 24) = W1 at *
  have HB1 := Lib.hid hB.drew; clear hB
  have hr : W1.drew.rangeAt L 0 (cellsAll [lit 1, lit 2, lit 3]) := hr
  have HR1 := Lib.hid hr; clear hr
  obtain ⟨ab, hab⟩ : ∃ ab, ab = nd (lit 1) (lit 2) := ⟨_, rfl⟩
  have HAB := Lib.hid hab; clear hab
  refine wp_region_sched (fun W => W.rangeAt L 0 (cellsAll [lit 1, lit 2, lit 3])) [.t 0, .t 1, .t 3, .t 4, .s 2, .s 5, .f 6 7 true, .e 8 false] (by kernel_rfl) (by kernel_rfl) (by intro c a d v w h; cases d <;> exact h) ?_
  generalize W1.drew = W2 at *
  iterate 4
    refine wpS_t rfl (v := ?_) (by rfl) (fun W => ?_) ?_
    rotate_left
    · go_simp
      try rfl
    try simp only [Act.put, List.setIfInBounds_toArray, List.set_cons_zero, List.set_cons_succ]
  refine wpS_load_sum (by exact HR1.out) rfl (by rfl) _ (by rfl) L 0 (by rfl) (lit 1) (fun W hW => range_at hW (i := 0) (by simp)) ?_
  try simp only [Act.put, List.setIfInBounds_toArray, List.set_cons_zero, List.set_cons_succ]
  refine wpS_load_sum (by exact HR1.out) rfl (by rfl) _ (by rfl) L 32 (by rfl) (lit 2) (fun W hW => range_at hW (i := 1) (by simp)) ?_
  try simp only [Act.put, List.setIfInBounds_toArray, List.set_cons_zero, List.set_cons_succ]
  have HBW := Lib.hid (And.intro HR1.out HB1.out)
  clear HB1 HR1 hr
  refine' join (fun (q : Nat) (W : World) => W.rangeAt q 0 (cellsOf ab) ∧ W.rangeAt L 0 (cellsAll [lit 1, lit 2, lit 3]) ∧ Below w.heap.size w W) (fun key => ?_) ?_
  rotate_left
  · refine wpS_fk ?_ ?_
    · refine wpOp_of rfl (by rfl) (fun K hK => ?_)
      go_simp
      refine (nd_any (lit 1) (lit 2) W2).mono ?_
      rw [← HAB.out]
      rintro e W3 ⟨rfl, hb⟩
      have hk := Keeps.of_below (X := fun _ => False) hb
      have hr3 := hk.range HBW.out.1 (fun h => h)
      have hb3 := HBW.out.2.trans (hb.mono HBW.out.2.size)
      have R4 : Res W3 32 (W3.alloc (.cells (cells8 (List.replicate 32 0)).toArray 24)) := Res.start _ _ _ _ (by rfl)
      have HF : Hid (((W3.alloc (.cells (cells8 (List.replicate 32 0)).toArray 24)).setCells W3.heap.size 0 (cellsOf ab)).rangeAt W3.heap.size 0 (cellsOf ab) ∧ ((W3.alloc (.cells (cells8 (List.replicate 32 0)).toArray 24)).setCells W3.heap.size 0 (cellsOf ab)).rangeAt L 0 (cellsAll [lit 1, lit 2, lit 3]) ∧ Below w.heap.size w ((W3.alloc (.cells (cells8 (List.replicate 32 0)).toArray 24)).setCells W3.heap.size 0 (cellsOf ab))) := Lib.hid ⟨range_stored _ _ _ _ (by rw [length_cellsOf]; exact (R4.store _).there), (R4.store _).range hr3, hb3.trans ((R4.store _).below.mono hb3.size)⟩
      refine hK _ _ ⟨by exact hr3, ?_⟩; clear hK K hk hb
      try simp only [Act.put, List.setIfInBounds_toArray, List.set_cons_zero, List.set_cons_succ]
      refine wpOp_of rfl (by rfl) (fun K hK => ?_)
      go_simp
      refine hK _ _ ⟨by exact R4.range hr3, ?_⟩; clear hK K
      try simp only [Act.put, List.setIfInBounds_toArray, List.set_cons_zero, List.set_cons_succ]
      refine wpS_e rfl (by rfl) (fun K hK => ?_)
      refine wp_store_sum _ _ (by rfl) W3.heap.size 0 ab (by rfl) (by rfl) R4.there ?_
      refine hK _ _ ?_; clear hK K
      try simp only [Act.put, List.setIfInBounds_toArray, List.set_cons_zero, List.set_cons_succ]
      change wpS _ _ _ _ _ _ _ ((W3.alloc (.cells (cells8 (List.replicate 32 0)).toArray 24)).setCells W3.heap.size 0 (cellsOf ab))
      clear R4
      generalize (W3.alloc (.cells (cells8 (List.replicate 32 0)).toArray 24)).setCells W3.heap.size 0 (cellsOf ab) = W5 at *
      generalize W3.heap.size = q at *
      exact key q W5 HF.out
    · have R3 : Res W2 32 (W2.alloc (.cells (cells8 (List.replicate 32 0)).toArray 24)) := Res.start _ _ _ _ (by rfl)
      refine wpOp_of rfl (by rfl) (fun K hK => ?_)
      go_simp
      refine hK _ _ ⟨by exact R3.range HBW.out.1, ?_⟩; clear hK K
      try simp only [Act.put, List.setIfInBounds_toArray, List.set_cons_zero, List.set_cons_succ]
      refine wpOp_of rfl (by rfl) (fun K hK => ?_)
      go_simp
      refine (nd_any (lit 1) (lit 2) (W2.alloc (.cells (cells8 (List.replicate 32 0)).toArray 24))).mono ?_
      rw [← HAB.out]
      rintro e W4 ⟨rfl, hb⟩
      have R4 : Res W2 32 W4 := R3.call (by decide) hb
      have hb4 := HBW.out.2.trans ((R4.store (cellsOf ab)).below.mono HBW.out.2.size)
      have HF : Hid ((W4.setCells W2.heap.size 0 (cellsOf ab)).rangeAt W2.heap.size 0 (cellsOf ab) ∧ (W4.setCells W2.heap.size 0 (cellsOf ab)).rangeAt L 0 (cellsAll [lit 1, lit 2, lit 3]) ∧ Below w.heap.size w (W4.setCells W2.heap.size 0 (cellsOf ab))) := Lib.hid ⟨range_stored _ _ _ _ (by rw [length_cellsOf]; exact (R4.store _).there), (R4.store _).range HBW.out.1, hb4⟩
      refine hK _ _ ⟨by exact R4.range HBW.out.1, ?_⟩; clear hK K hb hb4
      try simp only [Act.put, List.setIfInBounds_toArray, List.set_cons_zero, List.set_cons_succ]
      refine wpS_e rfl (by rfl) (fun K hK => ?_)
      refine wp_store_sum _ _ (by rfl) W2.heap.size 0 ab (by rfl) (by rfl) R4.there ?_
      refine hK _ _ ?_; clear hK K
      try simp only [Act.put, List.setIfInBounds_toArray, List.set_cons_zero, List.set_cons_succ]
      clear R3 R4
      generalize W4.setCells W2.heap.size 0 (cellsOf ab) = W5 at *
      generalize W2.heap.size = q at *
      exact key q W5 HF.out
  · intro q W hF
    have HF := Lib.hid hF; clear hF HBW
    clear W1 W2
    obtain ⟨ls, hls⟩ : ∃ ls, ls = [lit 1, lit 2, lit 3] := ⟨_, rfl⟩
    have hSW : SumsAt W (.slice (some ⟨L, 0, none⟩) 3 3) ls := by rw [hls]; exact ⟨_, 3, rfl, by simp, by decide, .inr ⟨_, _, rfl, HF.out.2.1⟩⟩
    have HO1 : Hid (∀ W', SumsAt W' (.slice (some ⟨L, 0, none⟩) 3 3) ls → Calls Try.prog 24 #[.slice (some ⟨L, 0, none⟩) 3 3, .int .i64 0] W' (LinkOf W' [lit 2, lit 3])) := Lib.hid (fun W' h => by
      have := pathsOf_any ls 0 _ W' h (by rw [hls]; simp) (by rw [hls]; simp)
      rw [hls, path_30] at this
      exact this)
    have HO2 : Hid (∀ W', SumsAt W' (.slice (some ⟨L, 0, none⟩) 3 3) ls → Calls Try.prog 24 #[.slice (some ⟨L, 0, none⟩) 3 3, .int .i64 2] W' (LinkOf W' [ab])) := Lib.hid (fun W' h => by
      have := pathsOf_any ls 2 _ W' h (by rw [hls]; simp) (by rw [hls]; simp)
      rw [hls, path_32, ← HAB.out] at this
      exact this)
    have HO3 : Hid (∀ W', SumsAt W' (.slice (some ⟨L, 0, none⟩) 1 3) [lit 1] → Calls Try.prog 24 #[.slice (some ⟨L, 0, none⟩) 1 3, .int .i64 0] W' (LinkOf W' [])) := Lib.hid (fun W' h => by
      have := pathsOf_any [lit 1] 0 _ W' h (by simp) (by simp)
      rw [path_end _ _ (by simp)] at this
      exact this)
    have HT1 : Hid (∀ W', SumsAt W' (.slice (some ⟨L, 0, none⟩) 3 3) ls → SumsAt W' (.slice (some ⟨L, 0, none⟩) 1 3) [lit 1]) := Lib.hid (fun W' h => by
      obtain ⟨bb, oo, cc, he, _, _, hr⟩ := sums_form h (by rw [hls]; simp)
      have e1 : bb = L ∧ oo = 0 := by
        simp only [Value.slice.injEq, Option.some.injEq, Addr.mk.injEq] at he
        exact ⟨he.1.1.symm, he.1.2.1.symm⟩
      obtain ⟨rfl, rfl⟩ := e1
      have := sums_take (cap := 3) (k := 1) hr (by rw [hls]; simp) (by omega) (by unfold maxLen; omega)
      rw [hls] at this
      exact this)
    have HLS := Lib.hid hls
    have HSW := Lib.hid hSW
    clear hSW hls
    refine wpS_done ?_
    go_wp2_with fail
    refine (HO1.out W HSW.out).mono ?_
    rintro e w1 ⟨va, rfl, hN, hb⟩
    have HA := Lib.hid hN.sums
    have HSW1 := Lib.hid (HSW.out.below hb (Nat.le_refl _))
    have HB1 := Lib.hid hb
    clear hN hb HO1
    go_wp2_with fail
    refine (HO2.out w1 HSW1.out).mono ?_
    rintro e w2 ⟨vb, rfl, hN, hb⟩
    have HBB := Lib.hid hN.sums
    have HSW2 := Lib.hid (HSW1.out.below hb (Nat.le_refl _))
    have HA2 := Lib.hid (HA.out.below hb (Nat.le_refl _))
    have HB2 := Lib.hid (HB1.out.trans (hb.mono HB1.out.size))
    clear hN hb HO2
    go_wp2_with fail
    refine (HO3.out w2 (HT1.out w2 HSW2.out)).mono ?_
    rintro e w3 ⟨vc, rfl, hN, hb⟩
    obtain ⟨ac, cc, rfl, _, _, _⟩ := hN.sums
    have HSW3 := Lib.hid (HSW2.out.below hb (Nat.le_refl _))
    have HA3 := Lib.hid (HA2.out.below hb (Nat.le_refl _))
    have HBB3 := Lib.hid (HBB.out.below hb (Nat.le_refl _))
    have hb3 := HB2.out.trans (hb.mono HB2.out.size)
    have HQ3 := Lib.hid ((Keeps.of_below (X := fun _ => False) hb3).range HF.out.1 (fun h => h))
    have HL3 := Lib.hid ((Keeps.of_below (X := fun _ => False) hb3).range HF.out.2.1 (fun h => h))
    have HW3 := Lib.hid (HF.out.2.2.trans (hb3.mono HF.out.2.2.size))
    clear hN hb hb3 HO3 HB1 HB2 HSW HSW1 HSW2 HA HA2 HBB HF
    go_wp2_with fail
    refine (pathsOf_arg [lit 1] 1 _ w3 (HT1.out w3 HSW3.out) (by simp) (by omega)).mono ?_
    rintro e w4 ⟨rfl, rfl⟩
    go_wp2_with fail
    have hes := eq_sums_same
    refine wp_region_sched (fun V => Below w3.heap.size w3 V) (Mv.t 0 :: Mv.t 1 :: Mv.t 2 :: Mv.t 3 :: Mv.t 4 :: Mv.t 5 :: Mv.e 6 true :: Mv.e 7 true :: Mv.t 8 :: Mv.t 9 :: Mv.t 10 :: Mv.t 11 :: Mv.t 12 :: Mv.t 13 :: Mv.t 14 :: Mv.e 15 true :: Mv.e 16 true :: Mv.e 17 true :: Mv.t 18 :: Mv.t 19 :: Mv.t 20 :: Mv.t 21 :: Mv.t 22 :: Mv.t 23 :: Mv.t 24 :: Mv.t 25 :: Mv.t 26 :: Mv.t 27 :: Mv.t 28 :: Mv.t 29 :: Mv.t 30 :: Mv.t 31 :: Mv.t 32 :: Mv.t 33 :: Mv.t 34 :: Mv.t 39 :: Mv.t 40 :: Mv.s 35 :: Mv.s 36 :: Mv.s 38 :: Mv.s 41 :: Mv.f 37 42 true :: Mv.e 43 true :: Mv.t 44 :: Mv.t 45 :: Mv.t 46 :: Mv.t 47 :: Mv.t 49 :: Mv.t 50 :: Mv.s 48 :: Mv.e 51 true :: Mv.e 52 true :: Mv.t 53 :: Mv.t 54 :: Mv.t 55 :: Mv.t 56 :: Mv.t 58 :: Mv.t 59 :: Mv.s 57 :: Mv.e 60 true :: Mv.e 61 true :: Mv.t 62 :: Mv.t 63 :: Mv.t 64 :: []) (by kernel_rfl) (by kernel_rfl) (by intro c a d v w h; cases d <;> exact h) ?_
    have HS := Lib.hid (Below.refl w3.heap.size w3).drew
    generalize w3.drew = V at *
    iterate 6
      refine wpS_t rfl (v := ?_) (by rfl) (fun W => ?_) ?_
      rotate_left
      · go_simp
        try rfl
      try simp only [Act.put, List.setIfInBounds_toArray, List.set_cons_zero, List.set_cons_succ]
    rw [val_2, val_3]
    refine wpS_k rfl (by rfl) (fun K hK => ?_)
    refine wp_build_sums 2 _ (by rfl) [lit 2, lit 3] rfl (by omega) (by omega) (by rfl) ?_
    have HY := Lib.hid (sums_built V [lit 2, lit 3] 2 rfl (by omega))
    replace HS := Lib.hid (HS.out.trans ((al (Below.refl V.heap.size V) (.cells (cellsAll [lit 2, lit 3]).toArray 24)).mono HS.out.size))
    generalize V.heap.size = g at *
    generalize V.alloc (.cells (cellsAll [lit 2, lit 3]).toArray 24) = V at *
    refine hK _ _ ⟨by exact HS.out, ?_⟩; clear hK K
    try simp only [Act.put, List.setIfInBounds_toArray, List.set_cons_zero, List.set_cons_succ]
    refine wpS_k rfl (by rfl) (fun K hK => ?_)
    go_simp
    refine (same_sums [lit 2, lit 3] [lit 2, lit 3] va (.slice (some ⟨g, 0, none⟩) 2 2) V (HA3.out.below HS.out (Nat.le_refl _)) HY.out).mono ?_
    rw [decide_eq_true (rfl : [lit 2, lit 3] = [lit 2, lit 3])]
    rintro e V ⟨rfl, hb⟩
    replace HS := Lib.hid (HS.out.trans (hb.mono HS.out.size))
    clear HY hb
    refine hK _ _ ⟨by exact HS.out, ?_⟩; clear hK K
    try simp only [Act.put, List.setIfInBounds_toArray, List.set_cons_zero, List.set_cons_succ]
    iterate 7
      refine wpS_t rfl (v := ?_) (by rfl) (fun W => ?_) ?_
      rotate_left
      · go_simp
        try rfl
      try simp only [Act.put, List.setIfInBounds_toArray, List.set_cons_zero, List.set_cons_succ]
    refine wpS_k rfl (by rfl) (fun K hK => ?_)
    refine wp_load_sum _ (by rfl) q 0 (by rfl) ab (br HS.out HQ3.out) ?_
    refine hK _ _ ⟨by exact HS.out, ?_⟩; clear hK K
    try simp only [Act.put, List.setIfInBounds_toArray, List.set_cons_zero, List.set_cons_succ]
    refine wpS_k rfl (by rfl) (fun K hK => ?_)
    refine wp_build_sums 1 _ (by rfl) [ab] rfl (by omega) (by omega) (by rfl) ?_
    have HY := Lib.hid (sums_built V [ab] 1 rfl (by omega))
    replace HS := Lib.hid (HS.out.trans ((al (Below.refl V.heap.size V) (.cells (cellsAll [ab]).toArray 24)).mono HS.out.size))
    generalize V.heap.size = g at *
    generalize V.alloc (.cells (cellsAll [ab]).toArray 24) = V at *
    refine hK _ _ ⟨by exact HS.out, ?_⟩; clear hK K
    try simp only [Act.put, List.setIfInBounds_toArray, List.set_cons_zero, List.set_cons_succ]
    refine wpS_k rfl (by rfl) (fun K hK => ?_)
    go_simp
    refine (same_sums [ab] [ab] vb (.slice (some ⟨g, 0, none⟩) 1 1) V (HBB3.out.below HS.out (Nat.le_refl _)) HY.out).mono ?_
    rw [decide_eq_true (rfl : [ab] = [ab])]
    rintro e V ⟨rfl, hb⟩
    replace HS := Lib.hid (HS.out.trans (hb.mono HS.out.size))
    clear HY hb
    refine hK _ _ ⟨by exact HS.out, ?_⟩; clear hK K
    try simp only [Act.put, List.setIfInBounds_toArray, List.set_cons_zero, List.set_cons_succ]
    iterate 19
      refine wpS_t rfl (v := ?_) (by rfl) (fun W => ?_) ?_
      rotate_left
      · go_simp
        try rfl
      try simp only [Act.put, List.setIfInBounds_toArray, List.set_cons_zero, List.set_cons_succ]
    refine wpS_load_sum (by exact HS.out) rfl (by rfl) _ (by rfl) L 64 (by rfl) (lit 3) (fun V hV => br hV (range_at HL3.out (i := 2) (by simp))) ?_
    try simp only [Act.put, List.setIfInBounds_toArray, List.set_cons_zero, List.set_cons_succ]
    refine wpS_load_sum (by exact HS.out) rfl (by rfl) _ (by rfl) q 0 (by rfl) ab (fun V hV => br hV HQ3.out) ?_
    try simp only [Act.put, List.setIfInBounds_toArray, List.set_cons_zero, List.set_cons_succ]
    refine wpS_load_sum (by exact HS.out) rfl (by rfl) _ (by rfl) q 0 (by rfl) ab (fun V hV => br hV HQ3.out) ?_
    try simp only [Act.put, List.setIfInBounds_toArray, List.set_cons_zero, List.set_cons_succ]
    refine wpS_load_sum (by exact HS.out) rfl (by rfl) _ (by rfl) L 64 (by rfl) (lit 3) (fun V hV => br hV (range_at HL3.out (i := 2) (by simp))) ?_
    try simp only [Act.put, List.setIfInBounds_toArray, List.set_cons_zero, List.set_cons_succ]
    obtain ⟨abc, habc⟩ : ∃ x, x = nd ab (lit 3) := ⟨_, rfl⟩
    have ht : pathBe (lit 3) 2 3 [ab] abc = true := by
      have := pathBe_path [lit 1, lit 2, lit 3] 2 (lit 3) rfl
      rw [path_32, rt_triple, ← HAB.out, ← habc] at this
      exact this
    have HT := Lib.hid ht; clear ht
    have HABC := Lib.hid habc; clear habc
    refine' join (fun (g : Nat) (V : World) => SumsAt V (.slice (some ⟨g, 0, none⟩) 1 1) [ab] ∧ Below w3.heap.size w3 V) (fun key => ?_) ?_
    rotate_left
    · refine wpS_fk ?_ ?_
      · refine wpOp_of rfl (by rfl) (fun K hK => ?_)
        refine wp_build_sums 1 _ (by rfl) [ab] rfl (by omega) (by omega) (by rfl) ?_
        have HY := Lib.hid (sums_built V [ab] 1 rfl (by omega))
        have HS1 := Lib.hid (HS.out.trans ((al (Below.refl V.heap.size V) (.cells (cellsAll [ab]).toArray 24)).mono HS.out.size))
        generalize V.heap.size = g at *
        generalize V.alloc (.cells (cellsAll [ab]).toArray 24) = V1 at *
        refine hK _ _ ⟨by exact HS1.out, ?_⟩; clear hK K
        try simp only [Act.put, List.setIfInBounds_toArray, List.set_cons_zero, List.set_cons_succ]
        refine wpOp_of rfl (by rfl) (fun K hK => ?_)
        go_simp
        refine (nd_any ab (lit 3) V1).mono ?_
        rw [← HABC.out]
        rintro e V2 ⟨rfl, hb⟩
        have HS2 := Lib.hid (HS1.out.trans (hb.mono HS1.out.size))
        have HY2 := Lib.hid (HY.out.below hb (Nat.le_refl _))
        refine hK _ _ ⟨by exact HS2.out, ?_⟩; clear hK K hb
        try simp only [Act.put, List.setIfInBounds_toArray, List.set_cons_zero, List.set_cons_succ]
        exact key g V2 ⟨HY2.out, HS2.out⟩
      · refine wpOp_of rfl (by rfl) (fun K hK => ?_)
        go_simp
        refine (nd_any ab (lit 3) V).mono ?_
        rw [← HABC.out]
        rintro e V1 ⟨rfl, hb⟩
        have HS1 := Lib.hid (HS.out.trans (hb.mono HS.out.size))
        refine hK _ _ ⟨by exact HS1.out, ?_⟩; clear hK K hb
        try simp only [Act.put, List.setIfInBounds_toArray, List.set_cons_zero, List.set_cons_succ]
        refine wpOp_of rfl (by rfl) (fun K hK => ?_)
        refine wp_build_sums 1 _ (by rfl) [ab] rfl (by omega) (by omega) (by rfl) ?_
        have HY := Lib.hid (sums_built V1 [ab] 1 rfl (by omega))
        have HS2 := Lib.hid (HS1.out.trans ((al (Below.refl V1.heap.size V1) (.cells (cellsAll [ab]).toArray 24)).mono HS1.out.size))
        generalize V1.heap.size = g at *
        generalize V1.alloc (.cells (cellsAll [ab]).toArray 24) = V2 at *
        refine hK _ _ ⟨by exact HS2.out, ?_⟩; clear hK K
        try simp only [Act.put, List.setIfInBounds_toArray, List.set_cons_zero, List.set_cons_succ]
        exact key g V2 ⟨HY.out, HS2.out⟩
    · intro g V hF
      have HY := Lib.hid hF.1
      have HS := Lib.hid hF.2
      clear hF
      refine wpS_k rfl (by rfl) (fun K hK => ?_)
      go_simp
      refine (pcheck_in (lit 3) 2 3 (.slice (some ⟨g, 0, none⟩) 1 1) [ab] abc V HY.out (by omega) (by omega)).mono ?_
      rw [HT.out]
      rintro e V ⟨rfl, hb⟩
      replace HS := Lib.hid (HS.out.trans (hb.mono HS.out.size))
      clear hb HY
      refine hK _ _ ⟨by exact HS.out, ?_⟩; clear hK K
      try simp only [Act.put, List.setIfInBounds_toArray, List.set_cons_zero, List.set_cons_succ]
      iterate 6
        refine wpS_t rfl (v := ?_) (by rfl) (fun W => ?_) ?_
        rotate_left
        · go_simp
          try rfl
        try simp only [Act.put, List.setIfInBounds_toArray, List.set_cons_zero, List.set_cons_succ]
      refine wpS_load_sum (by exact HS.out) rfl (by rfl) _ (by rfl) L 0 (by rfl) (lit 1) (fun V hV => br hV (range_at HL3.out (i := 0) (by simp))) ?_
      try simp only [Act.put, List.setIfInBounds_toArray, List.set_cons_zero, List.set_cons_succ]
      refine wpS_k rfl (by rfl) (fun K hK => ?_)
      refine wp_load_sum _ (by rfl) L 0 (by rfl) (lit 1) (br HS.out (range_at HL3.out (i := 0) (by simp))) ?_
      refine hK _ _ ⟨by exact HS.out, ?_⟩; clear hK K
      try simp only [Act.put, List.setIfInBounds_toArray, List.set_cons_zero, List.set_cons_succ]
      refine wpS_k rfl (by rfl) (fun K hK => ?_)
      go_simp
      refine (pcheck_in (lit 1) 0 1 (.slice none 0 0) [] (lit 1) V ⟨none, 0, rfl, Nat.le_refl _, by decide, .inl rfl⟩ (by omega) (by omega)).mono ?_
      rw [pathBe_one, decide_eq_true rfl, decide_eq_true rfl, Bool.and_true]
      rintro e V ⟨rfl, hb⟩
      replace HS := Lib.hid (HS.out.trans (hb.mono HS.out.size))
      clear hb
      refine hK _ _ ⟨by exact HS.out, ?_⟩; clear hK K
      try simp only [Act.put, List.setIfInBounds_toArray, List.set_cons_zero, List.set_cons_succ]
      iterate 6
        refine wpS_t rfl (v := ?_) (by rfl) (fun W => ?_) ?_
        rotate_left
        · go_simp
          try rfl
        try simp only [Act.put, List.setIfInBounds_toArray, List.set_cons_zero, List.set_cons_succ]
      refine wpS_load_sum (by exact HS.out) rfl (by rfl) _ (by rfl) L 0 (by rfl) (lit 1) (fun V hV => br hV (range_at HL3.out (i := 0) (by simp))) ?_
      try simp only [Act.put, List.setIfInBounds_toArray, List.set_cons_zero, List.set_cons_succ]
      refine wpS_k rfl (by rfl) (fun K hK => ?_)
      refine wp_load_sum _ (by rfl) L 0 (by rfl) (lit 1) (br HS.out (range_at HL3.out (i := 0) (by simp))) ?_
      refine hK _ _ ⟨by exact HS.out, ?_⟩; clear hK K
      try simp only [Act.put, List.setIfInBounds_toArray, List.set_cons_zero, List.set_cons_succ]
      refine wpS_k rfl (by rfl) (fun K hK => ?_)
      go_simp
      refine (pcheck_out (lit 1) 1 1 (.slice none 0 0) [] (lit 1) V ⟨none, 0, rfl, Nat.le_refl _, by decide, .inl rfl⟩ (by omega)).mono ?_
      rintro e V ⟨rfl, hb⟩
      replace HS := Lib.hid (HS.out.trans (hb.mono HS.out.size))
      clear hb
      refine hK _ _ ⟨by exact HS.out, ?_⟩; clear hK K
      try simp only [Act.put, List.setIfInBounds_toArray, List.set_cons_zero, List.set_cons_succ]
      iterate 3
        refine wpS_t rfl (v := ?_) (by rfl) (fun W => ?_) ?_
        rotate_left
        · go_simp
          try rfl
        try simp only [Act.put, List.setIfInBounds_toArray, List.set_cons_zero, List.set_cons_succ]
      refine wpS_done ?_
      go_wp2_with fail
      exact bodyPost_ret (results_tmp rfl _ _ _) rfl ⟨rfl, HW3.out.trans (HS.out.mono HW3.out.size)⟩
end Go.Proofs.Ytdkcndgehgmadaa
