/-
  Joined: U11, U12, U13, U16, V2.
-/
import Derived.Test.YtfmgoehnbaiamaaGreatDoorU10
import Derived.Stop.BytesEq
-- Walks: sums compared; SameBytes, SamePair, SamePairs; how great pairs are; a map of pairs.
open Go Go.RowKit Alm
namespace Go.Proofs.YtfmgoehnbaiamaaGreatDoor
theorem eq_sums_d (d : Nat) (s t : Sum) (w : World) : (Op.equalIn (d + 2) 24 (.agg (cellsOf s).toArray) (.agg (cellsOf t).toArray)).run Tryz.prog w = .ok (decide (s = t)) w := by
  have h := run_equalIn_bytes (P := Tryz.prog) w d 24 5 32 Tryz.underlying24 Tryz.underlying5 (fun w => Tryz.sizeOf5 w) s.toList t.toList (by simp) (by simp)
  have hc : ∀ s : Sum, cellsOf s = s.toList.map Extern.Stop.cell := fun s => rfl
  simp only [hc]
  rw [h]
  have hd : (s.toList == t.toList) = decide (s = t) := by
    rw [Bool.eq_iff_iff]
    simp
  rw [hd]
theorem eq_sums (s t : Sum) (w : World) : (Op.equalIn 10000 24 (.agg (cellsOf s).toArray) (.agg (cellsOf t).toArray)).run Tryz.prog w = .ok (decide (s = t)) w := by
  obtain ⟨d, hd⟩ : ∃ d, 10000 = d + 2 := ⟨9998, rfl⟩
  rw [hd]
  exact eq_sums_d d s t w
theorem eq_sums_same (s : Sum) (w : World) : (Op.equalIn 10000 24 (.agg (cellsOf s).toArray) (.agg (cellsOf s).toArray)).run Tryz.prog w = .ok true w := by
  rw [eq_sums]; simp
/-- The sum whose first byte is b. -/
noncomputable def lit (b : UInt8) : Sum := Classical.choose (⟨Vector.ofFn fun i : Fin 32 => if i.1 = 0 then b else 0, rfl⟩ : ∃ s : Sum, s = Vector.ofFn fun i : Fin 32 => if i.1 = 0 then b else 0)
set_option maxRecDepth 100000 in
set_option maxHeartbeats 1000000 in
theorem same_bytes (a b : List UInt8) (va vb : Value) (w : World) (ha : BytesAt w va a) (hb : BytesAt w vb b) : Calls Tryz.prog 17 #[va, vb] w fun e w' => e = .returned (.bool (decide (a = b))) ∧ Below w.heap.size w w' := by
  obtain ⟨aa, ca, rfl, ha1, ha2, ha3⟩ := ha
  obtain ⟨ab, cb, rfl, hb1, hb2, hb3⟩ := hb
  obtain ⟨n, hn⟩ : ∃ n, n = a.length := ⟨_, rfl⟩
  obtain ⟨m, hm⟩ : ∃ m, m = b.length := ⟨_, rfl⟩
  rw [← hn] at ha1 ⊢
  rw [← hm] at hb1 ⊢
  have HN := Lib.hid hn; clear hn
  have HM := Lib.hid hm; clear hm
  unfold maxLen at ha2 hb2
  have hn63 : (n : Int) < 9223372036854775808 := by omega
  by_cases hnm : n = m
  · subst hnm
    have hne : ((n : Int) != (n : Int)) = false := by simp
    have hq : decide (a = b) = decide (∀ j, j < n → a[j]? = b[j]?) := by
      rw [decide_eq_decide]
      constructor
      · rintro rfl j _; rfl
      · intro h
        refine List.ext_getElem? fun j => ?_
        by_cases hj : j < n
        · exact h j hj
        · rw [List.getElem?_eq_none (by rw [← HN.out]; omega), List.getElem?_eq_none (by rw [← HM.out]; omega)]
    obtain ⟨r, hr⟩ : ∃ r, r = decide (a = b) := ⟨_, rfl⟩
    rw [← hr] at hq ⊢
    have HQ := Lib.hid hq; clear hq hr
    go_enter Tryz.func17, Tryz.ntmps17
    go_wp2_with fail
    go_loopw [5] (fun i W => ∃ j : Nat, j ≤ n ∧ i = .int .i64 (j : Int) ∧ (∀ k, k < j → a[k]? = b[k]?) ∧ Below w.heap.size w W) (fun i _ => n - (intOf i).toNat)
    case atStart => exact ⟨0, by omega, rfl, fun k hk => by omega, Below.refl _ _⟩
    case round =>
      obtain ⟨j, hj, rfl, hall, hB⟩ := hrel
      have HA := Lib.hid hall; clear hall
      by_cases hlt : j < n
      · have hlt' : (j : Int) < (n : Int) := by omega
        have hj0 : (0 : Int) ≤ (j : Int) := by omega
        have hna : a ≠ [] := by intro h; have := HN.out; rw [h] at this; simp at this; omega
        have hnb : b ≠ [] := by intro h; have := HM.out; rw [h] at this; simp at this; omega
        obtain ⟨ba, oa, rfl, hra⟩ := ha3.resolve_left hna
        obtain ⟨bb, ob, rfl, hrb⟩ := hb3.resolve_left hnb
        have hja : j < a.length := by have := HN.out; omega
        have hjb : j < b.length := by have := HM.out; omega
        have hca : w.cell? ⟨ba, oa + j, none⟩ = some (.int .u8 ((a[j].toNat : Nat) : Int)) := hra j _ (by simp [cells8, u8v, hja])
        have hcb : w.cell? ⟨bb, ob + j, none⟩ = some (.int .u8 ((b[j].toNat : Nat) : Int)) := hrb j _ (by simp [cells8, u8v, hjb])
        have HXA := Lib.hid ((hB.drew.cell (p := ⟨ba, oa + j, none⟩) (World.block_lt_of_cell? w _ hca)).trans hca)
        have HXB := Lib.hid ((hB.drew.cell (p := ⟨bb, ob + j, none⟩) (World.block_lt_of_cell? w _ hcb)).trans hcb)
        have HGA := Lib.hid (List.getElem?_eq_getElem hja)
        have HGB := Lib.hid (List.getElem?_eq_getElem hjb)
        have hxy : a[j] = b[j] ↔ a[j].toNat = b[j].toNat := by rw [UInt8.toNat_inj]
        have HXY := Lib.hid hxy
        clear hxy hca hcb
        generalize a[j] = x at *
        generalize b[j] = y at *
        clear hra hrb hja hjb ha3 hb3
        have hp9 := x.toNat_lt
        have hq9 := y.toNat_lt
        obtain ⟨p, hp⟩ : ∃ p, p = x.toNat := ⟨_, rfl⟩
        obtain ⟨q, hq⟩ : ∃ p, p = y.toNat := ⟨_, rfl⟩
        rw [← hp] at HXA HXY
        rw [← hq] at HXB HXY
        clear hp hq hp9 hq9
        go_wp2_with fail
        refine wp_region_sched (fun W => W.cell? ⟨ba, oa + j, none⟩ = some (.int .u8 (p : Int)) ∧ W.cell? ⟨bb, ob + j, none⟩ = some (.int .u8 (q : Int))) [.t 0, .t 1, .t 2, .t 4, .t 5, .t 6, .s 3, .e 7 true, .t 8] (by kernel_rfl) (by kernel_rfl) (by intro c a d v w h; cases d <;> exact h) ?_
        have HBD := Lib.hid hB.drew
        clear hB
        generalize wr.drew = V at *
        iterate 6
          refine wpS_t rfl (v := ?_) (by rfl) (fun W => ?_) ?_
          rotate_left
          · go_simp
            try rfl
          try simp only [Act.put, List.setIfInBounds_toArray, List.set_cons_zero, List.set_cons_succ]
        refine wpS_s (by exact ⟨HXA.out, HXB.out⟩) rfl (v := ?_) (by rfl) (fun W hSW => ?_) ?_
        rotate_left
        · go_simp
          try rfl
        try simp only [Act.put, List.setIfInBounds_toArray, List.set_cons_zero, List.set_cons_succ]
        have g := HXB.out
        refine wpS_k rfl (by rfl) (fun K hK => ?_)
        go_simp
        refine hK _ _ ⟨by exact ⟨HXA.out, HXB.out⟩, ?_⟩; clear hK K
        try simp only [Act.put, List.setIfInBounds_toArray, List.set_cons_zero, List.set_cons_succ]
        clear g
        by_cases hpq : p = q
        · have hxy := HXY.out.2 hpq
          have HE := Lib.hid hxy
          clear hxy
          subst hpq
          iterate 1
            refine wpS_t rfl (v := ?_) (by rfl) (fun W => ?_) ?_
            rotate_left
            · go_simp
              try rfl
            try simp only [Act.put, List.setIfInBounds_toArray, List.set_cons_zero, List.set_cons_succ]
          refine wpS_done ?_
          go_wp2_with fail
          refine ⟨⟨j + 1, by omega, by simp, fun k hk => ?_, HBD.out⟩, by simp [intOf]; omega⟩
          by_cases hkj : k < j
          · exact HA.out k hkj
          · have : k = j := by omega
            rw [this, HGA.out, HGB.out, HE.out]
        · have hxy : ¬ x = y := fun h => hpq (HXY.out.1 h)
          have hne1 : ((p : Int) != (q : Int)) = true := by rw [bne_iff_ne]; omega
          have hne2 : ((p : Int) == (q : Int)) = false := by rw [beq_eq_false_iff_ne]; omega
          have HNE := Lib.hid hxy
          clear hxy
          iterate 1
            refine wpS_t rfl (v := ?_) (by rfl) (fun W => ?_) ?_
            rotate_left
            · go_simp
              try rfl
            try simp only [Act.put, List.setIfInBounds_toArray, List.set_cons_zero, List.set_cons_succ]
          refine wpS_done ?_
          have hr : r = false := by
            rw [HQ.out]
            simp only [decide_eq_false_iff_not]
            intro h
            have := h j hlt
            rw [HGA.out, HGB.out] at this
            exact HNE.out (by simpa using this)
          go_wp2_with fail
          exact bodyPost_ret (results_tmp rfl _ _ _) rfl ⟨by rw [hr]; rfl, HBD.out⟩
      · have hjn : j = n := by omega
        subst hjn
        have hr : r = true := by rw [HQ.out]; simpa using HA.out
        go_wp2_with fail
        exact bodyPost_ret (results_tmp rfl _ _ _) rfl ⟨by rw [hr]; rfl, hB⟩
  · have hne : ((n : Int) != (m : Int)) = true := by rw [bne_iff_ne]; omega
    have hne2 : ((n : Int) == (m : Int)) = false := by rw [beq_eq_false_iff_ne]; omega
    have hab : ¬ a = b := by intro h; have h1 := HN.out; rw [h, ← HM.out] at h1; exact hnm h1
    have HNE := Lib.hid hab
    clear hab
    go_enter Tryz.func17, Tryz.ntmps17
    go_wp2_with fail
    exact bodyPost_ret (results_tmp rfl _ _ _) rfl ⟨by rw [decide_eq_false HNE.out]; rfl, Below.refl _ _⟩
set_option maxRecDepth 100000 in
set_option maxHeartbeats 1000000 in
theorem same_pair (x y : PE) (a b : List UInt8) (w : World) (ha : BytesAt w (peV x) a) (hb : BytesAt w (peV y) b) : Calls Tryz.prog 59 #[.agg (encP x).toArray, .agg (encP y).toArray] w fun e w' => e = .returned (.bool (decide (x.1 = y.1 ∧ a = b))) ∧ Below w.heap.size w w' := by
  have hz : (w.alloc (.cells (encP x).toArray 41)).heap.size = w.heap.size + 1 := Array.size_push _
  have h1 : ((w.alloc (.cells (encP x).toArray 41)).alloc (.cells (encP y).toArray 41)).rangeAt w.heap.size 0 (encP x) := World.rangeAt_alloc (range_new w (encP x).toArray 41 _ rfl) _
  have h2 : ((w.alloc (.cells (encP x).toArray 41)).alloc (.cells (encP y).toArray 41)).rangeAt (w.heap.size + 1) 0 (encP y) := by rw [← hz]; exact range_new _ (encP y).toArray 41 _ rfl
  have hB := al (al (Below.refl _ w) (.cells (encP x).toArray 41)) (.cells (encP y).toArray 41)
  have ha2 := bytes_below ha hB (Nat.le_refl _)
  have hb2 := bytes_below hb hB (Nat.le_refl _)
  have H := Lib.hid (And.intro h1 (And.intro h2 (And.intro hB (And.intro ha2 hb2))))
  clear h1 h2 hz hB ha2 hb2 ha hb
  have heq := eq_sums x.1 y.1
  obtain ⟨r, hr⟩ : ∃ r, r = decide (x.1 = y.1 ∧ a = b) := ⟨_, rfl⟩
  rw [← hr]
  have HR := Lib.hid hr
  clear hr
  have c1 := encP_cell H.out.1
  have c2 := encP_cell H.out.2.1
  have c1' : (encP x)[32]? = some (peV x) := by rw [encP, List.getElem?_append_right (by rw [length_cellsOf]; omega), length_cellsOf]; rfl
  by_cases hk : x.1 = y.1
  · have hd : decide (x.1 = y.1) = true := by simpa using hk
    rw [hd] at heq
    have HK := Lib.hid hk
    clear hk hd
    go_enter Tryz.func59, Tryz.ntmps59
    go_wp2_with (first
      | (refine wpList_load_sum rfl _ rfl w.heap.size 0 rfl x.1 (encP_key H.out.1) ?_)
      | (refine wpList_load_sum rfl _ rfl (w.heap.size + 1) 0 rfl y.1 (encP_key H.out.2.1) ?_))
    refine (same_bytes a b (peV x) (peV y) _ H.out.2.2.2.1 H.out.2.2.2.2).mono ?_
    rintro e W1 ⟨rfl, hb1⟩
    have HB := Lib.hid (H.out.2.2.1.trans (hb1.mono H.out.2.2.1.size))
    clear hb1
    go_wp2_with fail
    refine bodyPost_ret (results_tmp rfl _ _ _) rfl ⟨?_, HB.out⟩
    rw [HR.out]; simp [HK.out]
  · have hd : decide (x.1 = y.1) = false := by simpa using hk
    rw [hd] at heq
    have HK := Lib.hid hk
    clear hk hd
    go_enter Tryz.func59, Tryz.ntmps59
    go_wp2_with (first
      | (refine wpList_load_sum rfl _ rfl w.heap.size 0 rfl x.1 (encP_key H.out.1) ?_)
      | (refine wpList_load_sum rfl _ rfl (w.heap.size + 1) 0 rfl y.1 (encP_key H.out.2.1) ?_))
    refine bodyPost_ret (results_tmp rfl _ _ _) rfl ⟨?_, H.out.2.2.1⟩
    rw [HR.out]; simp [HK.out]
theorem bs_any (a : Option Addr) (n c : Nat) (w : World) : Calls Tryz.prog 160 #[.slice a n c] w fun e w' => e = .returned (.int .i64 (n : Int)) ∧ w = w' := by
  go_enter Tryz.func160, Tryz.ntmps160
  go_wp2_with fail
  exact bodyPost_ret (results_tmp rfl _ _ _) rfl ⟨rfl, rfl⟩
/-- One of a list of pairs. -/
theorem pairs_at {w : World} {v : Value} {P : List Keys.Pr} (h : PairsAt w v P) {i : Nat} (hi : i < P.length) : ∃ b o cap, ∃ y : PE, v = .slice (some ⟨b, o, none⟩) P.length cap ∧ P.length ≤ cap ∧ cap ≤ maxLen ∧ w.rangeAt b (o + i * 33) (encP y) ∧ BytesAt w (peV y) (P.getD i (zeroSum, [])).2 ∧ y.1 = (P.getD i (zeroSum, [])).1 := by
  obtain ⟨a, cap, cs, rfl, h1, h2, h3, h4, h5⟩ := h
  have hne : P ≠ [] := by intro e; rw [e] at hi; simp at hi
  obtain ⟨b, o, rfl, hr⟩ := h5.resolve_left hne
  have hl : cs.length = P.length := by rw [← h3, List.length_map]
  have hi2 : i < (cs.map Prod.fst).length := by rw [List.length_map, hl]; exact hi
  have hc : cs[i]? = some cs[i] := List.getElem?_eq_getElem (by omega)
  refine ⟨b, o, cap, (cs.map Prod.fst).getD i default, rfl, h1, h2, rangeP_at hr hi2, ?_, ?_⟩
  · have := h4 cs[i] (List.getElem_mem _)
    rw [← h3, List.getD_eq_getElem?_getD, List.getD_eq_getElem?_getD, List.getElem?_map, List.getElem?_map, hc]
    exact this
  · rw [← h3, List.getD_eq_getElem?_getD, List.getD_eq_getElem?_getD, List.getElem?_map, List.getElem?_map, hc]; rfl
theorem pairs_form {w : World} {v : Value} {P : List Keys.Pr} (h : PairsAt w v P) : ∃ a cap, v = .slice a P.length cap ∧ P.length ≤ cap ∧ cap ≤ maxLen := by
  obtain ⟨a, cap, cs, rfl, h1, h2, _⟩ := h
  exact ⟨a, cap, rfl, h1, h2⟩
end Go.Proofs.YtfmgoehnbaiamaaGreatDoor
-- Walks: pairs compared (SamePairs); a map of pairs (law 15's of).
namespace Go.Proofs.YtfmgoehnbaiamaaGreatDoor
theorem wpS_load_pair {md : Region.Mode} {S : World → Prop} {ops : List Oper} {Q : Exit → Act → World → Prop} {r : List Mv} {a : Act} {w : World} {o : Oper} {i : Nat} (hS : S w) (ho : ops[i]? = some o) (hg : Region.wanted o (yielded ops.toArray a.tmps) = true) (x : Operand) (hop : o.op = .load 41 x) (b off : Nat) (hx : a.eval x = .pointer (some ⟨b, off, none⟩)) (y : PE)
    (hc : ∀ W, S W → W.rangeAt b off (encP y)) (h : wpS Tryz.prog md ops.toArray Q S r (a.put o.dst (.agg (encP y).toArray)) w) : wpS Tryz.prog md ops.toArray Q S (.s i :: r) a w :=
  wpS_load_mid hS ho hg _ x hop b off hx (encP y) _ hc Tryz.underlying41 rfl (by rw [length_encP]; exact infoPair) h
theorem pairs_one {w : World} {v : Value} {P : List Keys.Pr} (h : PairsAt w v P) {i : Nat} (hi : i < P.length) : ∃ (b o cap : Nat) (y : PE) (bs : List UInt8), v = .slice (some ⟨b, o, none⟩) P.length cap ∧ w.rangeAt b (o + i * 33) (encP y) ∧ BytesAt w (peV y) bs ∧ P[i]? = some (y.1, bs) := by
  obtain ⟨b, o, cap, y, h1, _, _, h2, h3, h4⟩ := pairs_at h hi
  refine ⟨b, o, cap, y, _, h1, h2, h3, ?_⟩
  rw [h4]
  simp [List.getD_eq_getElem?_getD, List.getElem?_eq_getElem hi]
set_option maxRecDepth 100000 in
set_option maxHeartbeats 1000000 in
theorem same_pairs (A B : List Keys.Pr) (va vb : Value) (w : World) (ha : PairsAt w va A) (hb : PairsAt w vb B) : Calls Tryz.prog 19 #[va, vb] w fun e w' => e = .returned (.bool (decide (A = B))) ∧ Below w.heap.size w w' := by
  have HA := Lib.hid ha
  have HB := Lib.hid hb
  obtain ⟨aa, ca, rfl, ha1, ha2⟩ := pairs_form ha
  obtain ⟨ab, cb, rfl, hb1, hb2⟩ := pairs_form hb
  clear ha hb
  obtain ⟨n, hn⟩ : ∃ n, n = A.length := ⟨_, rfl⟩
  obtain ⟨m, hm⟩ : ∃ m, m = B.length := ⟨_, rfl⟩
  rw [← hn] at ha1 HA ⊢
  rw [← hm] at hb1 HB ⊢
  have HN := Lib.hid hn; clear hn
  have HM := Lib.hid hm; clear hm
  unfold maxLen at ha2 hb2
  have hn63 : (n : Int) < 9223372036854775808 := by omega
  by_cases hnm : n = m
  · subst hnm
    have hne : ((n : Int) != (n : Int)) = false := by simp
    have hq : decide (A = B) = decide (∀ j, j < n → A[j]? = B[j]?) := by
      rw [decide_eq_decide]
      constructor
      · rintro rfl j _; rfl
      · intro h
        refine List.ext_getElem? fun j => ?_
        by_cases hj : j < n
        · exact h j hj
        · rw [List.getElem?_eq_none (by rw [← HN.out]; omega), List.getElem?_eq_none (by rw [← HM.out]; omega)]
    obtain ⟨r, hr⟩ : ∃ r, r = decide (A = B) := ⟨_, rfl⟩
    rw [← hr] at hq ⊢
    have HQ := Lib.hid hq; clear hq hr
    have H63 := Lib.hid hn63
    go_enter Tryz.func19, Tryz.ntmps19
    go_wp2_with fail
    go_loopw [5] (fun i W => ∃ j : Nat, j ≤ n ∧ i = .int .i64 (j : Int) ∧ (∀ k, k < j → A[k]? = B[k]?) ∧ Below w.heap.size w W) (fun i _ => n - (intOf i).toNat)
    case atStart => exact ⟨0, by omega, rfl, fun k hk => by omega, Below.refl _ _⟩
    case round =>
      obtain ⟨j, hj, rfl, hall, hBl⟩ := hrel
      have HL := Lib.hid hall; clear hall
      by_cases hlt : j < n
      · have hlt' : (j : Int) < (n : Int) := by omega
        have hj0 : (0 : Int) ≤ (j : Int) := by omega
        obtain ⟨ba, oa, ca', y, xs, he1, hr1, hy1, hg1⟩ := pairs_one (HA.out.below hBl.drew) (i := j) (by rw [← HN.out]; exact hlt)
        obtain ⟨bb, ob, cb', z, zs, he2, hr2, hy2, hg2⟩ := pairs_one (HB.out.below hBl.drew) (i := j) (by rw [← HM.out]; exact hlt)
        simp only [Value.slice.injEq] at he1 he2
        obtain ⟨rfl, -, rfl⟩ := he1
        obtain ⟨rfl, -, rfl⟩ := he2
        have HX := Lib.hid (And.intro hr1 (And.intro hr2 (And.intro hy1 hy2)))
        have HG := Lib.hid (And.intro hg1 hg2)
        have HJ := Lib.hid (And.intro hj hlt)
        clear hr1 hr2 hy1 hy2 hg1 hg2
        go_wp2_with fail
        refine wp_region_sched (fun W => W.rangeAt ba (oa + j * 33) (encP y) ∧ W.rangeAt bb (ob + j * 33) (encP z)) [.t 0, .t 1, .t 2, .t 4, .t 5, .t 6, .s 3, .e 7 true, .e 8 false, .t 9] (by kernel_rfl) (by kernel_rfl) (by intro c a d v w h; cases d <;> exact h) ?_
        have HBD := Lib.hid hBl.drew
        clear hBl
        generalize wr.drew = V at *
        iterate 6
          refine wpS_t rfl (v := ?_) (by rfl) (fun W => ?_) ?_
          rotate_left
          · go_simp
            try rfl
          try simp only [Act.put, List.setIfInBounds_toArray, List.set_cons_zero, List.set_cons_succ]
        refine wpS_load_pair (by exact ⟨HX.out.1, HX.out.2.1⟩) rfl (by rfl) _ (by rfl) ba (oa + j * 33) (by rfl) y (fun V hV => hV.1) ?_
        try simp only [Act.put, List.setIfInBounds_toArray, List.set_cons_zero, List.set_cons_succ]
        refine wpS_k rfl (by rfl) (fun K hK => ?_)
        refine wp_load_pair _ (by rfl) bb (ob + j * 33) (by rfl) z (by exact HX.out.2.1) ?_
        refine hK _ _ ⟨by exact ⟨HX.out.1, HX.out.2.1⟩, ?_⟩; clear hK K
        try simp only [Act.put, List.setIfInBounds_toArray, List.set_cons_zero, List.set_cons_succ]
        refine wpS_e rfl (by rfl) (fun K hK => ?_)
        go_simp
        refine (same_pair y z xs zs V HX.out.2.2.1 HX.out.2.2.2).mono ?_
        rintro e V2 ⟨rfl, hb2⟩
        have HB2 := Lib.hid (HBD.out.trans (hb2.mono HBD.out.size))
        clear hb2
        refine hK _ _ ?_; clear hK K
        try simp only [Act.put, List.setIfInBounds_toArray, List.set_cons_zero, List.set_cons_succ]
        by_cases hpq : y.1 = z.1 ∧ xs = zs
        · have HE := Lib.hid hpq
          have hd : decide (y.1 = z.1 ∧ xs = zs) = true := by simpa using hpq
          rw [hd]
          clear hpq hd
          iterate 1
            refine wpS_t rfl (v := ?_) (by rfl) (fun W => ?_) ?_
            rotate_left
            · go_simp
              try rfl
            try simp only [Act.put, List.setIfInBounds_toArray, List.set_cons_zero, List.set_cons_succ]
          refine wpS_done ?_
          go_wp2_with fail
          refine ⟨⟨j + 1, by omega, by simp, fun k hk => ?_, HB2.out⟩, by simp [intOf]; omega⟩
          by_cases hkj : k < j
          · exact HL.out k hkj
          · have : k = j := by omega
            rw [this, HG.out.1, HG.out.2, HE.out.1, HE.out.2]
        · have HE := Lib.hid hpq
          have hd : decide (y.1 = z.1 ∧ xs = zs) = false := by simpa using hpq
          rw [hd]
          clear hpq hd
          iterate 1
            refine wpS_t rfl (v := ?_) (by rfl) (fun W => ?_) ?_
            rotate_left
            · go_simp
              try rfl
            try simp only [Act.put, List.setIfInBounds_toArray, List.set_cons_zero, List.set_cons_succ]
          refine wpS_done ?_
          have hr : r = false := by
            rw [HQ.out]
            simp only [decide_eq_false_iff_not]
            intro h
            have := h j HJ.out.2
            rw [HG.out.1, HG.out.2] at this
            simp only [Option.some.injEq, Prod.mk.injEq] at this
            exact HE.out this
          go_wp2_with fail
          exact bodyPost_ret (results_tmp rfl _ _ _) rfl ⟨by rw [hr]; rfl, HB2.out⟩
      · have hjn : j = n := by omega
        subst hjn
        have hr : r = true := by rw [HQ.out]; simpa using HL.out
        go_wp2_with fail
        exact bodyPost_ret (results_tmp rfl _ _ _) rfl ⟨by rw [hr]; rfl, hBl⟩
  · have hne : ((n : Int) != (m : Int)) = true := by rw [bne_iff_ne]; omega
    have hne2 : ((n : Int) == (m : Int)) = false := by rw [beq_eq_false_iff_ne]; omega
    have hab : ¬ A = B := by intro h; have h1 := HN.out; rw [h, ← HM.out] at h1; exact hnm h1
    have HNE := Lib.hid hab
    clear hab
    go_enter Tryz.func19, Tryz.ntmps19
    go_wp2_with fail
    exact bodyPost_ret (results_tmp rfl _ _ _) rfl ⟨by rw [decide_eq_false HNE.out]; rfl, Below.refl _ _⟩
end Go.Proofs.YtfmgoehnbaiamaaGreatDoor
-- Walk: a map of pairs (law 15's of).
namespace Go.Proofs.YtfmgoehnbaiamaaGreatDoor
/-- What stands after the pairs P were put. -/
def puts (x P : List Keys.Pr) : List Keys.Pr := P.foldl (fun x q => Keys.putB x q.1 q.2) x
theorem puts_take (x P : List Keys.Pr) {i : Nat} {k : Sum} {bs : List UInt8} (h : P[i]? = some (k, bs)) : puts x (P.take (i + 1)) = Keys.putB (puts x (P.take i)) k bs := by
  have hi := (List.getElem?_eq_some_iff.1 h).1
  have e := (List.getElem?_eq_some_iff.1 h).2
  unfold puts
  rw [List.take_succ_eq_append_getElem hi, List.foldl_append, e]
  rfl
theorem length_putB (x : List Keys.Pr) (k : Sum) (bs : List UInt8) : (Keys.putB x k bs).length ≤ x.length + 1 := by
  unfold Keys.putB
  split
  · omega
  · split
    · have := Keys.length_del k x; omega
    · exact Keys.length_put k bs x
theorem length_puts (P : List Keys.Pr) : ∀ x, (puts x P).length ≤ x.length + P.length := by
  induction P with
  | nil => intro x; exact Nat.le_refl _
  | cons q P ih =>
    intro x
    have h1 := ih (Keys.putB x q.1 q.2)
    have h2 := length_putB x q.1 q.2
    show (puts (Keys.putB x q.1 q.2) P).length ≤ _
    simp only [List.length_cons]
    omega
end Go.Proofs.YtfmgoehnbaiamaaGreatDoor
-- For the seat v1.ZD: in place of XU14 to XU16.
-- Walks: append of pairs; parts of a list of pairs.
namespace Go.Proofs.YtfmgoehnbaiamaaGreatDoor
theorem pairs_own {W0 w : World} {base : Nat} {v : Value} {cs : List (PE × List UInt8)} {P : List Keys.Pr} (ho : w.ownsRow base 41 33 v cs.length (cellsP (cs.map Prod.fst))) (hE : ∀ c ∈ cs, BytesAt W0 (peV c.1) c.2) (hb : Below W0.heap.size W0 w) (hP : cs.map (fun c => (c.1.1, c.2)) = P) : PairsAt w v P := by
  have hl : P.length = cs.length := by rw [← hP, List.length_map]
  by_cases h0 : P = []
  · have hc : cs = [] := List.length_eq_zero_iff.1 (by rw [← hl, h0]; rfl)
    subst h0
    subst hc
    rcases ho.2 with ⟨rfl, _⟩ | ⟨g, cap, cur, rfl, _, _, hnc, hcm, _⟩
    · exact ⟨none, 0, [], rfl, Nat.le_refl _, by decide, rfl, (fun c hc => by cases hc), .inl rfl⟩
    · exact ⟨_, cap, [], rfl, hnc, hcm, rfl, (fun c hc => by cases hc), .inl rfl⟩
  · obtain ⟨g, cap, rfl, h1, h2, _, hr⟩ := own_range ho (by rw [← hl]; exact List.length_pos_iff.2 h0)
    exact ⟨_, cap, cs, by rw [hl], by rw [hl]; exact h1, h2, hP, fun c hc => bytes_below (hE c hc) hb (Nat.le_refl _), .inr ⟨g, 0, rfl, hr⟩⟩
theorem PairsAt.drop {w : World} {b o cap i : Nat} {P : List Keys.Pr} (h : PairsAt w (.slice (some ⟨b, o, none⟩) P.length cap) P) (hi : i ≤ P.length) : PairsAt w (.slice (some ⟨b, o + i * 33, none⟩) (P.length - i) (cap - i)) (P.drop i) := by
  obtain ⟨a, cap', cs, he, h1, h2, h3, h4, h5⟩ := h
  simp only [Value.slice.injEq, true_and] at he
  obtain ⟨rfl, rfl⟩ := he
  have hl : cs.length = P.length := by rw [← h3, List.length_map]
  refine ⟨_, cap - i, cs.drop i, by rw [List.length_drop], by rw [List.length_drop]; omega, by omega, by rw [List.map_drop, h3], fun c hc => h4 c (List.mem_of_mem_drop hc), ?_⟩
  by_cases h0 : P.drop i = []
  · exact .inl h0
  · right
    have hP : P ≠ [] := by intro e; rw [e] at h0; simp at h0
    obtain ⟨b', o', he, hr⟩ := h5.resolve_left hP
    simp only [Option.some.injEq, Addr.mk.injEq, and_true] at he
    obtain ⟨rfl, rfl⟩ := he
    refine ⟨_, _, rfl, ?_⟩
    have e : cellsP (cs.map Prod.fst) = cellsP ((cs.take i).map Prod.fst) ++ cellsP ((cs.drop i).map Prod.fst) := by
      rw [← cellsP_append, ← List.map_append, List.take_append_drop]
    rw [e] at hr
    have := (range_append.1 hr).2
    rw [length_cellsP, List.length_map, List.length_take, Nat.min_eq_left (by omega), Nat.mul_comm] at this
    exact this
theorem PairsAt.take {w : World} {a : Option Addr} {cap i : Nat} {P : List Keys.Pr} (h : PairsAt w (.slice a P.length cap) P) (hi : i ≤ P.length) : PairsAt w (.slice a i cap) (P.take i) := by
  obtain ⟨a', cap', cs, he, h1, h2, h3, h4, h5⟩ := h
  simp only [Value.slice.injEq, true_and] at he
  obtain ⟨rfl, rfl⟩ := he
  have hl : cs.length = P.length := by rw [← h3, List.length_map]
  have hi2 : (P.take i).length = i := by rw [List.length_take, Nat.min_eq_left hi]
  refine ⟨_, cap, cs.take i, by rw [hi2], by omega, by omega, by rw [List.map_take, h3], fun c hc => h4 c (List.mem_of_mem_take hc), ?_⟩
  by_cases h0 : P.take i = []
  · exact .inl h0
  · right
    have hP : P ≠ [] := by intro e; rw [e] at h0; simp at h0
    obtain ⟨b', o', rfl, hr⟩ := h5.resolve_left hP
    refine ⟨_, _, rfl, ?_⟩
    have e : cellsP (cs.map Prod.fst) = cellsP ((cs.take i).map Prod.fst) ++ cellsP ((cs.drop i).map Prod.fst) := by
      rw [← cellsP_append, ← List.map_append, List.take_append_drop]
    rw [e] at hr
    exact (range_append.1 hr).1
end Go.Proofs.YtfmgoehnbaiamaaGreatDoor
