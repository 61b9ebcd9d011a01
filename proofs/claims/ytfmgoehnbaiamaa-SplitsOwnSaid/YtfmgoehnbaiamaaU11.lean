/-
  Walks: sums compared; SameBytes, SamePair, SamePairs; how great pairs are; a map of pairs.
-/
import Derived.Test.YtfmgoehnbaiamaaU10
import Derived.Stop.BytesEq
open Go Go.RowKit Alm
namespace Go.Proofs.Ytfmgoehnbaiamaa
theorem eq_sums_d (d : Nat) (s t : Sum) (w : World) : (Op.equalIn (d + 2) 29 (.agg (cellsOf s).toArray) (.agg (cellsOf t).toArray)).run Try.prog w = .ok (decide (s = t)) w := by
  have h := run_equalIn_bytes (P := Try.prog) w d 29 5 32 Try.underlying29 Try.underlying5 (fun w => Try.sizeOf5 w) s.toList t.toList (by simp) (by simp)
  have hc : ∀ s : Sum, cellsOf s = s.toList.map Extern.Stop.cell := fun s => rfl
  simp only [hc]
  rw [h]
  have hd : (s.toList == t.toList) = decide (s = t) := by
    rw [Bool.eq_iff_iff]
    simp
  rw [hd]
theorem eq_sums (s t : Sum) (w : World) : (Op.equalIn 10000 29 (.agg (cellsOf s).toArray) (.agg (cellsOf t).toArray)).run Try.prog w = .ok (decide (s = t)) w := by
  obtain ⟨d, hd⟩ : ∃ d, 10000 = d + 2 := ⟨9998, rfl⟩
  rw [hd]
  exact eq_sums_d d s t w
theorem eq_sums_same (s : Sum) (w : World) : (Op.equalIn 10000 29 (.agg (cellsOf s).toArray) (.agg (cellsOf s).toArray)).run Try.prog w = .ok true w := by
  rw [eq_sums]; simp
/-- The sum whose first byte is b. -/
noncomputable def lit (b : UInt8) : Sum := Classical.choose (⟨Vector.ofFn fun i : Fin 32 => if i.1 = 0 then b else 0, rfl⟩ : ∃ s : Sum, s = Vector.ofFn fun i : Fin 32 => if i.1 = 0 then b else 0)
theorem lit_eq (b : UInt8) : lit b = Vector.ofFn fun i : Fin 32 => if i.1 = 0 then b else 0 := Classical.choose_spec (⟨Vector.ofFn fun i : Fin 32 => if i.1 = 0 then b else 0, rfl⟩ : ∃ s : Sum, s = Vector.ofFn fun i : Fin 32 => if i.1 = 0 then b else 0)
theorem build_7 (w : World) : (Instr.build 29 #[(0, .int .u8 7)]).run Try.prog w = .ok (.agg (cellsOf (lit 7)).toArray) w := by rw [lit_eq]; kernel_rfl
theorem val_7 : (Value.agg #[.int .u8 7, .int .u8 0, .int .u8 0, .int .u8 0, .int .u8 0, .int .u8 0, .int .u8 0, .int .u8 0, .int .u8 0, .int .u8 0, .int .u8 0, .int .u8 0, .int .u8 0, .int .u8 0, .int .u8 0, .int .u8 0, .int .u8 0, .int .u8 0, .int .u8 0, .int .u8 0, .int .u8 0, .int .u8 0, .int .u8 0, .int .u8 0, .int .u8 0, .int .u8 0, .int .u8 0, .int .u8 0, .int .u8 0, .int .u8 0, .int .u8 0, .int .u8 0]) = sv (lit 7) := by rw [lit_eq]; rfl
theorem build_8 (w : World) : (Instr.build 29 #[(0, .int .u8 8)]).run Try.prog w = .ok (.agg (cellsOf (lit 8)).toArray) w := by rw [lit_eq]; kernel_rfl
theorem val_8 : (Value.agg #[.int .u8 8, .int .u8 0, .int .u8 0, .int .u8 0, .int .u8 0, .int .u8 0, .int .u8 0, .int .u8 0, .int .u8 0, .int .u8 0, .int .u8 0, .int .u8 0, .int .u8 0, .int .u8 0, .int .u8 0, .int .u8 0, .int .u8 0, .int .u8 0, .int .u8 0, .int .u8 0, .int .u8 0, .int .u8 0, .int .u8 0, .int .u8 0, .int .u8 0, .int .u8 0, .int .u8 0, .int .u8 0, .int .u8 0, .int .u8 0, .int .u8 0, .int .u8 0]) = sv (lit 8) := by rw [lit_eq]; rfl
theorem lit_ne {a b : UInt8} (h : a ≠ b) : lit a ≠ lit b := by
  intro e
  rw [lit_eq, lit_eq] at e
  have := congrArg (fun v : Sum => v[0]) e
  simp at this
  exact h this
set_option maxRecDepth 100000 in
set_option maxHeartbeats 1000000 in
theorem same_bytes (a b : List UInt8) (va vb : Value) (w : World) (ha : BytesAt w va a) (hb : BytesAt w vb b) : Calls Try.prog 28 #[va, vb] w fun e w' => e = .returned (.bool (decide (a = b))) ∧ Below w.heap.size w w' := by
  obtain ⟨aa, ca, rfl, ha1, ha2, ha3⟩ := ha
  obtain ⟨ab, cb, rfl, hb1, hb2, hb3⟩ := hb
  obtain ⟨n, hn⟩ : ∃ n, n = a.length := ⟨_, rfl⟩
  obtain ⟨m, hm⟩ : ∃ m, m = b.length := ⟨_, rfl⟩
  rw [← hn] at ha1 ⊢
  rw [← hm] at hb1 ⊢
  have HN := Lib.hid hn; clear hn
  have HM := Lib.hid hm; clear hm
  unfold maxLen at ha2 hb2
  have hn63 : (n : Int) < 9223372036854775808 := by omega
  by_cases hnm : n = m
  · subst hnm
    have hne : ((n : Int) != (n : Int)) = false := by simp
    have hq : decide (a = b) = decide (∀ j, j < n → a[j]? = b[j]?) := by
      rw [decide_eq_decide]
      constructor
      · rintro rfl j _; rfl
      · intro h
        refine List.ext_getElem? fun j => ?_
        by_cases hj : j < n
        · exact h j hj
        · rw [List.getElem?_eq_none (by rw [← HN.out]; omega), List.getElem?_eq_none (by rw [← HM.out]; omega)]
    obtain ⟨r, hr⟩ : ∃ r, r = decide (a = b) := ⟨_, rfl⟩
    rw [← hr] at hq ⊢
    have HQ := Lib.hid hq; clear hq hr
    go_enter Try.func28, Try.ntmps28
    go_wp2_with fail
    go_loopw [5] (fun i W => ∃ j : Nat, j ≤ n ∧ i = .int .i64 (j : Int) ∧ (∀ k, k < j → a[k]? = b[k]?) ∧ Below w.heap.size w W) (fun i _ => n - (intOf i).toNat)
    case atStart => exact ⟨0, by omega, rfl, fun k hk => by omega, Below.refl _ _⟩
    case round =>
      obtain ⟨j, hj, rfl, hall, hB⟩ := hrel
      have HA := Lib.hid hall; clear hall
      by_cases hlt : j < n
      · have hlt' : (j : Int) < (n : Int) := by omega
        have hj0 : (0 : Int) ≤ (j : Int) := by omega
        have hna : a ≠ [] := by intro h; have := HN.out; rw [h] at this; simp at this; omega
        have hnb : b ≠ [] := by intro h; have := HM.out; rw [h] at this; simp at this; omega
        obtain ⟨ba, oa, rfl, hra⟩ := ha3.resolve_left hna
        obtain ⟨bb, ob, rfl, hrb⟩ := hb3.resolve_left hnb
        have hja : j < a.length := by have := HN.out; omega
        have hjb : j < b.length := by have := HM.out; omega
        have hca : w.cell? ⟨ba, oa + j, none⟩ = some (.int .u8 ((a[j].toNat : Nat) : Int)) := hra j _ (by simp [cells8, u8v, hja])
        have hcb : w.cell? ⟨bb, ob + j, none⟩ = some (.int .u8 ((b[j].toNat : Nat) : Int)) := hrb j _ (by simp [cells8, u8v, hjb])
        have HXA := Lib.hid ((hB.drew.cell (p := ⟨ba, oa + j, none⟩) (World.block_lt_of_cell? w _ hca)).trans hca)
        have HXB := Lib.hid ((hB.drew.cell (p := ⟨bb, ob + j, none⟩) (World.block_lt_of_cell? w _ hcb)).trans hcb)
        have HGA := Lib.hid (List.getElem?_eq_getElem hja)
        have HGB := Lib.hid (List.getElem?_eq_getElem hjb)
        have hxy : a[j] = b[j] ↔ a[j].toNat = b[j].toNat := by rw [UInt8.toNat_inj]
        have HXY := Lib.hid hxy
        clear hxy hca hcb
        generalize a[j] = x at *
        generalize b[j] = y at *
        clear hra hrb hja hjb ha3 hb3
        have hp9 := x.toNat_lt
        have hq9 := y.toNat_lt
        obtain ⟨p, hp⟩ : ∃ p, p = x.toNat := ⟨_, rfl⟩
        obtain ⟨q, hq⟩ : ∃ p, p = y.toNat := ⟨_, rfl⟩
        rw [← hp] at HXA HXY
        rw [← hq] at HXB HXY
        clear hp hq hp9 hq9
        go_wp2_with fail
        refine wp_region_sched (fun W => W.cell? ⟨ba, oa + j, none⟩ = some (.int .u8 (p : Int)) ∧ W.cell? ⟨bb, ob + j, none⟩ = some (.int .u8 (q : Int))) [.t 0, .t 1, .t 2, .t 4, .t 5, .t 6, .s 3, .e 7 true, .t 8] (by kernel_rfl) (by kernel_rfl) (by intro c a d v w h; cases d <;> exact h) ?_
        have HBD := Lib.hid hB.drew
        clear hB
        generalize wr.drew = V at *
        iterate 6
          refine wpS_t rfl (v := ?_) (by rfl) (fun W => ?_) ?_
          rotate_left
          · go_simp
            try rfl
          try simp only [Act.put, List.setIfInBounds_toArray, List.set_cons_zero, List.set_cons_succ]
        refine wpS_s (by exact ⟨HXA.out, HXB.out⟩) rfl (v := ?_) (by rfl) (fun W hSW => ?_) ?_
        rotate_left
        · go_simp
          try rfl
        try simp only [Act.put, List.setIfInBounds_toArray, List.set_cons_zero, List.set_cons_succ]
        have g := HXB.out
        refine wpS_k rfl (by rfl) (fun K hK => ?_)
        go_simp
        refine hK _ _ ⟨by exact ⟨HXA.out, HXB.out⟩, ?_⟩; clear hK K
        try simp only [Act.put, List.setIfInBounds_toArray, List.set_cons_zero, List.set_cons_succ]
        clear g
        by_cases hpq : p = q
        · have hxy := HXY.out.2 hpq
          have HE := Lib.hid hxy
          clear hxy
          subst hpq
          iterate 1
            refine wpS_t rfl (v := ?_) (by rfl) (fun W => ?_) ?_
            rotate_left
            · go_simp
              try rfl
            try simp only [Act.put, List.setIfInBounds_toArray, List.set_cons_zero, List.set_cons_succ]
          refine wpS_done ?_
          go_wp2_with fail
          refine ⟨⟨j + 1, by omega, by simp, fun k hk => ?_, HBD.out⟩, by simp [intOf]; omega⟩
          by_cases hkj : k < j
          · exact HA.out k hkj
          · have : k = j := by omega
            rw [this, HGA.out, HGB.out, HE.out]
        · have hxy : ¬ x = y := fun h => hpq (HXY.out.1 h)
          have hne1 : ((p : Int) != (q : Int)) = true := by rw [bne_iff_ne]; omega
          have hne2 : ((p : Int) == (q : Int)) = false := by rw [beq_eq_false_iff_ne]; omega
          have HNE := Lib.hid hxy
          clear hxy
          iterate 1
            refine wpS_t rfl (v := ?_) (by rfl) (fun W => ?_) ?_
            rotate_left
            · go_simp
              try rfl
            try simp only [Act.put, List.setIfInBounds_toArray, List.set_cons_zero, List.set_cons_succ]
          refine wpS_done ?_
          have hr : r = false := by
            rw [HQ.out]
            simp only [decide_eq_false_iff_not]
            intro h
            have := h j hlt
            rw [HGA.out, HGB.out] at this
            exact HNE.out (by simpa using this)
          go_wp2_with fail
          exact bodyPost_ret (results_tmp rfl _ _ _) rfl ⟨by rw [hr]; rfl, HBD.out⟩
      · have hjn : j = n := by omega
        subst hjn
        have hr : r = true := by rw [HQ.out]; simpa using HA.out
        go_wp2_with fail
        exact bodyPost_ret (results_tmp rfl _ _ _) rfl ⟨by rw [hr]; rfl, hB⟩
  · have hne : ((n : Int) != (m : Int)) = true := by rw [bne_iff_ne]; omega
    have hne2 : ((n : Int) == (m : Int)) = false := by rw [beq_eq_false_iff_ne]; omega
    have hab : ¬ a = b := by intro h; have h1 := HN.out; rw [h, ← HM.out] at h1; exact hnm h1
    have HNE := Lib.hid hab
    clear hab
    go_enter Try.func28, Try.ntmps28
    go_wp2_with fail
    exact bodyPost_ret (results_tmp rfl _ _ _) rfl ⟨by rw [decide_eq_false HNE.out]; rfl, Below.refl _ _⟩
theorem peV_cell (y : PE) : peV y = .slice y.2.1 y.2.2.1 y.2.2.2 := rfl
set_option maxRecDepth 100000 in
set_option maxHeartbeats 1000000 in
theorem same_pair (x y : PE) (a b : List UInt8) (w : World) (ha : BytesAt w (peV x) a) (hb : BytesAt w (peV y) b) : Calls Try.prog 58 #[.agg (encP x).toArray, .agg (encP y).toArray] w fun e w' => e = .returned (.bool (decide (x.1 = y.1 ∧ a = b))) ∧ Below w.heap.size w w' := by
  have hz : (w.alloc (.cells (encP x).toArray 36)).heap.size = w.heap.size + 1 := Array.size_push _
  have h1 : ((w.alloc (.cells (encP x).toArray 36)).alloc (.cells (encP y).toArray 36)).rangeAt w.heap.size 0 (encP x) := World.rangeAt_alloc (range_new w (encP x).toArray 36 _ rfl) _
  have h2 : ((w.alloc (.cells (encP x).toArray 36)).alloc (.cells (encP y).toArray 36)).rangeAt (w.heap.size + 1) 0 (encP y) := by rw [← hz]; exact range_new _ (encP y).toArray 36 _ rfl
  have hB := al (al (Below.refl _ w) (.cells (encP x).toArray 36)) (.cells (encP y).toArray 36)
  have ha2 := bytes_below ha hB (Nat.le_refl _)
  have hb2 := bytes_below hb hB (Nat.le_refl _)
  have H := Lib.hid (And.intro h1 (And.intro h2 (And.intro hB (And.intro ha2 hb2))))
  clear h1 h2 hz hB ha2 hb2 ha hb
  have heq := eq_sums x.1 y.1
  obtain ⟨r, hr⟩ : ∃ r, r = decide (x.1 = y.1 ∧ a = b) := ⟨_, rfl⟩
  rw [← hr]
  have HR := Lib.hid hr
  clear hr
  have c1 := encP_cell H.out.1
  have c2 := encP_cell H.out.2.1
  have c1' : (encP x)[32]? = some (peV x) := by rw [encP, List.getElem?_append_right (by rw [length_cellsOf]; omega), length_cellsOf]; rfl
  by_cases hk : x.1 = y.1
  · have hd : decide (x.1 = y.1) = true := by simpa using hk
    rw [hd] at heq
    have HK := Lib.hid hk
    clear hk hd
    go_enter Try.func58, Try.ntmps58
    go_wp2_with (first
      | (refine wpList_load_sum rfl _ rfl w.heap.size 0 rfl x.1 (encP_key H.out.1) ?_)
      | (refine wpList_load_sum rfl _ rfl (w.heap.size + 1) 0 rfl y.1 (encP_key H.out.2.1) ?_))
    refine (same_bytes a b (peV x) (peV y) _ H.out.2.2.2.1 H.out.2.2.2.2).mono ?_
    rintro e W1 ⟨rfl, hb1⟩
    have HB := Lib.hid (H.out.2.2.1.trans (hb1.mono H.out.2.2.1.size))
    clear hb1
    go_wp2_with fail
    refine bodyPost_ret (results_tmp rfl _ _ _) rfl ⟨?_, HB.out⟩
    rw [HR.out]; simp [HK.out]
  · have hd : decide (x.1 = y.1) = false := by simpa using hk
    rw [hd] at heq
    have HK := Lib.hid hk
    clear hk hd
    go_enter Try.func58, Try.ntmps58
    go_wp2_with (first
      | (refine wpList_load_sum rfl _ rfl w.heap.size 0 rfl x.1 (encP_key H.out.1) ?_)
      | (refine wpList_load_sum rfl _ rfl (w.heap.size + 1) 0 rfl y.1 (encP_key H.out.2.1) ?_))
    refine bodyPost_ret (results_tmp rfl _ _ _) rfl ⟨?_, H.out.2.2.1⟩
    rw [HR.out]; simp [HK.out]
theorem bs_any (a : Option Addr) (n c : Nat) (w : World) : Calls Try.prog 91 #[.slice a n c] w fun e w' => e = .returned (.int .i64 (n : Int)) ∧ w = w' := by
  go_enter Try.func91, Try.ntmps91
  go_wp2_with fail
  exact bodyPost_ret (results_tmp rfl _ _ _) rfl ⟨rfl, rfl⟩
set_option maxRecDepth 100000 in
theorem psize1_any (x : PE) (w : World) : Calls Try.prog 73 #[.agg (encP x).toArray] w fun e w' => (∃ n : Int, e = .returned (.int .i64 n)) ∧ Below w.heap.size w w' := by
  have h1 : (w.alloc (.cells (encP x).toArray 36)).rangeAt w.heap.size 0 (encP x) := range_new w (encP x).toArray 36 _ rfl
  have hB := al (Below.refl _ w) (.cells (encP x).toArray 36)
  have HB := Lib.hid hB
  have c1 := encP_cell h1
  clear h1 hB
  go_enter Try.func73, Try.ntmps73
  go_wp2_with fail
  refine (bs_any _ _ _ _).mono ?_
  rintro e w1 ⟨rfl, rfl⟩
  go_wp2_with fail
  refine bodyPost_ret (results_tmp rfl _ _ _) rfl ⟨⟨_, rfl⟩, HB.out⟩
/-- One of a list of pairs. -/
theorem pairs_at {w : World} {v : Value} {P : List Keys.Pr} (h : PairsAt w v P) {i : Nat} (hi : i < P.length) : ∃ b o cap, ∃ y : PE, v = .slice (some ⟨b, o, none⟩) P.length cap ∧ P.length ≤ cap ∧ cap ≤ maxLen ∧ w.rangeAt b (o + i * 33) (encP y) ∧ BytesAt w (peV y) (P.getD i (zeroSum, [])).2 ∧ y.1 = (P.getD i (zeroSum, [])).1 := by
  obtain ⟨a, cap, cs, rfl, h1, h2, h3, h4, h5⟩ := h
  have hne : P ≠ [] := by intro e; rw [e] at hi; simp at hi
  obtain ⟨b, o, rfl, hr⟩ := h5.resolve_left hne
  have hl : cs.length = P.length := by rw [← h3, List.length_map]
  have hi2 : i < (cs.map Prod.fst).length := by rw [List.length_map, hl]; exact hi
  have hc : cs[i]? = some cs[i] := List.getElem?_eq_getElem (by omega)
  refine ⟨b, o, cap, (cs.map Prod.fst).getD i default, rfl, h1, h2, rangeP_at hr hi2, ?_, ?_⟩
  · have := h4 cs[i] (List.getElem_mem _)
    rw [← h3, List.getD_eq_getElem?_getD, List.getD_eq_getElem?_getD, List.getElem?_map, List.getElem?_map, hc]
    exact this
  · rw [← h3, List.getD_eq_getElem?_getD, List.getD_eq_getElem?_getD, List.getElem?_map, List.getElem?_map, hc]; rfl
theorem pairs_form {w : World} {v : Value} {P : List Keys.Pr} (h : PairsAt w v P) : ∃ a cap, v = .slice a P.length cap ∧ P.length ≤ cap ∧ cap ≤ maxLen := by
  obtain ⟨a, cap, cs, rfl, h1, h2, _⟩ := h
  exact ⟨a, cap, rfl, h1, h2⟩
set_option maxRecDepth 100000 in
set_option maxHeartbeats 1000000 in
theorem psize_any (P : List Keys.Pr) (v : Value) (w : World) (hv : PairsAt w v P) (hn : P.length < 1000000) : Calls Try.prog 48 #[v] w fun e w' => (∃ n : Int, e = .returned (.int .i64 n)) ∧ Below w.heap.size w w' := by
  have HV := Lib.hid hv
  obtain ⟨a, cap, rfl, h1, h2⟩ := pairs_form hv
  obtain ⟨N, hN⟩ : ∃ N, N = P.length := ⟨_, rfl⟩
  rw [← hN] at HV h1 hn ⊢
  have HN := Lib.hid (And.intro hN hn)
  clear hv hN h2
  have k1 : (N : Int) ≤ (cap : Int) := by omega
  go_enter Try.func48, Try.ntmps48
  go_wp2_with fail
  go_loopw [3, 4] (fun nv iv W => ∃ (n : Int) (j : Nat), nv = .int .i64 n ∧ j ≤ N ∧ iv = .int .i64 (j : Int) ∧ Below w.heap.size w W) (fun _ iv _ => N - (intOf iv).toNat)
  case atStart => exact ⟨_, 0, rfl, by omega, rfl, Below.refl _ _⟩
  case round =>
    obtain ⟨n, j, rfl, hj, rfl, hB⟩ := hrel
    have HB := Lib.hid hB
    clear hB
    by_cases hlt : j < N
    · have c1 : decide (j < N) = true := by simpa using hlt
      have c1' : decide ((j : Int) < (N : Int)) = true := by simp; omega
      by_cases hle : n ≤ 1048576
      · have c2 : decide (n ≤ 1048576) = true := by simpa using hle
        obtain ⟨b, o, cap', y, he, _, _, hr, _⟩ := pairs_at (HV.out.below HB.out) (i := j) (by rw [← HN.out.1]; exact hlt)
        simp only [Value.slice.injEq] at he
        obtain ⟨rfl, -, rfl⟩ := he
        have HR := Lib.hid hr
        clear hr
        go_wp2_with (first
          | (refine wpList_load_pair rfl _ rfl b (o + j * 33) rfl y HR.out ?_)
          | (go_at_call 73; refine (psize1_any y _).mono ?_; rintro e w1 ⟨⟨m, rfl⟩, hb1⟩; have HB1 := Lib.hid (HB.out.trans (hb1.mono HB.out.size)); clear hb1))
        refine ⟨⟨_, j + 1, rfl, by omega, congrArg _ ?_, HB1.out⟩, ?_⟩
        · first | omega | (have := HN.out.2; unfold wrap64; omega)
        · have := HN.out.2
          have hw : wrap64 ((j : Int) + 1) = (j : Int) + 1 := by unfold wrap64; omega
          simp only [intOf]
          try rw [hw]
          omega
      · have c2 : decide (n ≤ 1048576) = false := by simpa using hle
        go_wp2_with fail
        exact bodyPost_ret (results_tmp rfl _ _ _) rfl ⟨⟨_, rfl⟩, HB.out⟩
    · have c1 : decide (j < N) = false := by simpa using hlt
      have c1' : decide ((j : Int) < (N : Int)) = false := by simp; omega
      go_wp2_with fail
      exact bodyPost_ret (results_tmp rfl _ _ _) rfl ⟨⟨_, rfl⟩, HB.out⟩
set_option maxRecDepth 100000 in
theorem great15_any (P : List Keys.Pr) (v : Value) (w : World) (hv : PairsAt w v P) : Calls Try.prog 19 #[v] w fun e w' => ∃ r : Bool, e = .returned (.bool r) ∧ (r = false → P.length ≤ 24) ∧ Below w.heap.size w w' := by
  have HV := Lib.hid hv
  obtain ⟨a, cap, rfl, h1, h2⟩ := pairs_form hv
  by_cases hlt : 24 < P.length
  · obtain ⟨N, hN⟩ : ∃ N, N = P.length := ⟨_, rfl⟩
    rw [← hN] at HV h1 hlt ⊢
    clear hv hN h2
    have c1 : decide (24 < N) = true := by simpa using hlt
    have c1' : decide ((24 : Int) < (N : Int)) = true := by simp; omega
    go_enter Try.func19, Try.ntmps19
    go_wp2_with fail
    exact bodyPost_ret (results_tmp rfl _ _ _) rfl ⟨true, rfl, fun h => by (first | cases h | simp at h), Below.refl _ _⟩
  · obtain ⟨N, hN⟩ : ∃ N, N = P.length := ⟨_, rfl⟩
    rw [← hN] at HV h1 hlt ⊢
    have HN := Lib.hid hN
    clear hv hN h2
    have c1 : decide (24 < N) = false := by simpa using hlt
    have c1' : decide ((24 : Int) < (N : Int)) = false := by simp; omega
    go_enter Try.func19, Try.ntmps19
    go_wp2_with fail
    refine (psize_any P _ _ HV.out (by rw [← HN.out]; omega)).mono ?_
    rintro e w1 ⟨⟨m, rfl⟩, hb1⟩
    have HB := Lib.hid hb1
    clear hb1
    go_wp2_with fail
    exact bodyPost_ret (results_tmp rfl _ _ _) rfl ⟨_, rfl, fun _ => by omega, HB.out⟩
end Go.Proofs.Ytfmgoehnbaiamaa
