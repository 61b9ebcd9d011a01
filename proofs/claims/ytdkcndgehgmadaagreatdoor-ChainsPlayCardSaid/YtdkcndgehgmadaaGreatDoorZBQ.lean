/-
  Joined: CLK2, CLK3.
-/
import Derived.Test.YtdkcndgehgmadaaGreatDoorZBP
import Derived.Test.YtdkcndgehgmadaaGreatDoorZBM
-- Walks: the document's links: link, Of.
open Go Go.RowKit Alm
namespace Go.Proofs.YtdkcndgehgmadaaGreatDoor
theorem llen_most (m n : Nat) (e : Bool) : llen m n e ≤ n + 1 := by
  induction m, n, e using llen.induct with
  | case1 m n h => rw [llen, dif_pos h, if_pos rfl]; omega
  | case2 m n edge h he => rw [llen, dif_pos h, if_neg he]; omega
  | case3 m n edge h h1 => rw [llen, dif_neg h, dif_pos h1]; omega
  | case4 m n edge h h1 hk ih =>
    have := cut_lt (n := n) (by omega)
    rw [llen, dif_neg h, dif_neg h1, if_pos hk]; omega
  | case5 m n edge h h1 hk ih =>
    have := cut_pos n
    rw [llen, dif_neg h, dif_neg h1, if_neg hk]; omega
theorem link_most (l : List Sum) (m : Nat) (e : Bool) : (link nd e0 l m e).length ≤ l.length + 1 := by
  rw [length_link]; exact llen_most _ _ _
theorem lie_one (W : World) (base : Nat) (s : Sum) (hb : base ≤ W.heap.size) : Lie (W.alloc (.cells (cellsOf s).toArray 24)) base 32 (.slice (some ⟨W.heap.size, 0, none⟩) 1 1) ([s].map cellsOf) := by
  refine .inr ⟨W.heap.size, 1, rfl, hb, by rw [World.size_alloc]; omega, by simp, by unfold maxLen; omega, ?_, ?_, fun x hx => ?_⟩
  · have := range_new W (cellsOf s).toArray 24 _ rfl
    simpa using this
  · have := there_new W (cellsOf s).toArray 24
    rw [show (cellsOf s).toArray.size = 32 by simp [length_cellsOf]] at this
    exact this
  · obtain rfl : x = cellsOf s := by simpa using hx
    exact length_cellsOf s
theorem leq_of {m k : Nat} (h : m ≤ k) : decide (m ≤ k) = true ∧ (m : Int) ≤ (k : Int) ∧ decide ((m : Int) ≤ (k : Int)) = true := ⟨by simpa using h, by omega, by simpa using h⟩
theorem leq_not {m k : Nat} (h : ¬ m ≤ k) : decide (m ≤ k) = false ∧ ¬ (m : Int) ≤ (k : Int) ∧ decide ((m : Int) ≤ (k : Int)) = false := ⟨by simpa using h, by omega, by simpa using h⟩
set_option maxRecDepth 100000 in
set_option maxHeartbeats 1000000 in
theorem rlink_go : ∀ (d : Nat) (l : List Sum) (v : Value) (m : Nat) (ed : Bool) (w : World), l.length ≤ d → SumsAt w v l → 1 ≤ m → m ≤ l.length → l.length < 1000000 → Calls Tryz.prog 106 #[v, .int .i64 (m : Int), .bool ed] w fun e w' => ∃ v', e = .returned v' ∧ Lie w' w.heap.size 32 v' ((link nd e0 l m ed).map cellsOf) ∧ Below w.heap.size w w' := by
  intro d
  induction d with
  | zero => intro l v m ed w hl hv hm1 hm; omega
  | succ d ih =>
    intro l v m ed w hl hv hm1 hm hn
    have h0 : l ≠ [] := by intro h; rw [h] at hm; simp at hm; omega
    have HV0 := Lib.hid hv
    obtain ⟨b, o, cap, rfl, hc1, hc2, hr⟩ := sums_form8 hv h0
    by_cases h1 : m = l.length
    · have hp := link_end l ed
      rw [← h1] at hp
      cases ed
      · have HP := Lib.hid hp
        have HR := Lib.hid (fun W hb => rroot_any l _ W (HV0.out.below hb (Nat.le_refl _)))
        rw [← h1] at HR ⊢
        clear hl hv hm1 hm hn hr hp h1 hc1 hc2 ih h0
        go_enter Tryz.func106, Tryz.ntmps106
        go_wp2_with (go_at_call 21; refine Hid.out ?_)
        refine Lib.hid ?_
        refine (HR.out w (Below.refl _ _)).mono ?_
        rintro e w2 ⟨rfl, hb2⟩
        have H2 := Lib.hid hb2
        clear hb2
        go_wp2_with (refine wpList_lit_sum rfl _ rfl (rt l) rfl ?_)
        refine bodyPost_ret (results_tmp rfl _ _ _) rfl ?_
        exact ⟨_, rfl, by rw [HP.out]; exact lie_one w2 _ (rt l) H2.out.size, H2.out.trans ((Alm.al (Below.refl w2.heap.size w2) _).mono H2.out.size)⟩
      · have HP := Lib.hid hp
        rw [← h1]
        clear hl hv hm1 hm hn hr hp h1 hc1 hc2 ih h0
        go_enter Tryz.func106, Tryz.ntmps106
        go_wp2_with fail
        refine bodyPost_ret (results_tmp rfl _ _ _) rfl ?_
        exact ⟨_, rfl, by rw [HP.out]; exact .inl ⟨rfl, rfl⟩, Below.refl _ _⟩
    · have hl2 : 2 ≤ l.length := by omega
      have hleft := fun hk => link_left l m ed hm1 (by omega : m < l.length) hk
      have hright := fun hk => link_right l m ed hm1 (by omega : m < l.length) hk
      obtain ⟨n, hn0⟩ : ∃ n, n = l.length := ⟨_, rfl⟩
      rw [← hn0] at hl2 hc1 hl h1 hm hn hleft hright ⊢
      have hmn : m < n := by omega
      have e1 : ((m : Int) == (n : Int)) = false := by rw [beq_eq_false_iff_ne]; omega
      have e2 : decide (m = n) = false := decide_eq_false h1
      have e3 : ¬ m = n := h1
      have e4 : decide ((m : Int) = (n : Int)) = false := decide_eq_false (by omega)
      have e5 : ¬ (m : Int) = (n : Int) := by omega
      have e6 : (m == n) = false := by rw [beq_eq_false_iff_ne]; exact h1
      obtain ⟨k, hkk⟩ : ∃ k, k = cut n := ⟨_, rfl⟩
      have hk : k < n := by rw [hkk]; exact cut_lt hl2
      have hk0 : 0 < k := by rw [hkk]; exact cut_pos n
      rw [← hkk] at hleft hright
      have n11 : ¬ cap = k := by omega
      have hs1 : SumsAt w (.slice (some ⟨b, o, none⟩) k cap) (l.take k) := sums_take hr (by omega) (by omega) hc2
      have hs2 : SumsAt w (.slice (some ⟨b, o + k * 32, none⟩) (n - k) (cap - k)) (l.drop k) := by
        have := sums_drop (cap := cap - k) hr (k := k) (by omega) (by omega) (by omega)
        rwa [← hn0] at this
      obtain ⟨n1, n2, n3, n4, n5, n6, n7, n8, n9, n10⟩ := path_nums hl2 hn hk hmn hc1
      have hcut := fun W => rcut_any n W hl2 n6
      rw [← hkk] at hcut
      have HS := Lib.hid (And.intro hs1 (And.intro hs2 (And.intro hn0 (And.intro hk (And.intro hk0 (And.intro hl (And.intro hn (And.intro hmn hm1))))))))
      have HC := Lib.hid hcut
      have HI := Lib.hid ih
      have HPL := Lib.hid (And.intro hleft hright)
      have H10 := Lib.hid n10
      clear hs1 hs2 hn0 hk hk0 hl hn hm hcut ih hleft hright n6 n10 hr hv hc1 hc2 hl2 h0 h1 hkk hm1 hmn
      go_enter Tryz.func106, Tryz.ntmps106
      go_wp2_with (go_at_call 103; refine Hid.out ?_)
      refine Lib.hid ?_
      first | rw [n3] | rw [n2] | skip
      refine (HC.out _).mono ?_
      rintro e w2 ⟨rfl, rfl⟩
      by_cases hmk : m ≤ k
      · obtain ⟨d1, d2, d3⟩ := leq_of hmk
        go_wp2_with fail
        have hd := (Below.refl w.heap.size w).drew
        have HD := Lib.hid hd
        clear n1 n2 n3 n4 n5
        refine wp_region_sched (fun V => Below w.drew.heap.size w.drew V) [.t 0, .t 1, .t 2, .t 3, .t 4, .t 6, .t 7, .t 8, .e 5 false, .e 9 false, .e 10 false, .e 11 false, .t 12] (by kernel_rfl) (by kernel_rfl) (by intro c a d v w h; cases d <;> exact h) ?_
        have hsz : w.drew.heap.size = w.heap.size := rfl
        have HSZ := Lib.hid hsz
        clear hsz hd
        generalize w.drew = V at *
        iterate 8
          refine wpS_t rfl (v := ?_) (by rfl) (fun W => ?_) ?_
          rotate_left
          · go_simp
            try rfl
          try simp only [Act.put, List.setIfInBounds_toArray, List.set_cons_zero, List.set_cons_succ]
        refine wpS_e rfl (by rfl) (fun K hK => ?_)
        go_simp
        refine (HI.out (l.take k) _ m ed V (by rw [List.length_take]; have := HS.out; omega) (HS.out.1.below HD.out (Nat.le_refl _)) ?_ ?_ ?_).mono ?_
        · have := HS.out; omega
        · rw [List.length_take]; have := HS.out; omega
        · rw [List.length_take]; have := HS.out; omega
        rintro e V1 ⟨v1, rfl, hl1, hb1⟩
        have H1 := Lib.hid (And.intro hl1 hb1)
        clear hl1 hb1
        refine hK _ _ ?_; clear hK K
        try simp only [Act.put, List.setIfInBounds_toArray, List.set_cons_zero, List.set_cons_succ]
        refine wpS_e rfl (by rfl) (fun K hK => ?_)
        go_simp
        refine (rroot_any (l.drop k) _ V1 ((HS.out.2.1.below HD.out (Nat.le_refl _)).below H1.out.2 (Nat.le_refl _))).mono ?_
        rintro e V2 ⟨rfl, hb2⟩
        have H2 := Lib.hid (And.intro (H1.out.1.below hb2) (H1.out.2.trans (hb2.mono H1.out.2.size)))
        clear hb2
        refine hK _ _ ?_; clear hK K
        try simp only [Act.put, List.setIfInBounds_toArray, List.set_cons_zero, List.set_cons_succ]
        refine wpS_e rfl (by rfl) (fun K hK => ?_)
        refine wp_lit_sum _ rfl (rt (l.drop k)) (by rfl) ?_
        have hba := Alm.al (Below.refl V2.heap.size V2) (.cells (cellsOf (rt (l.drop k))).toArray 24)
        have H3 := Lib.hid (And.intro (H2.out.1.below hba) (And.intro (H2.out.2.trans (hba.mono H2.out.2.size)) (range_new V2 (cellsOf (rt (l.drop k))).toArray 24 _ rfl)))
        clear hba
        refine hK _ _ ?_; clear hK K
        try simp only [Act.put, List.setIfInBounds_toArray, List.set_cons_zero, List.set_cons_succ]
        generalize V2.alloc (.cells (cellsOf (rt (l.drop k))).toArray 24) = V3 at *
        refine wpS_e rfl (by rfl) (fun K hK => ?_)
        refine wp_append_sumGr (base := V.heap.size) (B := V3.heap.size) (v0 := v1) (xs := (link nd e0 (l.take k) m ed).map cellsOf) (ys := []) _ _ rfl (by rfl) (Grown.start H3.out.1 (Nat.le_refl _)) H3.out.2.1.size (Nat.le_refl _) ⟨V2.heap.size, 0, none⟩ 1 (rt (l.drop k)) (by rfl) (fun j u hj => by rw [Addr.add_mid]; exact H3.out.2.2 j u hj) (by rw [List.length_map]; have h9 := link_most (l.take k) m ed; rw [List.length_take] at h9; have := HS.out; simp; omega) ?_
        intro v4 V4 hg4 hk4
        have hb4 := hk4.below (B := V.heap.size) H3.out.2.1.size (fun k h => by
          rcases h with h | h
          · exact (H3.out.1.lt k h).1
          · exact Nat.le_trans H3.out.2.1.size h)
        have hl4 := hg4.now
        rw [List.nil_append, ← List.map_singleton (f := cellsOf), ← List.map_append, ← HPL.out.1 hmk] at hl4
        have H4 := Lib.hid (And.intro hl4 (HD.out.trans ((H3.out.2.1.trans hb4).mono HD.out.size)))
        clear hg4 hk4 hb4 hl4 H1 H2 H3
        refine hK _ _ ?_; clear hK K
        try simp only [Act.put, List.setIfInBounds_toArray, List.set_cons_zero, List.set_cons_succ]
        iterate 1
          refine wpS_t rfl (v := ?_) (by rfl) (fun W => ?_) ?_
          rotate_left
          · go_simp
            try rfl
          try simp only [Act.put, List.setIfInBounds_toArray, List.set_cons_zero, List.set_cons_succ]
        refine wpS_done ?_
        go_wp2_with fail
        refine bodyPost_ret (results_tmp rfl _ _ _) rfl ?_
        exact ⟨_, rfl, by have := H4.out.1; rw [HSZ.out] at this; exact this, H4.out.2⟩
      · obtain ⟨d1, d2, d3⟩ := leq_not hmk
        go_wp2_with fail
        have hd := (Below.refl w.heap.size w).drew
        have HD := Lib.hid hd
        have hmk2 := (H10.out (Nat.le_of_lt (Nat.lt_of_not_le hmk))).2
        clear n1 n2 n3 n4 n5
        refine wp_region_sched (fun V => Below w.drew.heap.size w.drew V) [.t 0, .t 1, .t 2, .t 3, .t 4, .t 5, .t 7, .t 8, .t 9, .e 6 false, .e 10 false, .e 11 false, .e 12 false, .t 13] (by kernel_rfl) (by kernel_rfl) (by intro c a d v w h; cases d <;> exact h) ?_
        have hsz : w.drew.heap.size = w.heap.size := rfl
        have HSZ := Lib.hid hsz
        clear hsz hd
        generalize w.drew = V at *
        iterate 9
          refine wpS_t rfl (v := ?_) (by rfl) (fun W => ?_) ?_
          rotate_left
          · go_simp
            try rfl
          try simp only [Act.put, List.setIfInBounds_toArray, List.set_cons_zero, List.set_cons_succ]
        refine wpS_e rfl (by rfl) (fun K hK => ?_)
        go_simp
        refine (HI.out (l.drop k) _ (m - k) false V (by rw [List.length_drop]; have := HS.out; omega) (HS.out.2.1.below HD.out (Nat.le_refl _)) ?_ ?_ ?_).mono ?_
        · have := HS.out; omega
        · rw [List.length_drop]; have := HS.out; omega
        · rw [List.length_drop]; have := HS.out; omega
        rintro e V1 ⟨v1, rfl, hl1, hb1⟩
        have H1 := Lib.hid (And.intro hl1 hb1)
        clear hl1 hb1
        refine hK _ _ ?_; clear hK K
        try simp only [Act.put, List.setIfInBounds_toArray, List.set_cons_zero, List.set_cons_succ]
        refine wpS_e rfl (by rfl) (fun K hK => ?_)
        go_simp
        refine (rroot_any (l.take k) _ V1 ((HS.out.1.below HD.out (Nat.le_refl _)).below H1.out.2 (Nat.le_refl _))).mono ?_
        rintro e V2 ⟨rfl, hb2⟩
        have H2 := Lib.hid (And.intro (H1.out.1.below hb2) (H1.out.2.trans (hb2.mono H1.out.2.size)))
        clear hb2
        refine hK _ _ ?_; clear hK K
        try simp only [Act.put, List.setIfInBounds_toArray, List.set_cons_zero, List.set_cons_succ]
        refine wpS_e rfl (by rfl) (fun K hK => ?_)
        refine wp_lit_sum _ rfl (rt (l.take k)) (by rfl) ?_
        have hba := Alm.al (Below.refl V2.heap.size V2) (.cells (cellsOf (rt (l.take k))).toArray 24)
        have H3 := Lib.hid (And.intro (H2.out.1.below hba) (And.intro (H2.out.2.trans (hba.mono H2.out.2.size)) (range_new V2 (cellsOf (rt (l.take k))).toArray 24 _ rfl)))
        clear hba
        refine hK _ _ ?_; clear hK K
        try simp only [Act.put, List.setIfInBounds_toArray, List.set_cons_zero, List.set_cons_succ]
        generalize V2.alloc (.cells (cellsOf (rt (l.take k))).toArray 24) = V3 at *
        refine wpS_e rfl (by rfl) (fun K hK => ?_)
        refine wp_append_sumGr (base := V.heap.size) (B := V3.heap.size) (v0 := v1) (xs := (link nd e0 (l.drop k) (m - k) false).map cellsOf) (ys := []) _ _ rfl (by rfl) (Grown.start H3.out.1 (Nat.le_refl _)) H3.out.2.1.size (Nat.le_refl _) ⟨V2.heap.size, 0, none⟩ 1 (rt (l.take k)) (by rfl) (fun j u hj => by rw [Addr.add_mid]; exact H3.out.2.2 j u hj) (by rw [List.length_map]; have h9 := link_most (l.drop k) (m - k) false; rw [List.length_drop] at h9; have := HS.out; simp; omega) ?_
        intro v4 V4 hg4 hk4
        have hb4 := hk4.below (B := V.heap.size) H3.out.2.1.size (fun k h => by
          rcases h with h | h
          · exact (H3.out.1.lt k h).1
          · exact Nat.le_trans H3.out.2.1.size h)
        have hl4 := hg4.now
        rw [List.nil_append, ← List.map_singleton (f := cellsOf), ← List.map_append, ← HPL.out.2 hmk] at hl4
        have H4 := Lib.hid (And.intro hl4 (HD.out.trans ((H3.out.2.1.trans hb4).mono HD.out.size)))
        clear hg4 hk4 hb4 hl4 H1 H2 H3
        refine hK _ _ ?_; clear hK K
        try simp only [Act.put, List.setIfInBounds_toArray, List.set_cons_zero, List.set_cons_succ]
        iterate 1
          refine wpS_t rfl (v := ?_) (by rfl) (fun W => ?_) ?_
          rotate_left
          · go_simp
            try rfl
          try simp only [Act.put, List.setIfInBounds_toArray, List.set_cons_zero, List.set_cons_succ]
        refine wpS_done ?_
        go_wp2_with fail
        refine bodyPost_ret (results_tmp rfl _ _ _) rfl ?_
        exact ⟨_, rfl, by have := H4.out.1; rw [HSZ.out] at this; exact this, H4.out.2⟩
end Go.Proofs.YtdkcndgehgmadaaGreatDoor
-- Walks: the links of a beginning, the program's and the document's, whatever the beginning.
open Go Go.RowKit Alm
namespace Go.Proofs.YtdkcndgehgmadaaGreatDoor
theorem off_facts {z : Int} {n : Nat} (h : z < 1 ∨ (n : Int) < z) : (z < 1 ∧ decide (z < 1) = true) ∨ (¬ z < 1 ∧ decide (z < 1) = false ∧ (n : Int) < z ∧ decide ((n : Int) < z) = true) := by
  by_cases hz : z < 1
  · exact .inl ⟨hz, decide_eq_true hz⟩
  · have hn := h.resolve_left hz
    exact .inr ⟨hz, decide_eq_false hz, hn, decide_eq_true hn⟩
theorem lof_out (l : List Sum) (v : Value) (z : Int) (w : World) (hv : SumsAt w v l) (h : z < 1 ∨ (l.length : Int) < z) : Calls Tryz.prog 24 #[v, .int .i64 z] w fun e w' => e = .returned (.tuple #[.slice none 0 0, .int .i64 1]) ∧ w = w' := by
  obtain ⟨a, cap, rfl, _, _, _⟩ := hv
  rcases off_facts h with ⟨h1, h2⟩ | ⟨h1, h2, h3, h4⟩
  · clear h
    go_enter Tryz.func24, Tryz.ntmps24
    go_wp2_with fail
    exact bodyPost_ret (results_tmp2 rfl _ _ _) rfl ⟨rfl, rfl⟩
  · clear h
    go_enter Tryz.func24, Tryz.ntmps24
    go_wp2_with fail
    exact bodyPost_ret (results_tmp2 rfl _ _ _) rfl ⟨rfl, rfl⟩
theorem rlof_out (l : List Sum) (v : Value) (z : Int) (w : World) (hv : SumsAt w v l) (h : z < 1 ∨ (l.length : Int) < z) : Calls Tryz.prog 25 #[v, .int .i64 z] w fun e w' => e = .returned (.tuple #[.slice none 0 0, .int .i64 1]) ∧ w = w' := by
  obtain ⟨a, cap, rfl, _, _, _⟩ := hv
  rcases off_facts h with ⟨h1, h2⟩ | ⟨h1, h2, h3, h4⟩
  · clear h
    go_enter Tryz.func25, Tryz.ntmps25
    go_wp2_with fail
    exact bodyPost_ret (results_tmp2 rfl _ _ _) rfl ⟨rfl, rfl⟩
  · clear h
    go_enter Tryz.func25, Tryz.ntmps25
    go_wp2_with fail
    exact bodyPost_ret (results_tmp2 rfl _ _ _) rfl ⟨rfl, rfl⟩
theorem rlof_in (l : List Sum) (v : Value) (m : Nat) (w : World) (hv : SumsAt w v l) (hm1 : 1 ≤ m) (hm : m ≤ l.length) (hl : l.length < 1000000) : Calls Tryz.prog 25 #[v, .int .i64 (m : Int)] w fun e w' => ∃ v', e = .returned (.tuple #[v', .int .i64 0]) ∧ SumsAt w' v' (link nd e0 l m true) ∧ Below w.heap.size w w' := by
  have HP := Lib.hid (rlink_go l.length l v m true w (Nat.le_refl _) hv hm1 hm hl)
  obtain ⟨a, cap, rfl, _, _, _⟩ := hv
  obtain ⟨n, hn⟩ : ∃ n, n = l.length := ⟨_, rfl⟩
  rw [← hn] at hm HP ⊢
  have h1 : ¬ (m : Int) < 1 := by omega
  have h2 : decide ((m : Int) < 1) = false := decide_eq_false h1
  have h3 : ¬ (n : Int) < (m : Int) := by omega
  have h4 : decide ((n : Int) < (m : Int)) = false := decide_eq_false h3
  have h5 : decide (n < m) = false := decide_eq_false (by omega)
  clear hm hl hn hm1
  go_enter Tryz.func25, Tryz.ntmps25
  go_wp2_with (go_at_call 106; refine HP.out.mono ?_; rintro e w2 ⟨v', rfl, hlie, hb⟩; refine Hid.out ?_)
  refine Lib.hid ?_
  have H2 := Lib.hid (And.intro (lie_sums hlie) hb)
  clear hlie hb
  go_wp2_with fail
  refine bodyPost_ret (results_tmp2 rfl _ _ _) rfl ?_
  exact ⟨_, rfl, H2.out⟩
noncomputable def linkOf (l : List Sum) (z : Int) : List Sum := if 1 ≤ z ∧ z ≤ l.length then link nd e0 l z.toNat true else []
noncomputable def errOfL (l : List Sum) (z : Int) : Int := if 1 ≤ z ∧ z ≤ l.length then 0 else 1
theorem linkOf_len (l : List Sum) (z : Int) : (linkOf l z).length ≤ l.length + 1 := by
  unfold linkOf
  split
  · exact link_most l _ true
  · simp
theorem lof_any (l : List Sum) (v : Value) (z : Int) (w : World) (hv : SumsAt w v l) (hl : l.length < 1000000) : Calls Tryz.prog 24 #[v, .int .i64 z] w fun e w' => ∃ x, e = .returned (.tuple #[x, .int .i64 (errOfL l z)]) ∧ Lie w' w.heap.size 32 x ((linkOf l z).map cellsOf) ∧ Below w.heap.size w w' := by
  by_cases h : 1 ≤ z ∧ z ≤ l.length
  · obtain ⟨m, rfl⟩ : ∃ m : Nat, z = (m : Int) := ⟨z.toNat, by omega⟩
    rw [errOfL, linkOf, if_pos h, if_pos h]
    refine (linksOf_any l m v w hv (by omega) (by omega) hl).mono ?_
    rintro e w' ⟨v', rfl, hn, hb⟩
    exact ⟨v', rfl, new_lie hn, hb⟩
  · rw [errOfL, linkOf, if_neg h, if_neg h]
    refine (lof_out l v z w hv (by omega)).mono ?_
    rintro e w' ⟨rfl, rfl⟩
    exact ⟨_, rfl, .inl ⟨rfl, rfl⟩, Below.refl _ _⟩
theorem rlof_any (l : List Sum) (v : Value) (z : Int) (w : World) (hv : SumsAt w v l) (hl : l.length < 1000000) : Calls Tryz.prog 25 #[v, .int .i64 z] w fun e w' => ∃ x, e = .returned (.tuple #[x, .int .i64 (errOfL l z)]) ∧ SumsAt w' x (linkOf l z) ∧ Below w.heap.size w w' := by
  by_cases h : 1 ≤ z ∧ z ≤ l.length
  · obtain ⟨m, rfl⟩ : ∃ m : Nat, z = (m : Int) := ⟨z.toNat, by omega⟩
    rw [errOfL, linkOf, if_pos h, if_pos h]
    refine (rlof_in l v m w hv (by omega) (by omega) hl).mono ?_
    rintro e w' ⟨v', rfl, hn, hb⟩
    exact ⟨v', rfl, hn, hb⟩
  · rw [errOfL, linkOf, if_neg h, if_neg h]
    refine (rlof_out l v z w hv (by omega)).mono ?_
    rintro e w' ⟨rfl, rfl⟩
    exact ⟨_, rfl, lie_sums (l := []) (base := w.heap.size) (.inl ⟨rfl, rfl⟩), Below.refl _ _⟩
end Go.Proofs.YtdkcndgehgmadaaGreatDoor
