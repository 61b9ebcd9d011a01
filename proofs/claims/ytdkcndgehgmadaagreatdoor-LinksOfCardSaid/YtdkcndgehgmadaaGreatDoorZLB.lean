/-
  Joined: LK2, LK3, LK4, LK5.
-/
import Derived.Test.YtdkcndgehgmadaaGreatDoorZHC
import Derived.Test.YtdkcndgehgmadaaGreatDoorZLA
import Derived.Test.YtdkcndgehgmadaaGreatDoorH12
-- Walks: the document's links: link, Of.
open Go Go.RowKit Alm
namespace Go.Proofs.YtdkcndgehgmadaaGreatDoor
theorem llen_most (m n : Nat) (e : Bool) : llen m n e ≤ n + 1 := by
  induction m, n, e using llen.induct with
  | case1 m n h => rw [llen, dif_pos h, if_pos rfl]; omega
  | case2 m n edge h he => rw [llen, dif_pos h, if_neg he]; omega
  | case3 m n edge h h1 => rw [llen, dif_neg h, dif_pos h1]; omega
  | case4 m n edge h h1 hk ih =>
    have := cut_lt (n := n) (by omega)
    rw [llen, dif_neg h, dif_neg h1, if_pos hk]; omega
  | case5 m n edge h h1 hk ih =>
    have := cut_pos n
    rw [llen, dif_neg h, dif_neg h1, if_neg hk]; omega
theorem link_most (l : List Sum) (m : Nat) (e : Bool) : (link nd e0 l m e).length ≤ l.length + 1 := by
  rw [length_link]; exact llen_most _ _ _
theorem lie_one (W : World) (base : Nat) (s : Sum) (hb : base ≤ W.heap.size) : Lie (W.alloc (.cells (cellsOf s).toArray 24)) base 32 (.slice (some ⟨W.heap.size, 0, none⟩) 1 1) ([s].map cellsOf) := by
  refine .inr ⟨W.heap.size, 1, rfl, hb, by rw [World.size_alloc]; omega, by simp, by unfold maxLen; omega, ?_, ?_, fun x hx => ?_⟩
  · have := range_new W (cellsOf s).toArray 24 _ rfl
    simpa using this
  · have := there_new W (cellsOf s).toArray 24
    rw [show (cellsOf s).toArray.size = 32 by simp [length_cellsOf]] at this
    exact this
  · obtain rfl : x = cellsOf s := by simpa using hx
    exact length_cellsOf s
theorem leq_of {m k : Nat} (h : m ≤ k) : decide (m ≤ k) = true ∧ (m : Int) ≤ (k : Int) ∧ decide ((m : Int) ≤ (k : Int)) = true := ⟨by simpa using h, by omega, by simpa using h⟩
theorem leq_not {m k : Nat} (h : ¬ m ≤ k) : decide (m ≤ k) = false ∧ ¬ (m : Int) ≤ (k : Int) ∧ decide ((m : Int) ≤ (k : Int)) = false := ⟨by simpa using h, by omega, by simpa using h⟩
set_option maxRecDepth 100000 in
set_option maxHeartbeats 1000000 in
theorem rlink_go : ∀ (d : Nat) (l : List Sum) (v : Value) (m : Nat) (ed : Bool) (w : World), l.length ≤ d → SumsAt w v l → 1 ≤ m → m ≤ l.length → l.length < 1000000 → Calls Tryz.prog 106 #[v, .int .i64 (m : Int), .bool ed] w fun e w' => ∃ v', e = .returned v' ∧ Lie w' w.heap.size 32 v' ((link nd e0 l m ed).map cellsOf) ∧ Below w.heap.size w w' := by
  intro d
  induction d with
  | zero => intro l v m ed w hl hv hm1 hm; omega
  | succ d ih =>
    intro l v m ed w hl hv hm1 hm hn
    have h0 : l ≠ [] := by intro h; rw [h] at hm; simp at hm; omega
    have HV0 := Lib.hid hv
    obtain ⟨b, o, cap, rfl, hc1, hc2, hr⟩ := sums_form8 hv h0
    by_cases h1 : m = l.length
    · have hp := link_end l ed
      rw [← h1] at hp
      cases ed
      · have HP := Lib.hid hp
        have HR := Lib.hid (fun W hb => rroot_any l _ W (HV0.out.below hb (Nat.le_refl _)))
        rw [← h1] at HR ⊢
        clear hl hv hm1 hm hn hr hp h1 hc1 hc2 ih h0
        go_enter Tryz.func106, Tryz.ntmps106
        go_wp2_with (go_at_call 21; refine Hid.out ?_)
        refine Lib.hid ?_
        refine (HR.out w (Below.refl _ _)).mono ?_
        rintro e w2 ⟨rfl, hb2⟩
        have H2 := Lib.hid hb2
        clear hb2
        go_wp2_with (refine wpList_lit_sum rfl _ rfl (rt l) rfl ?_)
        refine bodyPost_ret (results_tmp rfl _ _ _) rfl ?_
        exact ⟨_, rfl, by rw [HP.out]; exact lie_one w2 _ (rt l) H2.out.size, H2.out.trans ((Alm.al (Below.refl w2.heap.size w2) _).mono H2.out.size)⟩
      · have HP := Lib.hid hp
        rw [← h1]
        clear hl hv hm1 hm hn hr hp h1 hc1 hc2 ih h0
        go_enter Tryz.func106, Tryz.ntmps106
        go_wp2_with fail
        refine bodyPost_ret (results_tmp rfl _ _ _) rfl ?_
        exact ⟨_, rfl, by rw [HP.out]; exact .inl ⟨rfl, rfl⟩, Below.refl _ _⟩
    · have hl2 : 2 ≤ l.length := by omega
      have hleft := fun hk => link_left l m ed hm1 (by omega : m < l.length) hk
      have hright := fun hk => link_right l m ed hm1 (by omega : m < l.length) hk
      obtain ⟨n, hn0⟩ : ∃ n, n = l.length := ⟨_, rfl⟩
      rw [← hn0] at hl2 hc1 hl h1 hm hn hleft hright ⊢
      have hmn : m < n := by omega
      have e1 : ((m : Int) == (n : Int)) = false := by rw [beq_eq_false_iff_ne]; omega
      have e2 : decide (m = n) = false := decide_eq_false h1
      have e3 : ¬ m = n := h1
      have e4 : decide ((m : Int) = (n : Int)) = false := decide_eq_false (by omega)
      have e5 : ¬ (m : Int) = (n : Int) := by omega
      have e6 : (m == n) = false := by rw [beq_eq_false_iff_ne]; exact h1
      obtain ⟨k, hkk⟩ : ∃ k, k = cut n := ⟨_, rfl⟩
      have hk : k < n := by rw [hkk]; exact cut_lt hl2
      have hk0 : 0 < k := by rw [hkk]; exact cut_pos n
      rw [← hkk] at hleft hright
      have n11 : ¬ cap = k := by omega
      have hs1 : SumsAt w (.slice (some ⟨b, o, none⟩) k cap) (l.take k) := sums_take hr (by omega) (by omega) hc2
      have hs2 : SumsAt w (.slice (some ⟨b, o + k * 32, none⟩) (n - k) (cap - k)) (l.drop k) := by
        have := sums_drop (cap := cap - k) hr (k := k) (by omega) (by omega) (by omega)
        rwa [← hn0] at this
      obtain ⟨n1, n2, n3, n4, n5, n6, n7, n8, n9, n10⟩ := path_nums hl2 hn hk hmn hc1
      have hcut := fun W => rcut_any n W hl2 n6
      rw [← hkk] at hcut
      have HS := Lib.hid (And.intro hs1 (And.intro hs2 (And.intro hn0 (And.intro hk (And.intro hk0 (And.intro hl (And.intro hn (And.intro hmn hm1))))))))
      have HC := Lib.hid hcut
      have HI := Lib.hid ih
      have HPL := Lib.hid (And.intro hleft hright)
      have H10 := Lib.hid n10
      clear hs1 hs2 hn0 hk hk0 hl hn hm hcut ih hleft hright n6 n10 hr hv hc1 hc2 hl2 h0 h1 hkk hm1 hmn
      go_enter Tryz.func106, Tryz.ntmps106
      go_wp2_with (go_at_call 103; refine Hid.out ?_)
      refine Lib.hid ?_
      first | rw [n3] | rw [n2] | skip
      refine (HC.out _).mono ?_
      rintro e w2 ⟨rfl, rfl⟩
      by_cases hmk : m ≤ k
      · obtain ⟨d1, d2, d3⟩ := leq_of hmk
        go_wp2_with fail
        have hd := (Below.refl w.heap.size w).drew
        have HD := Lib.hid hd
        clear n1 n2 n3 n4 n5
        refine wp_region_sched (fun V => Below w.drew.heap.size w.drew V) [.t 0, .t 1, .t 2, .t 3, .t 4, .t 6, .t 7, .t 8, .e 5 false, .e 9 false, .e 10 false, .e 11 false, .t 12] (by kernel_rfl) (by kernel_rfl) (by intro c a d v w h; cases d <;> exact h) ?_
        have hsz : w.drew.heap.size = w.heap.size := rfl
        have HSZ := Lib.hid hsz
        clear hsz hd
        generalize w.drew = V at *
        iterate 8
          refine wpS_t rfl (v := ?_) (by rfl) (fun W => ?_) ?_
          rotate_left
          · go_simp
            try rfl
          try simp only [Act.put, List.setIfInBounds_toArray, List.set_cons_zero, List.set_cons_succ]
        refine wpS_e rfl (by rfl) (fun K hK => ?_)
        go_simp
        refine (HI.out (l.take k) _ m ed V (by rw [List.length_take]; have := HS.out; omega) (HS.out.1.below HD.out (Nat.le_refl _)) ?_ ?_ ?_).mono ?_
        · have := HS.out; omega
        · rw [List.length_take]; have := HS.out; omega
        · rw [List.length_take]; have := HS.out; omega
        rintro e V1 ⟨v1, rfl, hl1, hb1⟩
        have H1 := Lib.hid (And.intro hl1 hb1)
        clear hl1 hb1
        refine hK _ _ ?_; clear hK K
        try simp only [Act.put, List.setIfInBounds_toArray, List.set_cons_zero, List.set_cons_succ]
        refine wpS_e rfl (by rfl) (fun K hK => ?_)
        go_simp
        refine (rroot_any (l.drop k) _ V1 ((HS.out.2.1.below HD.out (Nat.le_refl _)).below H1.out.2 (Nat.le_refl _))).mono ?_
        rintro e V2 ⟨rfl, hb2⟩
        have H2 := Lib.hid (And.intro (H1.out.1.below hb2) (H1.out.2.trans (hb2.mono H1.out.2.size)))
        clear hb2
        refine hK _ _ ?_; clear hK K
        try simp only [Act.put, List.setIfInBounds_toArray, List.set_cons_zero, List.set_cons_succ]
        refine wpS_e rfl (by rfl) (fun K hK => ?_)
        refine wp_lit_sum _ rfl (rt (l.drop k)) (by rfl) ?_
        have hba := Alm.al (Below.refl V2.heap.size V2) (.cells (cellsOf (rt (l.drop k))).toArray 24)
        have H3 := Lib.hid (And.intro (H2.out.1.below hba) (And.intro (H2.out.2.trans (hba.mono H2.out.2.size)) (range_new V2 (cellsOf (rt (l.drop k))).toArray 24 _ rfl)))
        clear hba
        refine hK _ _ ?_; clear hK K
        try simp only [Act.put, List.setIfInBounds_toArray, List.set_cons_zero, List.set_cons_succ]
        generalize V2.alloc (.cells (cellsOf (rt (l.drop k))).toArray 24) = V3 at *
        refine wpS_e rfl (by rfl) (fun K hK => ?_)
        refine wp_append_sumGr (base := V.heap.size) (B := V3.heap.size) (v0 := v1) (xs := (link nd e0 (l.take k) m ed).map cellsOf) (ys := []) _ _ rfl (by rfl) (Grown.start H3.out.1 (Nat.le_refl _)) H3.out.2.1.size (Nat.le_refl _) ⟨V2.heap.size, 0, none⟩ 1 (rt (l.drop k)) (by rfl) (fun j u hj => by rw [Addr.add_mid]; exact H3.out.2.2 j u hj) (by rw [List.length_map]; have h9 := link_most (l.take k) m ed; rw [List.length_take] at h9; have := HS.out; simp; omega) ?_
        intro v4 V4 hg4 hk4
        have hb4 := hk4.below (B := V.heap.size) H3.out.2.1.size (fun k h => by
          rcases h with h | h
          · exact (H3.out.1.lt k h).1
          · exact Nat.le_trans H3.out.2.1.size h)
        have hl4 := hg4.now
        rw [List.nil_append, ← List.map_singleton (f := cellsOf), ← List.map_append, ← HPL.out.1 hmk] at hl4
        have H4 := Lib.hid (And.intro hl4 (HD.out.trans ((H3.out.2.1.trans hb4).mono HD.out.size)))
        clear hg4 hk4 hb4 hl4 H1 H2 H3
        refine hK _ _ ?_; clear hK K
        try simp only [Act.put, List.setIfInBounds_toArray, List.set_cons_zero, List.set_cons_succ]
        iterate 1
          refine wpS_t rfl (v := ?_) (by rfl) (fun W => ?_) ?_
          rotate_left
          · go_simp
            try rfl
          try simp only [Act.put, List.setIfInBounds_toArray, List.set_cons_zero, List.set_cons_succ]
        refine wpS_done ?_
        go_wp2_with fail
        refine bodyPost_ret (results_tmp rfl _ _ _) rfl ?_
        exact ⟨_, rfl, by have := H4.out.1; rw [HSZ.out] at this; exact this, H4.out.2⟩
      · obtain ⟨d1, d2, d3⟩ := leq_not hmk
        go_wp2_with fail
        have hd := (Below.refl w.heap.size w).drew
        have HD := Lib.hid hd
        have hmk2 := (H10.out (Nat.le_of_lt (Nat.lt_of_not_le hmk))).2
        clear n1 n2 n3 n4 n5
        refine wp_region_sched (fun V => Below w.drew.heap.size w.drew V) [.t 0, .t 1, .t 2, .t 3, .t 4, .t 5, .t 7, .t 8, .t 9, .e 6 false, .e 10 false, .e 11 false, .e 12 false, .t 13] (by kernel_rfl) (by kernel_rfl) (by intro c a d v w h; cases d <;> exact h) ?_
        have hsz : w.drew.heap.size = w.heap.size := rfl
        have HSZ := Lib.hid hsz
        clear hsz hd
        generalize w.drew = V at *
        iterate 9
          refine wpS_t rfl (v := ?_) (by rfl) (fun W => ?_) ?_
          rotate_left
          · go_simp
            try rfl
          try simp only [Act.put, List.setIfInBounds_toArray, List.set_cons_zero, List.set_cons_succ]
        refine wpS_e rfl (by rfl) (fun K hK => ?_)
        go_simp
        refine (HI.out (l.drop k) _ (m - k) false V (by rw [List.length_drop]; have := HS.out; omega) (HS.out.2.1.below HD.out (Nat.le_refl _)) ?_ ?_ ?_).mono ?_
        · have := HS.out; omega
        · rw [List.length_drop]; have := HS.out; omega
        · rw [List.length_drop]; have := HS.out; omega
        rintro e V1 ⟨v1, rfl, hl1, hb1⟩
        have H1 := Lib.hid (And.intro hl1 hb1)
        clear hl1 hb1
        refine hK _ _ ?_; clear hK K
        try simp only [Act.put, List.setIfInBounds_toArray, List.set_cons_zero, List.set_cons_succ]
        refine wpS_e rfl (by rfl) (fun K hK => ?_)
        go_simp
        refine (rroot_any (l.take k) _ V1 ((HS.out.1.below HD.out (Nat.le_refl _)).below H1.out.2 (Nat.le_refl _))).mono ?_
        rintro e V2 ⟨rfl, hb2⟩
        have H2 := Lib.hid (And.intro (H1.out.1.below hb2) (H1.out.2.trans (hb2.mono H1.out.2.size)))
        clear hb2
        refine hK _ _ ?_; clear hK K
        try simp only [Act.put, List.setIfInBounds_toArray, List.set_cons_zero, List.set_cons_succ]
        refine wpS_e rfl (by rfl) (fun K hK => ?_)
        refine wp_lit_sum _ rfl (rt (l.take k)) (by rfl) ?_
        have hba := Alm.al (Below.refl V2.heap.size V2) (.cells (cellsOf (rt (l.take k))).toArray 24)
        have H3 := Lib.hid (And.intro (H2.out.1.below hba) (And.intro (H2.out.2.trans (hba.mono H2.out.2.size)) (range_new V2 (cellsOf (rt (l.take k))).toArray 24 _ rfl)))
        clear hba
        refine hK _ _ ?_; clear hK K
        try simp only [Act.put, List.setIfInBounds_toArray, List.set_cons_zero, List.set_cons_succ]
        generalize V2.alloc (.cells (cellsOf (rt (l.take k))).toArray 24) = V3 at *
        refine wpS_e rfl (by rfl) (fun K hK => ?_)
        refine wp_append_sumGr (base := V.heap.size) (B := V3.heap.size) (v0 := v1) (xs := (link nd e0 (l.drop k) (m - k) false).map cellsOf) (ys := []) _ _ rfl (by rfl) (Grown.start H3.out.1 (Nat.le_refl _)) H3.out.2.1.size (Nat.le_refl _) ⟨V2.heap.size, 0, none⟩ 1 (rt (l.take k)) (by rfl) (fun j u hj => by rw [Addr.add_mid]; exact H3.out.2.2 j u hj) (by rw [List.length_map]; have h9 := link_most (l.drop k) (m - k) false; rw [List.length_drop] at h9; have := HS.out; simp; omega) ?_
        intro v4 V4 hg4 hk4
        have hb4 := hk4.below (B := V.heap.size) H3.out.2.1.size (fun k h => by
          rcases h with h | h
          · exact (H3.out.1.lt k h).1
          · exact Nat.le_trans H3.out.2.1.size h)
        have hl4 := hg4.now
        rw [List.nil_append, ← List.map_singleton (f := cellsOf), ← List.map_append, ← HPL.out.2 hmk] at hl4
        have H4 := Lib.hid (And.intro hl4 (HD.out.trans ((H3.out.2.1.trans hb4).mono HD.out.size)))
        clear hg4 hk4 hb4 hl4 H1 H2 H3
        refine hK _ _ ?_; clear hK K
        try simp only [Act.put, List.setIfInBounds_toArray, List.set_cons_zero, List.set_cons_succ]
        iterate 1
          refine wpS_t rfl (v := ?_) (by rfl) (fun W => ?_) ?_
          rotate_left
          · go_simp
            try rfl
          try simp only [Act.put, List.setIfInBounds_toArray, List.set_cons_zero, List.set_cons_succ]
        refine wpS_done ?_
        go_wp2_with fail
        refine bodyPost_ret (results_tmp rfl _ _ _) rfl ?_
        exact ⟨_, rfl, by have := H4.out.1; rw [HSZ.out] at this; exact this, H4.out.2⟩
end Go.Proofs.YtdkcndgehgmadaaGreatDoor
-- Walks: the links of a beginning, the program's and the document's, whatever the beginning.
open Go Go.RowKit Alm
namespace Go.Proofs.YtdkcndgehgmadaaGreatDoor
theorem off_facts {z : Int} {n : Nat} (h : z < 1 ∨ (n : Int) < z) : (z < 1 ∧ decide (z < 1) = true) ∨ (¬ z < 1 ∧ decide (z < 1) = false ∧ (n : Int) < z ∧ decide ((n : Int) < z) = true) := by
  by_cases hz : z < 1
  · exact .inl ⟨hz, decide_eq_true hz⟩
  · have hn := h.resolve_left hz
    exact .inr ⟨hz, decide_eq_false hz, hn, decide_eq_true hn⟩
theorem lof_out (l : List Sum) (v : Value) (z : Int) (w : World) (hv : SumsAt w v l) (h : z < 1 ∨ (l.length : Int) < z) : Calls Tryz.prog 24 #[v, .int .i64 z] w fun e w' => e = .returned (.tuple #[.slice none 0 0, .int .i64 1]) ∧ w = w' := by
  obtain ⟨a, cap, rfl, _, _, _⟩ := hv
  rcases off_facts h with ⟨h1, h2⟩ | ⟨h1, h2, h3, h4⟩
  · clear h
    go_enter Tryz.func24, Tryz.ntmps24
    go_wp2_with fail
    exact bodyPost_ret (results_tmp2 rfl _ _ _) rfl ⟨rfl, rfl⟩
  · clear h
    go_enter Tryz.func24, Tryz.ntmps24
    go_wp2_with fail
    exact bodyPost_ret (results_tmp2 rfl _ _ _) rfl ⟨rfl, rfl⟩
theorem rlof_out (l : List Sum) (v : Value) (z : Int) (w : World) (hv : SumsAt w v l) (h : z < 1 ∨ (l.length : Int) < z) : Calls Tryz.prog 25 #[v, .int .i64 z] w fun e w' => e = .returned (.tuple #[.slice none 0 0, .int .i64 1]) ∧ w = w' := by
  obtain ⟨a, cap, rfl, _, _, _⟩ := hv
  rcases off_facts h with ⟨h1, h2⟩ | ⟨h1, h2, h3, h4⟩
  · clear h
    go_enter Tryz.func25, Tryz.ntmps25
    go_wp2_with fail
    exact bodyPost_ret (results_tmp2 rfl _ _ _) rfl ⟨rfl, rfl⟩
  · clear h
    go_enter Tryz.func25, Tryz.ntmps25
    go_wp2_with fail
    exact bodyPost_ret (results_tmp2 rfl _ _ _) rfl ⟨rfl, rfl⟩
theorem rlof_in (l : List Sum) (v : Value) (m : Nat) (w : World) (hv : SumsAt w v l) (hm1 : 1 ≤ m) (hm : m ≤ l.length) (hl : l.length < 1000000) : Calls Tryz.prog 25 #[v, .int .i64 (m : Int)] w fun e w' => ∃ v', e = .returned (.tuple #[v', .int .i64 0]) ∧ SumsAt w' v' (link nd e0 l m true) ∧ Below w.heap.size w w' := by
  have HP := Lib.hid (rlink_go l.length l v m true w (Nat.le_refl _) hv hm1 hm hl)
  obtain ⟨a, cap, rfl, _, _, _⟩ := hv
  obtain ⟨n, hn⟩ : ∃ n, n = l.length := ⟨_, rfl⟩
  rw [← hn] at hm HP ⊢
  have h1 : ¬ (m : Int) < 1 := by omega
  have h2 : decide ((m : Int) < 1) = false := decide_eq_false h1
  have h3 : ¬ (n : Int) < (m : Int) := by omega
  have h4 : decide ((n : Int) < (m : Int)) = false := decide_eq_false h3
  have h5 : decide (n < m) = false := decide_eq_false (by omega)
  clear hm hl hn hm1
  go_enter Tryz.func25, Tryz.ntmps25
  go_wp2_with (go_at_call 106; refine HP.out.mono ?_; rintro e w2 ⟨v', rfl, hlie, hb⟩; refine Hid.out ?_)
  refine Lib.hid ?_
  have H2 := Lib.hid (And.intro (lie_sums hlie) hb)
  clear hlie hb
  go_wp2_with fail
  refine bodyPost_ret (results_tmp2 rfl _ _ _) rfl ?_
  exact ⟨_, rfl, H2.out⟩
noncomputable def linkOf (l : List Sum) (z : Int) : List Sum := if 1 ≤ z ∧ z ≤ l.length then link nd e0 l z.toNat true else []
noncomputable def errOfL (l : List Sum) (z : Int) : Int := if 1 ≤ z ∧ z ≤ l.length then 0 else 1
theorem linkOf_len (l : List Sum) (z : Int) : (linkOf l z).length ≤ l.length + 1 := by
  unfold linkOf
  split
  · exact link_most l _ true
  · simp
theorem lof_any (l : List Sum) (v : Value) (z : Int) (w : World) (hv : SumsAt w v l) (hl : l.length < 1000000) : Calls Tryz.prog 24 #[v, .int .i64 z] w fun e w' => ∃ x, e = .returned (.tuple #[x, .int .i64 (errOfL l z)]) ∧ Lie w' w.heap.size 32 x ((linkOf l z).map cellsOf) ∧ Below w.heap.size w w' := by
  by_cases h : 1 ≤ z ∧ z ≤ l.length
  · obtain ⟨m, rfl⟩ : ∃ m : Nat, z = (m : Int) := ⟨z.toNat, by omega⟩
    rw [errOfL, linkOf, if_pos h, if_pos h]
    refine (linksOf_any l m v w hv (by omega) (by omega) hl).mono ?_
    rintro e w' ⟨v', rfl, hn, hb⟩
    exact ⟨v', rfl, new_lie hn, hb⟩
  · rw [errOfL, linkOf, if_neg h, if_neg h]
    refine (lof_out l v z w hv (by omega)).mono ?_
    rintro e w' ⟨rfl, rfl⟩
    exact ⟨_, rfl, .inl ⟨rfl, rfl⟩, Below.refl _ _⟩
theorem rlof_any (l : List Sum) (v : Value) (z : Int) (w : World) (hv : SumsAt w v l) (hl : l.length < 1000000) : Calls Tryz.prog 25 #[v, .int .i64 z] w fun e w' => ∃ x, e = .returned (.tuple #[x, .int .i64 (errOfL l z)]) ∧ SumsAt w' x (linkOf l z) ∧ Below w.heap.size w w' := by
  by_cases h : 1 ≤ z ∧ z ≤ l.length
  · obtain ⟨m, rfl⟩ : ∃ m : Nat, z = (m : Int) := ⟨z.toNat, by omega⟩
    rw [errOfL, linkOf, if_pos h, if_pos h]
    refine (rlof_in l v m w hv (by omega) (by omega) hl).mono ?_
    rintro e w' ⟨v', rfl, hn, hb⟩
    exact ⟨v', rfl, hn, hb⟩
  · rw [errOfL, linkOf, if_neg h, if_neg h]
    refine (rlof_out l v z w hv (by omega)).mono ?_
    rintro e w' ⟨rfl, rfl⟩
    exact ⟨_, rfl, lie_sums (l := []) (base := w.heap.size) (.inl ⟨rfl, rfl⟩), Below.refl _ _⟩
theorem lc_any (m n : Nat) (a b : Sum) (v : Value) (p : List Sum) (w : World) (hv : SumsAt w v p) (hn : n < 18446744073709551616) : Calls Tryz.prog 26 #[.int .u64 (m : Int), .int .u64 (n : Int), sv a, sv b, v] w fun e w' => e = .returned (.bool (letBe m n a b p)) ∧ Below w.heap.size w w' := by
  by_cases h : 1 ≤ m ∧ m ≤ n
  · exact check_in m n a b v p w hv h.1 h.2 (.inr hn)
  · have hp : letBe m n a b p = false := by
      unfold letBe
      by_cases h1 : 1 ≤ m
      · rw [decide_eq_true h1, decide_eq_false (fun h2 => h ⟨h1, h2⟩)]; rfl
      · rw [decide_eq_false h1]; rfl
    rw [hp]
    exact check_out m n a b v p w hv (by omega)
end Go.Proofs.YtdkcndgehgmadaaGreatDoor
-- The document's two sums as a value: loaded, stored, made; what it leads to, taken from it.
open Go Go.RowKit Alm
namespace Go.Proofs.YtdkcndgehgmadaaGreatDoor
theorem infoBothR : (Tryz.prog.info? 119).map (·.size) = some 64 := by kernel_rfl
theorem infoBothZR : (Tryz.prog.info? 119).map (fun i => i.zero.map fun z => z.cells.size) = some (some 64) := by kernel_rfl
theorem wpList_load_bothR {ops : Array Oper} {rest : List Oper} {op : Oper} {a : Act} {w : World} {Q : Exit → Act → World → Prop} (hgd : op.guard = none) (x : Operand) (ho : op.op = .load 119 x)
    (b o : Nat) (hx : a.eval x = .pointer (some ⟨b, o, none⟩)) (s t : Sum) (hc : w.rangeAt b o (cells2 s t))
    (h : wpList Tryz.prog ops Q rest (a.put op.dst (bv s t)) w) : wpList Tryz.prog ops Q (op :: rest) a w :=
  wpList_load_mid hgd _ x ho b o hx (cells2 s t) _ hc Tryz.underlying119 rfl (by rw [length_cells2]; exact infoBothR) h
theorem wpList_store_bothR {ops : Array Oper} {rest : List Oper} {op : Oper} {a : Act} {w : World} {Q : Exit → Act → World → Prop} (hgd : op.guard = none) (x y : Operand) (ho : op.op = .store 119 x y)
    (b o : Nat) (s t : Sum) (hx : a.eval x = .pointer (some ⟨b, o, none⟩)) (hy : a.eval y = bv s t) (ht : w.there b o 64)
    (h : wpList Tryz.prog ops Q rest (a.put op.dst undef) (w.setCells b o (cells2 s t))) : wpList Tryz.prog ops Q (op :: rest) a w :=
  wpList_store_mid hgd _ x y ho b o _ hx hy (by simpa [length_cells2] using ht) (by simpa [length_cells2] using infoBothR) (all_cells2 s t) h
theorem wp_store_bothR {op : Oper} {a : Act} {w : World} {K : Act → World → Prop} {Q : Exit → Act → World → Prop} (x y : Operand) (ho : op.op = .store 119 x y)
    (b o : Nat) (s t : Sum) (hx : a.eval x = .pointer (some ⟨b, o, none⟩)) (hy : a.eval y = bv s t) (ht : w.there b o 64) (h : K (a.put op.dst undef) (w.setCells b o (cells2 s t))) : op.wp Tryz.prog a w K Q :=
  wp_store_mid _ x y ho b o _ hx hy (by simpa [length_cells2] using ht) (by simpa [length_cells2] using infoBothR) (all_cells2 s t) h
theorem build_both64 (c0 c1 c2 c3 c4 c5 c6 c7 c8 c9 c10 c11 c12 c13 c14 c15 c16 c17 c18 c19 c20 c21 c22 c23 c24 c25 c26 c27 c28 c29 c30 c31 d0 d1 d2 d3 d4 d5 d6 d7 d8 d9 d10 d11 d12 d13 d14 d15 d16 d17 d18 d19 d20 d21 d22 d23 d24 d25 d26 d27 d28 d29 d30 d31 : Value) (w : World) : (Instr.build 119 #[(0, .agg #[c0, c1, c2, c3, c4, c5, c6, c7, c8, c9, c10, c11, c12, c13, c14, c15, c16, c17, c18, c19, c20, c21, c22, c23, c24, c25, c26, c27, c28, c29, c30, c31]), (1, .agg #[d0, d1, d2, d3, d4, d5, d6, d7, d8, d9, d10, d11, d12, d13, d14, d15, d16, d17, d18, d19, d20, d21, d22, d23, d24, d25, d26, d27, d28, d29, d30, d31])]).run Tryz.prog w = .ok (.agg #[c0, c1, c2, c3, c4, c5, c6, c7, c8, c9, c10, c11, c12, c13, c14, c15, c16, c17, c18, c19, c20, c21, c22, c23, c24, c25, c26, c27, c28, c29, c30, c31, d0, d1, d2, d3, d4, d5, d6, d7, d8, d9, d10, d11, d12, d13, d14, d15, d16, d17, d18, d19, d20, d21, d22, d23, d24, d25, d26, d27, d28, d29, d30, d31]) w := by kernel_rfl
theorem build_both_ (l : List Value) (h : l.length = 32) (r : List Value) (hr : r.length = 32) (w : World) : (Instr.build 119 #[(0, .agg l.toArray), (1, .agg r.toArray)]).run Tryz.prog w = .ok (.agg (l ++ r).toArray) w := by
  match l, h with
  | [c0, c1, c2, c3, c4, c5, c6, c7, c8, c9, c10, c11, c12, c13, c14, c15, c16, c17, c18, c19, c20, c21, c22, c23, c24, c25, c26, c27, c28, c29, c30, c31], _ => match r, hr with
    | [d0, d1, d2, d3, d4, d5, d6, d7, d8, d9, d10, d11, d12, d13, d14, d15, d16, d17, d18, d19, d20, d21, d22, d23, d24, d25, d26, d27, d28, d29, d30, d31], _ => exact build_both64 c0 c1 c2 c3 c4 c5 c6 c7 c8 c9 c10 c11 c12 c13 c14 c15 c16 c17 c18 c19 c20 c21 c22 c23 c24 c25 c26 c27 c28 c29 c30 c31 d0 d1 d2 d3 d4 d5 d6 d7 d8 d9 d10 d11 d12 d13 d14 d15 d16 d17 d18 d19 d20 d21 d22 d23 d24 d25 d26 d27 d28 d29 d30 d31 w
theorem build_bothR (x y : Sum) (w : World) : (Instr.build 119 #[(0, .agg (cellsOf x).toArray), (1, .agg (cellsOf y).toArray)]).run Tryz.prog w = .ok (bv x y) w := build_both_ _ (length_cellsOf x) _ (length_cellsOf y) w
theorem build_both0 (w : World) : (Instr.build 119 #[]).run Tryz.prog w = .ok (bv zeroSum zeroSum) w := by kernel_rfl
theorem wpList_build_bothR {ops : Array Oper} {rest : List Oper} {op : Oper} {a : Act} {w : World} {Q : Exit → Act → World → Prop} (hgd : op.guard = none) (parts : Array (Nat × Operand)) (ho : op.op = .build 119 parts)
    (x y : Sum) (hp : (parts.toList.map fun (i, x) => (i, a.eval x)) = [(0, sv x), (1, sv y)])
    (h : wpList Tryz.prog ops Q rest (a.put op.dst (bv x y)) w) : wpList Tryz.prog ops Q (op :: rest) a w :=
  wpList_build_by hgd 119 parts ho (bv x y) (fun W => by
    have : (parts.map fun (i, x) => (i, a.eval x)) = #[(0, sv x), (1, sv y)] := by
      apply Array.toList_inj.1
      rw [Array.toList_map]; exact hp
    rw [this]
    exact build_bothR x y W) h
theorem exec_build_bothR {f : Operand → Value} {o : Oper} (parts : Array (Nat × Operand)) (ho : o.op = .build 119 parts) (x y : Sum) (hp : (parts.toList.map fun (i, x) => (i, f x)) = [(0, sv x), (1, sv y)]) (W : World) :
    (execOp f o).run Tryz.prog W = .ok (.value (bv x y)) W := by
  have : (parts.map fun (i, x) => (i, f x)) = #[(0, sv x), (1, sv y)] := by
    apply Array.toList_inj.1
    rw [Array.toList_map]; exact hp
  unfold execOp
  simp only [ho, Sem.run_bind, Sem.run_pure, Result.andThen_ok, this, build_bothR]
theorem wpList_var_bothR {ops : Array Oper} {rest : List Oper} {op : Oper} {a : Act} {w : World} {C : Array Value} {t : TypeId} {Q : Exit → Act → World → Prop} (hC : C.size = 64) (hgd : op.guard = none) (x y : Operand) (ho : op.op = .store 119 x y)
    (s u : Sum) (hx : a.eval x = .pointer (some ⟨w.heap.size, 0, none⟩)) (hy : a.eval y = bv s u)
    (h : ∀ W', Below w.heap.size w W' → W'.rangeAt w.heap.size 0 (cells2 s u) → w.heap.size < W'.heap.size → wpList Tryz.prog ops Q rest (a.put op.dst undef) W') : wpList Tryz.prog ops Q (op :: rest) a (w.alloc (.cells C t)) := by
  have ht : (w.alloc (.cells C t)).there w.heap.size 0 64 := by rw [← hC]; exact there_new _ _ _
  have ht2 := World.there_setCells ht w.heap.size 0 (cells2 s u)
  exact wpList_store_bothR hgd x y ho w.heap.size 0 s u hx hy ht (h _ (setCells_below _ (Nat.le_refl _) _ 0 _ _ (al (Below.refl _ _) _)) (range_stored _ _ _ _ (by rw [length_cells2]; exact ht2)) (there_lt ht2 (by omega)))
theorem results_both {fn : Func} {p q r : Tmp} (h : fn.results = #[.cell p 119, .tmp q, .tmp r]) (tmps : Array Value) (w : World) (b : Nat) (s t : Sum)
    (hp : tmps.getD p undef = .pointer (some ⟨b, 0, none⟩)) (ht : w.there b 0 64) :
    (results fn tmps).run Tryz.prog (w.setCells b 0 (cells2 s t)) = .ok (.tuple #[bv s t, tmps.getD q undef, tmps.getD r undef]) (w.setCells b 0 (cells2 s t)) := by
  have hp' : tmps[p]?.getD undef = .pointer (some ⟨b, 0, none⟩) := by simpa using hp
  have hc := range_stored b (cells2 s t) 0 w (by rw [length_cells2]; exact World.there_setCells ht _ _ _)
  simp [results, h, hp', asAddr, run_loadVar_mid _ b 0 119 (cells2 s t) _ hc Tryz.underlying119 rfl (by rw [length_cells2]; exact infoBothR)]
/-- What leads has made. -/
structure LLIn (w w2 : World) (a : Sum) : Prop where
  leaf : w2.rangeAt w.heap.size 0 (cellsOf a)
  res : w2.there (w.heap.size + 1) 0 64
  below : Below w.heap.size w w2
  size : w2.heap.size = w.heap.size + 2
theorem llin_start (w : World) (a : Sum) (t : TypeId) : LLIn w ((w.alloc (.cells (cellsOf a).toArray 24)).alloc (.cells (cells2 zeroSum zeroSum).toArray t)) a := by
  have b1 : Below (w.alloc (.cells (cellsOf a).toArray 24)).heap.size (w.alloc (.cells (cellsOf a).toArray 24)) ((w.alloc (.cells (cellsOf a).toArray 24)).alloc (.cells (cells2 zeroSum zeroSum).toArray t)) := Alm.al (Below.refl _ _) _
  have b0 : Below w.heap.size w (w.alloc (.cells (cellsOf a).toArray 24)) := Alm.al (Below.refl _ _) _
  refine ⟨(Keeps.of_below (X := fun _ => False) b1).range (range_new w _ _ _ rfl) (fun h => h), ?_, b0.trans (b1.mono b0.size), by rw [World.size_alloc, World.size_alloc]⟩
  have := there_new (w.alloc (.cells (cellsOf a).toArray 24)) (cells2 zeroSum zeroSum).toArray t
  rw [World.size_alloc] at this
  exact this
/-- What leads answers. -/
def LLOf (B : Nat) (w : World) (r : Option ((Sum × Sum) × List Sum)) (e : Ending) (w' : World) : Prop := Below w.heap.size w w' ∧ match r with
  | some ((x, y), q) => ∃ v, e = .returned (.tuple #[bv x y, v, .bool true]) ∧ SumsAt w' v q ∧ (q ≠ [] → ∀ k, v.ownBlock = some k → k < B)
  | none => ∃ x y, e = .returned (.tuple #[bv x y, .slice none 0 0, .bool false])
end Go.Proofs.YtdkcndgehgmadaaGreatDoor
-- Walks: almonerref11.leads, where both sizes are one.
open Go Go.RowKit Alm
namespace Go.Proofs.YtdkcndgehgmadaaGreatDoor
/-- A list that is not empty: its first sum, and the rest of it. -/
theorem tail_form {w : World} {v : Value} {s : Sum} {r : List Sum} (h : SumsAt w v (s :: r)) : ∃ b o cap z n o1, v = .slice (some ⟨b, o, none⟩) z cap ∧ ((0 : Int) < (z : Int) ∧ ((z : Int) == 0) = false ∧ ¬ z = 0 ∧ 0 < z) ∧ w.rangeAt b o (cellsOf s) ∧ (∀ W : World, (Instr.slice 22 (.slice (some ⟨b, o, none⟩) z cap) (some (.int .i64 1)) none none).run Tryz.prog W = .ok (.slice (some ⟨b, o1, none⟩) n (cap - 1)) W) ∧ (∀ (X : Nat → Prop) W, Keeps X w W → ¬ X b → SumsAt W (.slice (some ⟨b, o1, none⟩) n (cap - 1)) r) := by
  obtain ⟨b, o, cap, rfl, hc1, hc2, hr⟩ := sums_form8 h (by simp)
  have hs := range_at hr (i := 0) (by simp)
  rw [Nat.zero_mul, Nat.add_zero] at hs
  have hs : w.rangeAt b o (cellsOf s) := hs
  have hrr := range_drop hr 1 (by simp)
  rw [Nat.one_mul] at hrr
  have hrr : w.rangeAt b (o + 32) (cellsAll r) := hrr
  simp only [List.length_cons] at hc1 ⊢
  obtain ⟨n, hn⟩ : ∃ n, n = r.length := ⟨_, rfl⟩
  rw [← hn] at hc1
  unfold maxLen at hc2
  refine ⟨b, o, cap, n + 1, n, if cap = 1 then o else o + 32, by rw [hn], ⟨by omega, by rw [beq_eq_false_iff_ne]; omega, by omega, by omega⟩, hs, ?_, ?_⟩
  · intro W
    have n1 : (1 : Int) ≤ (n : Int) + 1 := by omega
    have n2 : (n : Int) + 1 ≤ (cap : Int) := by omega
    have n3 : (1 : Int) ≤ (cap : Int) := by omega
    by_cases hcap : cap = 1
    · have hn0 : n = 0 := by omega
      clear hn hr hs hrr h
      rw [if_pos hcap]
      subst hcap hn0
      go_simp
    · rw [if_neg hcap]
      have kc4 : ¬ (cap = 1) := hcap
      clear hn hr hs hrr h
      go_simp
  · intro X W hk hxb
    by_cases hcap : cap = 1
    · rw [if_pos hcap]
      have : r = [] := List.length_eq_zero_iff.1 (by omega)
      exact ⟨_, cap - 1, by rw [hn], by omega, by unfold maxLen; omega, .inl this⟩
    · rw [if_neg hcap]
      exact ⟨_, cap - 1, by rw [hn], by omega, by unfold maxLen; omega, .inr ⟨b, o + 32, rfl, hk.range hrr hxb⟩⟩
set_option maxRecDepth 100000 in
set_option maxHeartbeats 1000000 in
theorem ll_edge (B : Nat) (a : Sum) (n : Nat) (p : List Sum) (v : Value) (w : World) (hv : SumsAt w v p) (hB : p ≠ [] → ∀ k, v.ownBlock = some k → k < B) : Calls Tryz.prog 110 #[.int .u64 (n : Int), .int .u64 (n : Int), sv a, v, .bool true] w (LLOf B w (some ((a, a), p))) := by
  have HV := Lib.hid (And.intro hv hB)
  clear hB
  obtain ⟨ad, cap, rfl, _, _, _⟩ := hv
  have HI := Lib.hid (llin_start w a)
  go_enter Tryz.func110, Tryz.ntmps110
  refine wp_cut 1 ?_
  intro T hT
  dsimp only [cutN]
  replace hT := Lib.hid hT
  go_wp2_with fail
  refine hT.out _ _ ?_
  clear hT
  dsimp only [dropN]
  change Code.wp _ _ _ _ ((w.alloc (.cells (cellsOf a).toArray 24)).alloc (.cells (cells2 zeroSum zeroSum).toArray 119))
  have H2 := Lib.hid (HI.out 119)
  generalize ((w.alloc (.cells (cellsOf a).toArray 24)).alloc (.cells (cells2 zeroSum zeroSum).toArray 119)) = w2 at *
  go_wp2_with (first
    | (refine wpList_load_sum rfl _ rfl w.heap.size 0 rfl a H2.out.leaf ?_)
    | (refine wpList_build_bothR rfl _ rfl a a (by rfl) ?_)
    | (refine wpList_store_bothR rfl _ _ rfl (w.heap.size + 1) 0 a a rfl rfl H2.out.res ?_))
  refine bodyPost_ret (results_both Tryz.results110 _ _ _ _ _ rfl H2.out.res) rfl ?_
  have hb := setCells_below (w.heap.size + 1) (by omega) (cells2 a a) 0 _ _ H2.out.below
  exact ⟨hb, _, rfl, HV.out.1.below hb (Nat.le_refl _), HV.out.2⟩
set_option maxRecDepth 100000 in
set_option maxHeartbeats 1000000 in
theorem ll_few (B : Nat) (a : Sum) (n : Nat) (v : Value) (w : World) (hv : SumsAt w v []) : Calls Tryz.prog 110 #[.int .u64 (n : Int), .int .u64 (n : Int), sv a, v, .bool false] w (LLOf B w none) := by
  obtain ⟨ad, cap, rfl, _, _, _⟩ := hv
  have HI := Lib.hid (llin_start w a)
  have hb0 := build_both0
  go_enter Tryz.func110, Tryz.ntmps110
  refine wp_cut 1 ?_
  intro T hT
  dsimp only [cutN]
  replace hT := Lib.hid hT
  go_wp2_with fail
  refine hT.out _ _ ?_
  clear hT
  dsimp only [dropN]
  change Code.wp _ _ _ _ ((w.alloc (.cells (cellsOf a).toArray 24)).alloc (.cells (cells2 zeroSum zeroSum).toArray 119))
  have H2 := Lib.hid (HI.out 119)
  generalize ((w.alloc (.cells (cellsOf a).toArray 24)).alloc (.cells (cells2 zeroSum zeroSum).toArray 119)) = w2 at *
  go_wp2_with (first
    | (refine wpList_store_bothR rfl _ _ rfl (w.heap.size + 1) 0 zeroSum zeroSum rfl rfl H2.out.res ?_))
  refine bodyPost_ret (results_both Tryz.results110 _ _ _ _ _ rfl H2.out.res) rfl ?_
  exact ⟨setCells_below (w.heap.size + 1) (by omega) (cells2 zeroSum zeroSum) 0 _ _ H2.out.below, _, _, rfl⟩
set_option maxRecDepth 100000 in
set_option maxHeartbeats 1000000 in
theorem ll_told (B : Nat) (a s : Sum) (r : List Sum) (n : Nat) (v : Value) (w : World) (hv : SumsAt w v (s :: r)) (hB : s :: r ≠ [] → ∀ k, v.ownBlock = some k → k < B) : Calls Tryz.prog 110 #[.int .u64 (n : Int), .int .u64 (n : Int), sv a, v, .bool false] w (LLOf B w (some ((s, s), r))) := by
  obtain ⟨b, o, cap, z, n9, o1, rfl, ⟨hz1, hz2, hz3, hz4⟩, hs, hsl, hrest⟩ := tail_form hv
  have HBB := Lib.hid (hB (by simp) b rfl)
  clear hB
  have HS := Lib.hid hs
  have HR := Lib.hid hrest
  have HSL := Lib.hid hsl
  clear hv hs hrest hsl
  have HI := Lib.hid (llin_start w a)
  go_enter Tryz.func110, Tryz.ntmps110
  refine wp_cut 1 ?_
  intro T hT
  dsimp only [cutN]
  replace hT := Lib.hid hT
  go_wp2_with fail
  refine hT.out _ _ ?_
  clear hT
  dsimp only [dropN]
  change Code.wp _ _ _ _ ((w.alloc (.cells (cellsOf a).toArray 24)).alloc (.cells (cells2 zeroSum zeroSum).toArray 119))
  have H2 := Lib.hid (HI.out 119)
  generalize ((w.alloc (.cells (cellsOf a).toArray 24)).alloc (.cells (cells2 zeroSum zeroSum).toArray 119)) = w2 at *
  go_wp2_with fail
  have hd := (Below.refl w2.heap.size w2).drew
  have hb2 := H2.out.below.trans (hd.mono H2.out.below.size)
  have HD := Lib.hid (And.intro hb2 (And.intro ((Keeps.of_below (X := fun _ => False) hd).there H2.out.res (by decide) (fun h => h)) (brq hb2 HS.out)))
  clear hd hb2 HI
  refine wp_region_sched (fun V => V.rangeAt b o (cellsOf s)) [.t 0, .t 1, .t 3, .t 4, .t 7, .t 8, .s 2, .e 5 true, .t 6, .e 9 false, .t 10, .t 11] (by kernel_rfl) (by kernel_rfl) (by intro c a d v w h; cases d <;> exact h) ?_
  generalize w2.drew = V at *
  iterate 5
    refine wpS_t rfl (v := ?_) (by rfl) (fun W => ?_) ?_
    rotate_left
    · go_simp
      try rfl
    try simp only [Act.put, List.setIfInBounds_toArray, List.set_cons_zero, List.set_cons_succ]
  have hsl := HSL.out
  iterate 1
    refine wpS_t rfl (v := ?_) (by rfl) (fun W => ?_) ?_
    rotate_left
    · go_simp
      try rfl
    try simp only [Act.put, List.setIfInBounds_toArray, List.set_cons_zero, List.set_cons_succ]
  clear hsl
  refine wpS_load_sum (by exact HD.out.2.2) rfl (by rfl) _ (by rfl) b o (by rfl) s (fun V hV => hV) ?_
  try simp only [Act.put, List.setIfInBounds_toArray, List.set_cons_zero, List.set_cons_succ]
  refine wpS_k rfl (by rfl) (fun K hK => ?_)
  refine wp_load_sum _ (by rfl) b o (by rfl) s HD.out.2.2 ?_
  refine hK _ _ ⟨by exact HD.out.2.2, ?_⟩; clear hK K
  try simp only [Act.put, List.setIfInBounds_toArray, List.set_cons_zero, List.set_cons_succ]
  refine wpS_t rfl (v := bv s s) (by rfl) (fun W => exec_build_bothR _ rfl s s (by rfl) W) ?_
  try simp only [Act.put, List.setIfInBounds_toArray, List.set_cons_zero, List.set_cons_succ]
  refine wpS_e rfl (by rfl) (fun K hK => ?_)
  refine wp_store_bothR _ _ (by rfl) (w.heap.size + 1) 0 s s (by rfl) (by rfl) HD.out.2.1 ?_
  refine hK _ _ ?_; clear hK K
  try simp only [Act.put]
  iterate 2
    refine wpS_t rfl (v := ?_) (by rfl) (fun W => ?_) ?_
    rotate_left
    · go_simp
      try rfl
    try simp only [Act.put, List.setIfInBounds_toArray, List.set_cons_zero, List.set_cons_succ]
  refine wpS_done ?_
  go_wp2_with fail
  refine bodyPost_ret (results_both Tryz.results110 _ _ _ _ _ rfl HD.out.2.1) rfl ?_
  have hb := setCells_below (w.heap.size + 1) (by omega) (cells2 s s) 0 _ _ HD.out.1
  exact ⟨hb, _, rfl, HR.out (fun _ => False) _ (Keeps.of_below hb) (fun h => h), fun _ k hk => by
    obtain rfl : b = k := by simpa [Value.ownBlock] using hk
    exact HBB.out⟩
end Go.Proofs.YtdkcndgehgmadaaGreatDoor
