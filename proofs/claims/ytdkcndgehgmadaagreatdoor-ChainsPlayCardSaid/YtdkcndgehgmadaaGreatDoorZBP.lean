/-
  Joined: H5, H6, CH11.
-/
import Derived.Test.YtdkcndgehgmadaaGreatDoorZBM
import Derived.Test.YtdkcndgehgmadaaGreatDoorZBN
import Derived.Test.YtdkcndgehgmadaaGreatDoorZBC
-- Walks: the document's paths: path, Of.
open Go Go.RowKit Alm
namespace Go.Proofs.YtdkcndgehgmadaaGreatDoor
theorem wp_append_sumGr {w : World} {o : Oper} {a : Act} {K : Act → World → Prop} {Q : Exit → Act → World → Prop} (s x : Operand)
    (ho : o.op = .call { callee := .builtin .append, args := #[s, x], argTypes := #[22, 22] })
    {base B : Nat} {v0 v : Value} {xs ys : List (List Value)} (hs : a.eval s = v) (hG : Grown w base 32 B v0 xs v ys) (hbB : base ≤ B) (hB : B ≤ w.heap.size)
    (ad : Addr) (c : Nat) (y : Sum) (hx : a.eval x = .slice (some ad) 1 c) (hc : ∀ j u, (cellsOf y)[j]? = some u → w.cell? (ad.add j) = some u)
    (hl : xs.length + ys.length < 1000000)
    (h : ∀ v' w', Grown w' base 32 B v0 xs v' (ys ++ [cellsOf y]) → Keeps (fun k => v0.ownBlock = some k ∨ B ≤ k) w w' → K (a.put o.dst v') w') : o.wp Tryz.prog a w K Q := by
  obtain ⟨i, z, hi, hz, h1, h2, h3⟩ := info_sumB
  exact wp_append_grown s x _ ho _ i z 32 32 Tryz.underlying22 hi hz h1 h2 h3 (by omega) (by omega) hs hG hbB hB ad c (cellsOf y) hx (length_cellsOf y) hc (oneCell_cellsOf y) hl fun v' w' g1 g2 g3 => h v' w' g1 g2
theorem wp_lit_sum {w : World} {o : Oper} {a : Act} {K : Act → World → Prop} {Q : Exit → Act → World → Prop} (x : Operand) (ho : o.op = .buildSlice 22 1 #[(0, x)]) (s : Sum) (hx : a.eval x = sv s)
    (h : K (a.put o.dst (.slice (some ⟨w.heap.size, 0, none⟩) 1 1)) (w.alloc (.cells (cellsOf s).toArray 24))) : o.wp Tryz.prog a w K Q := by
  obtain ⟨i, z, hi, hz, hs, hb, hzs⟩ := info_sumB
  refine wp_buildSlice _ 24 1 _ ho (cellsOf s).toArray i z Tryz.underlying22 hi hz (by rw [hs]; omega) (by rw [hs]; omega) ?_ h
  have hp : ((#[(0, x)] : Array (Nat × Operand)).toList.map fun (i, x) => (i, a.eval x)) = (([(sv s : Value)]).zipIdx 0).map fun x => (x.2, x.1) := by simp [hx]
  rw [Array.toList_map, hp, hs, Great.fill_whole (s := 32) (by omega) [(sv s : Value)] _ (fun v hv => by rw [List.mem_singleton.1 hv]; exact size_cellsOf s) (by simp)]
  simp [sv, Value.cells]
theorem path_nums {n k m cap : Nat} (h2 : 2 ≤ n) (hn : n < 1000000) (hk : k < n) (hm : m < n) (hc : n ≤ cap) : ((n : Int) == 1) = false ∧ (n : Int) % 18446744073709551616 = (n : Int) ∧ IntKind.u64.wrap (n : Int) = (n : Int) ∧ IntKind.i64.wrap (k : Int) = (k : Int) ∧ wrap64 (k : Int) = (k : Int) ∧ n < 18446744073709551616 ∧ (0 : Int) ≤ (k : Int) ∧ (k : Int) ≤ (cap : Int) ∧ (k : Int) ≤ (n : Int) ∧ (k ≤ m → wrap64 ((m : Int) - (k : Int)) = ((m - k : Nat) : Int) ∧ IntKind.i64.wrap ((m : Int) - (k : Int)) = ((m - k : Nat) : Int)) := by
  refine ⟨by simp; omega, by omega, by rw [IntKind.wrap_u64]; omega, by rw [IntKind.wrap_i64]; omega, by unfold wrap64; omega, by omega, by omega, by omega, by omega, fun h => ⟨by unfold wrap64; omega, by rw [IntKind.wrap_i64]; omega⟩⟩
theorem path_len (l : List Sum) (m : Nat) (h : l.length < 1000000) : (path nd e0 l m).length ≤ 20 := by
  rw [length_path]
  exact plen_le m l.length 20 (by omega)
set_option maxRecDepth 100000 in
set_option maxHeartbeats 1000000 in
theorem rpath_go : ∀ (d : Nat) (l : List Sum) (v : Value) (m : Nat) (w : World), l.length ≤ d → SumsAt w v l → m < l.length → l.length < 1000000 → Calls Tryz.prog 65 #[v, .int .i64 (m : Int)] w fun e w' => ∃ v', e = .returned v' ∧ Lie w' w.heap.size 32 v' ((path nd e0 l m).map cellsOf) ∧ Below w.heap.size w w' := by
  intro d
  induction d with
  | zero => intro l v m w hl hv hm; omega
  | succ d ih =>
    intro l v m w hl hv hm hn
    have h0 : l ≠ [] := by intro h; rw [h] at hm; simp at hm
    obtain ⟨b, o, cap, rfl, hc1, hc2, hr⟩ := sums_form8 hv h0
    by_cases h1 : l.length = 1
    · rw [h1]
      have hp := path_end l m (by omega)
      have HP := Lib.hid hp
      clear hl hv hm hn hr hp h1
      go_enter Tryz.func65, Tryz.ntmps65
      go_wp2_with fail
      refine bodyPost_ret (results_tmp rfl _ _ _) rfl ?_
      exact ⟨_, rfl, by rw [HP.out]; exact .inl ⟨rfl, rfl⟩, Below.refl _ _⟩
    · have hl2 : 2 ≤ l.length := by omega
      have hleft := fun hk => path_left_ l m (by omega : 1 < l.length) hk
      have hright := fun hk => path_right_ l m (by omega : 1 < l.length) hk
      obtain ⟨n, hn0⟩ : ∃ n, n = l.length := ⟨_, rfl⟩
      rw [← hn0] at hl2 hc1 hl h1 hm hn hleft hright ⊢
      obtain ⟨k, hkk⟩ : ∃ k, k = cut n := ⟨_, rfl⟩
      have hk : k < n := by rw [hkk]; exact cut_lt hl2
      have hk0 : 0 < k := by rw [hkk]; exact cut_pos n
      rw [← hkk] at hleft hright
      have n11 : ¬ cap = k := by omega
      have hs1 : SumsAt w (.slice (some ⟨b, o, none⟩) k cap) (l.take k) := sums_take hr (by omega) (by omega) hc2
      have hs2 : SumsAt w (.slice (some ⟨b, o + k * 32, none⟩) (n - k) (cap - k)) (l.drop k) := by
        have := sums_drop (cap := cap - k) hr (k := k) (by omega) (by omega) (by omega)
        rwa [← hn0] at this
      obtain ⟨n1, n2, n3, n4, n5, n6, n7, n8, n9, n10⟩ := path_nums hl2 hn hk hm hc1
      have hcut := fun W => rcut_any n W hl2 n6
      rw [← hkk] at hcut
      have HS := Lib.hid (And.intro hs1 (And.intro hs2 (And.intro hn0 (And.intro hk (And.intro hk0 (And.intro hl (And.intro hn hm)))))))
      have HC := Lib.hid hcut
      have HI := Lib.hid ih
      have HPL := Lib.hid (And.intro hleft hright)
      have H10 := Lib.hid n10
      have hpl := path_len l m (by rw [← hn0]; exact hn)
      clear hs1 hs2 hn0 hk hk0 hl hn hm hcut ih hleft hright n6 n10 hr hv hc1 hc2 hl2 h0 h1 hkk hpl
      go_enter Tryz.func65, Tryz.ntmps65
      go_wp2_with (go_at_call 103; refine Hid.out ?_)
      refine Lib.hid ?_
      first | rw [n3] | rw [n2] | skip
      refine (HC.out _).mono ?_
      rintro e w2 ⟨rfl, rfl⟩
      by_cases hmk : m < k
      · obtain ⟨d1, d2, _, d3⟩ := dec_lt hmk
        go_wp2_with fail
        have hd := (Below.refl w.heap.size w).drew
        have HD := Lib.hid hd
        clear n1 n2 n3 n4 n5
        refine wp_region_sched (fun V => Below w.drew.heap.size w.drew V) [.t 0, .t 1, .t 2, .t 3, .t 5, .t 6, .t 7, .e 4 false, .e 8 false, .e 9 false, .e 10 false, .t 11] (by kernel_rfl) (by kernel_rfl) (by intro c a d v w h; cases d <;> exact h) ?_
        have hsz : w.drew.heap.size = w.heap.size := rfl
        have HSZ := Lib.hid hsz
        clear hsz hd
        generalize w.drew = V at *
        iterate 7
          refine wpS_t rfl (v := ?_) (by rfl) (fun W => ?_) ?_
          rotate_left
          · go_simp
            try rfl
          try simp only [Act.put, List.setIfInBounds_toArray, List.set_cons_zero, List.set_cons_succ]
        refine wpS_e rfl (by rfl) (fun K hK => ?_)
        go_simp
        refine (HI.out (l.take k) _ m V (by rw [List.length_take]; have := HS.out; omega) (HS.out.1.below HD.out (Nat.le_refl _)) ?_ ?_).mono ?_
        · rw [List.length_take]; have := HS.out; omega
        · rw [List.length_take]; have := HS.out; omega
        rintro e V1 ⟨v1, rfl, hl1, hb1⟩
        have H1 := Lib.hid (And.intro hl1 hb1)
        clear hl1 hb1
        refine hK _ _ ?_; clear hK K
        try simp only [Act.put, List.setIfInBounds_toArray, List.set_cons_zero, List.set_cons_succ]
        refine wpS_e rfl (by rfl) (fun K hK => ?_)
        go_simp
        refine (rroot_any (l.drop k) _ V1 ((HS.out.2.1.below HD.out (Nat.le_refl _)).below H1.out.2 (Nat.le_refl _))).mono ?_
        rintro e V2 ⟨rfl, hb2⟩
        have H2 := Lib.hid (And.intro (H1.out.1.below hb2) (H1.out.2.trans (hb2.mono H1.out.2.size)))
        clear hb2
        refine hK _ _ ?_; clear hK K
        try simp only [Act.put, List.setIfInBounds_toArray, List.set_cons_zero, List.set_cons_succ]
        refine wpS_e rfl (by rfl) (fun K hK => ?_)
        refine wp_lit_sum _ rfl (rt (l.drop k)) (by rfl) ?_
        have hba := Alm.al (Below.refl V2.heap.size V2) (.cells (cellsOf (rt (l.drop k))).toArray 24)
        have H3 := Lib.hid (And.intro (H2.out.1.below hba) (And.intro (H2.out.2.trans (hba.mono H2.out.2.size)) (range_new V2 (cellsOf (rt (l.drop k))).toArray 24 _ rfl)))
        clear hba
        refine hK _ _ ?_; clear hK K
        try simp only [Act.put, List.setIfInBounds_toArray, List.set_cons_zero, List.set_cons_succ]
        generalize V2.alloc (.cells (cellsOf (rt (l.drop k))).toArray 24) = V3 at *
        refine wpS_e rfl (by rfl) (fun K hK => ?_)
        refine wp_append_sumGr (base := V.heap.size) (B := V3.heap.size) (v0 := v1) (xs := (path nd e0 (l.take k) (m)).map cellsOf) (ys := []) _ _ rfl (by rfl) (Grown.start H3.out.1 (Nat.le_refl _)) H3.out.2.1.size (Nat.le_refl _) ⟨V2.heap.size, 0, none⟩ 1 (rt (l.drop k)) (by rfl) (fun j u hj => by rw [Addr.add_mid]; exact H3.out.2.2 j u hj) (by rw [List.length_map]; have := path_len (l.take k) (m) (by rw [List.length_take]; have := HS.out; omega); simp; omega) ?_
        intro v4 V4 hg4 hk4
        have hb4 := hk4.below (B := V.heap.size) H3.out.2.1.size (fun k h => by
          rcases h with h | h
          · exact (H3.out.1.lt k h).1
          · exact Nat.le_trans H3.out.2.1.size h)
        have hl4 := hg4.now
        rw [List.nil_append, ← List.map_singleton (f := cellsOf), ← List.map_append, ← HPL.out.1 hmk] at hl4
        have H4 := Lib.hid (And.intro hl4 (HD.out.trans ((H3.out.2.1.trans hb4).mono HD.out.size)))
        clear hg4 hk4 hb4 hl4 H1 H2 H3
        refine hK _ _ ?_; clear hK K
        try simp only [Act.put, List.setIfInBounds_toArray, List.set_cons_zero, List.set_cons_succ]
        iterate 1
          refine wpS_t rfl (v := ?_) (by rfl) (fun W => ?_) ?_
          rotate_left
          · go_simp
            try rfl
          try simp only [Act.put, List.setIfInBounds_toArray, List.set_cons_zero, List.set_cons_succ]
        refine wpS_done ?_
        go_wp2_with fail
        refine bodyPost_ret (results_tmp rfl _ _ _) rfl ?_
        exact ⟨_, rfl, by have := H4.out.1; rw [HSZ.out] at this; exact this, H4.out.2⟩
      · obtain ⟨d1, d2, d3⟩ : decide (m < k) = false ∧ decide ((m : Int) < (k : Int)) = false ∧ ¬ (m : Int) < (k : Int) := ⟨by simpa using hmk, by simpa using hmk, by omega⟩
        go_wp2_with fail
        have hd := (Below.refl w.heap.size w).drew
        have HD := Lib.hid hd
        have hmk2 := (H10.out (Nat.le_of_not_lt hmk)).2
        clear n1 n2 n3 n4 n5
        refine wp_region_sched (fun V => Below w.drew.heap.size w.drew V) [.t 0, .t 1, .t 2, .t 3, .t 4, .t 5, .t 7, .t 8, .t 9, .e 6 false, .e 10 false, .e 11 false, .e 12 false, .t 13] (by kernel_rfl) (by kernel_rfl) (by intro c a d v w h; cases d <;> exact h) ?_
        have hsz : w.drew.heap.size = w.heap.size := rfl
        have HSZ := Lib.hid hsz
        clear hsz hd
        generalize w.drew = V at *
        iterate 9
          refine wpS_t rfl (v := ?_) (by rfl) (fun W => ?_) ?_
          rotate_left
          · go_simp
            try rfl
          try simp only [Act.put, List.setIfInBounds_toArray, List.set_cons_zero, List.set_cons_succ]
        refine wpS_e rfl (by rfl) (fun K hK => ?_)
        go_simp
        refine (HI.out (l.drop k) _ (m - k) V (by rw [List.length_drop]; have := HS.out; omega) (HS.out.2.1.below HD.out (Nat.le_refl _)) ?_ ?_).mono ?_
        · rw [List.length_drop]; have := HS.out; omega
        · rw [List.length_drop]; have := HS.out; omega
        rintro e V1 ⟨v1, rfl, hl1, hb1⟩
        have H1 := Lib.hid (And.intro hl1 hb1)
        clear hl1 hb1
        refine hK _ _ ?_; clear hK K
        try simp only [Act.put, List.setIfInBounds_toArray, List.set_cons_zero, List.set_cons_succ]
        refine wpS_e rfl (by rfl) (fun K hK => ?_)
        go_simp
        refine (rroot_any (l.take k) _ V1 ((HS.out.1.below HD.out (Nat.le_refl _)).below H1.out.2 (Nat.le_refl _))).mono ?_
        rintro e V2 ⟨rfl, hb2⟩
        have H2 := Lib.hid (And.intro (H1.out.1.below hb2) (H1.out.2.trans (hb2.mono H1.out.2.size)))
        clear hb2
        refine hK _ _ ?_; clear hK K
        try simp only [Act.put, List.setIfInBounds_toArray, List.set_cons_zero, List.set_cons_succ]
        refine wpS_e rfl (by rfl) (fun K hK => ?_)
        refine wp_lit_sum _ rfl (rt (l.take k)) (by rfl) ?_
        have hba := Alm.al (Below.refl V2.heap.size V2) (.cells (cellsOf (rt (l.take k))).toArray 24)
        have H3 := Lib.hid (And.intro (H2.out.1.below hba) (And.intro (H2.out.2.trans (hba.mono H2.out.2.size)) (range_new V2 (cellsOf (rt (l.take k))).toArray 24 _ rfl)))
        clear hba
        refine hK _ _ ?_; clear hK K
        try simp only [Act.put, List.setIfInBounds_toArray, List.set_cons_zero, List.set_cons_succ]
        generalize V2.alloc (.cells (cellsOf (rt (l.take k))).toArray 24) = V3 at *
        refine wpS_e rfl (by rfl) (fun K hK => ?_)
        refine wp_append_sumGr (base := V.heap.size) (B := V3.heap.size) (v0 := v1) (xs := (path nd e0 (l.drop k) ((m - k))).map cellsOf) (ys := []) _ _ rfl (by rfl) (Grown.start H3.out.1 (Nat.le_refl _)) H3.out.2.1.size (Nat.le_refl _) ⟨V2.heap.size, 0, none⟩ 1 (rt (l.take k)) (by rfl) (fun j u hj => by rw [Addr.add_mid]; exact H3.out.2.2 j u hj) (by rw [List.length_map]; have := path_len (l.drop k) ((m - k)) (by rw [List.length_drop]; have := HS.out; omega); simp; omega) ?_
        intro v4 V4 hg4 hk4
        have hb4 := hk4.below (B := V.heap.size) H3.out.2.1.size (fun k h => by
          rcases h with h | h
          · exact (H3.out.1.lt k h).1
          · exact Nat.le_trans H3.out.2.1.size h)
        have hl4 := hg4.now
        rw [List.nil_append, ← List.map_singleton (f := cellsOf), ← List.map_append, ← HPL.out.2 hmk] at hl4
        have H4 := Lib.hid (And.intro hl4 (HD.out.trans ((H3.out.2.1.trans hb4).mono HD.out.size)))
        clear hg4 hk4 hb4 hl4 H1 H2 H3
        refine hK _ _ ?_; clear hK K
        try simp only [Act.put, List.setIfInBounds_toArray, List.set_cons_zero, List.set_cons_succ]
        iterate 1
          refine wpS_t rfl (v := ?_) (by rfl) (fun W => ?_) ?_
          rotate_left
          · go_simp
            try rfl
          try simp only [Act.put, List.setIfInBounds_toArray, List.set_cons_zero, List.set_cons_succ]
        refine wpS_done ?_
        go_wp2_with fail
        refine bodyPost_ret (results_tmp rfl _ _ _) rfl ?_
        exact ⟨_, rfl, by have := H4.out.1; rw [HSZ.out] at this; exact this, H4.out.2⟩
end Go.Proofs.YtdkcndgehgmadaaGreatDoor
-- Walks: the document's paths: Of; what is refused.
open Go Go.RowKit Alm
namespace Go.Proofs.YtdkcndgehgmadaaGreatDoor
theorem out_facts {z : Int} {n : Nat} (h : z < 0 ∨ (n : Int) ≤ z) : (z < 0 ∧ decide (z < 0) = true) ∨ (¬ z < 0 ∧ decide (z < 0) = false ∧ (n : Int) ≤ z ∧ decide ((n : Int) ≤ z) = true) := by
  by_cases hz : z < 0
  · exact .inl ⟨hz, by simpa using hz⟩
  · have hn := h.resolve_left hz
    exact .inr ⟨hz, by simpa using hz, hn, by simpa using hn⟩
theorem pof_out (l : List Sum) (v : Value) (z : Int) (w : World) (hv : SumsAt w v l) (h : z < 0 ∨ (l.length : Int) ≤ z) : Calls Tryz.prog 9 #[v, .int .i64 z] w fun e w' => e = .returned (.tuple #[.slice none 0 0, .int .i64 1]) ∧ w = w' := by
  obtain ⟨a, cap, rfl, _, _, _⟩ := hv
  rcases out_facts h with ⟨h1, h2⟩ | ⟨h1, h2, h3, h4⟩
  · clear h
    go_enter Tryz.func9, Tryz.ntmps9
    go_wp2_with fail
    exact bodyPost_ret (results_tmp2 rfl _ _ _) rfl ⟨rfl, rfl⟩
  · clear h
    go_enter Tryz.func9, Tryz.ntmps9
    go_wp2_with fail
    exact bodyPost_ret (results_tmp2 rfl _ _ _) rfl ⟨rfl, rfl⟩
theorem rof_out (l : List Sum) (v : Value) (z : Int) (w : World) (hv : SumsAt w v l) (h : z < 0 ∨ (l.length : Int) ≤ z) : Calls Tryz.prog 10 #[v, .int .i64 z] w fun e w' => e = .returned (.tuple #[.slice none 0 0, .int .i64 1]) ∧ w = w' := by
  obtain ⟨a, cap, rfl, _, _, _⟩ := hv
  rcases out_facts h with ⟨h1, h2⟩ | ⟨h1, h2, h3, h4⟩
  · clear h
    go_enter Tryz.func10, Tryz.ntmps10
    go_wp2_with fail
    exact bodyPost_ret (results_tmp2 rfl _ _ _) rfl ⟨rfl, rfl⟩
  · clear h
    go_enter Tryz.func10, Tryz.ntmps10
    go_wp2_with fail
    exact bodyPost_ret (results_tmp2 rfl _ _ _) rfl ⟨rfl, rfl⟩
theorem rof_in (l : List Sum) (v : Value) (m : Nat) (w : World) (hv : SumsAt w v l) (hm : m < l.length) (hl : l.length < 1000000) : Calls Tryz.prog 10 #[v, .int .i64 (m : Int)] w fun e w' => ∃ v', e = .returned (.tuple #[v', .int .i64 0]) ∧ SumsAt w' v' (path nd e0 l m) ∧ Below w.heap.size w w' := by
  have HP := Lib.hid (rpath_go l.length l v m w (Nat.le_refl _) hv hm hl)
  obtain ⟨a, cap, rfl, _, _, _⟩ := hv
  have h1 : ¬ (m : Int) < 0 := by omega
  have h2 : decide ((m : Int) < 0) = false := decide_eq_false h1
  have h3 : ¬ (l.length : Int) ≤ (m : Int) := by omega
  have h4 : decide ((l.length : Int) ≤ (m : Int)) = false := by simpa using h3
  have h5 : decide (l.length ≤ m) = false := decide_eq_false (by omega)
  clear hm hl
  go_enter Tryz.func10, Tryz.ntmps10
  go_wp2_with (go_at_call 65; refine HP.out.mono ?_; rintro e w2 ⟨v', rfl, hlie, hb⟩; refine Hid.out ?_)
  refine Lib.hid ?_
  have H2 := Lib.hid (And.intro (lie_sums hlie) hb)
  clear hlie hb
  go_wp2_with fail
  refine bodyPost_ret (results_tmp2 rfl _ _ _) rfl ?_
  exact ⟨_, rfl, H2.out⟩
end Go.Proofs.YtdkcndgehgmadaaGreatDoor
-- What paths.Of and almonerref10.Of answer, whatever the place.
open Go Go.RowKit Alm
namespace Go.Proofs.YtdkcndgehgmadaaGreatDoor
theorem new_lie {W : World} {base : Nat} {v : Value} {l : List Sum} (h : SumsNew W base v l) : Lie W base 32 v (l.map cellsOf) := by
  rcases h with ⟨rfl, rfl⟩ | ⟨g, cap, rfl, h0, h1, h2, h3, h4, h5⟩
  · exact .inl ⟨rfl, rfl⟩
  · have hp := List.length_pos_iff.2 h0
    refine .inr ⟨g, cap, by rw [List.length_map], h3, there_lt h5 (by omega), by rw [List.length_map]; exact h1, h2, by rw [flat_cells]; exact h4, by rw [Nat.mul_comm]; exact h5, fun x hx => by
      obtain ⟨y, _, rfl⟩ := List.mem_map.1 hx
      exact length_cellsOf y⟩
noncomputable def pathOf (l : List Sum) (z : Int) : List Sum := if 0 ≤ z ∧ z < l.length then path nd e0 l z.toNat else []
noncomputable def errOf (l : List Sum) (z : Int) : Int := if 0 ≤ z ∧ z < l.length then 0 else 1
theorem pathOf_len (l : List Sum) (z : Int) (h : l.length < 1000000) : (pathOf l z).length ≤ 20 := by
  unfold pathOf
  split
  · exact path_len l _ h
  · simp
theorem rof_any (l : List Sum) (v : Value) (z : Int) (w : World) (hv : SumsAt w v l) (hl : l.length < 1000000) : Calls Tryz.prog 10 #[v, .int .i64 z] w fun e w' => ∃ x, e = .returned (.tuple #[x, .int .i64 (errOf l z)]) ∧ SumsAt w' x (pathOf l z) ∧ Below w.heap.size w w' := by
  by_cases h : 0 ≤ z ∧ z < l.length
  · obtain ⟨m, rfl⟩ : ∃ m : Nat, z = (m : Int) := ⟨z.toNat, by omega⟩
    rw [errOf, pathOf, if_pos h, if_pos h]
    refine (rof_in l v m w hv (by omega) hl).mono ?_
    rintro e w' ⟨v', rfl, hn, hb⟩
    exact ⟨v', rfl, hn, hb⟩
  · rw [errOf, pathOf, if_neg h, if_neg h]
    refine (rof_out l v z w hv (by omega)).mono ?_
    rintro e w' ⟨rfl, rfl⟩
    exact ⟨_, rfl, lie_sums (l := []) (base := w.heap.size) (.inl ⟨rfl, rfl⟩), Below.refl _ _⟩
end Go.Proofs.YtdkcndgehgmadaaGreatDoor
