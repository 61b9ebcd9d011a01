/-
  Walks: slices.Clone of sums; fronts: Sums, Root.
-/
import Derived.Test.YtdkcndgehgmadaaF2
open Go Go.RowKit Alm
namespace Go.Proofs.Ytdkcndgehgmadaa
set_option maxRecDepth 100000 in
theorem clone_sums (w : World) (v : Value) (l : List Sum) (h : SumsAt w v l) (h0 : v = .slice none 0 0 ∨ l ≠ []) (hl : l.length < 4000000000) : Calls Try.prog 69 #[v] w fun e w' => ∃ v', e = .returned v' ∧ w'.ownsRow w.heap.size 24 32 v' l.length (cellsAll l) ∧ (l = [] → v' = .slice none 0 0) ∧ Below w.heap.size w w' := by
  have e1 := @Lib.run_eql_slice_nil Try.prog
  obtain ⟨a, cap, rfl, h1, h2, h3⟩ := h
  by_cases hn : l = []
  · subst hn
    obtain ⟨rfl, rfl⟩ : a = none ∧ cap = 0 := by
      rcases h0 with h | h
      · simpa using h
      · exact (h rfl).elim
    go_enter Try.func69, Try.ntmps69
    go_wp2_with fail
    refine bodyPost_ret (results_tmp rfl _ _ _) rfl ?_
    exact ⟨_, rfl, World.ownsRow_nil _ _ _ _, rfl, Below.refl _ _⟩
  · obtain ⟨b, o, rfl, hr⟩ := h3.resolve_left hn
    go_enter Try.func69, Try.ntmps69
    have hr1 := range_below (al (Below.refl _ _) (.cells #[] 24)) hr (range_lt hr (by intro h; have := length_cellsAll l; rw [h] at this; exact hn (List.length_eq_zero_iff.1 (by simp at this; omega))))
    have hown : (w.alloc (.cells #[] 24)).ownsRow w.heap.size 24 32 (.slice (some ⟨w.heap.size, 0, none⟩) 0 0) 0 (cellsAll []) := World.ownsRow_made w #[] 0 (Nat.le_refl _) (by unfold maxLen; omega) rfl
    have hB := al (Below.refl w.heap.size w) (.cells #[] 24)
    have hpos : 0 < l.length := List.length_pos_iff.2 hn
    go_wp2_with (at_builtin; refine wpList_append_sums rfl _ _ rfl w.heap.size _ [] l 0 l.length rfl rfl rfl hown b o cap rfl hr1 hpos (by omega) (by simp) ?_; intro g c2 w2 ho2 hg2 hat2 hlt2)
    rw [Nat.zero_add, List.nil_append] at ho2
    refine bodyPost_ret (results_tmp rfl _ _ _) rfl ?_
    exact ⟨_, rfl, by rw [← Nat.zero_add l.length] at ho2 ⊢; exact ho2, fun h => (hn h).elim, hB.grown hg2 (by simp) (fun k hk => by cases hk; exact Nat.le_refl _)⟩
theorem stk_ne {l : List Sum} (h : l ≠ []) (hl : l.length < 4000000000) : stk nd e0 64 l ≠ [] := by
  intro e
  have h1 := length_stk nd e0 64 l (by omega)
  have h2 := bits_pos (List.length_pos_iff.2 h)
  rw [e, List.length_nil] at h1
  omega
theorem FrontAt.len {w : World} {p : Nat} {v : Value} {l : List Sum} (h : FrontAt w p v l) : (stk nd e0 64 l).length = Alm.bits l.length := length_stk nd e0 64 l (by have := h.2.2.2.1; omega)
theorem FrontAt.sums {w : World} {p : Nat} {v : Value} {l : List Sum} (h : FrontAt w p v l) : SumsAt w v (stk nd e0 64 l) := by
  have h1 := h.2.1
  rw [← h.len] at h1
  exact sums_own h1
theorem bits_le (n : Nat) : Alm.bits n ≤ n := by
  induction n using Alm.bits.induct with
  | case1 => rw [Alm.bits]; simp
  | case2 n h ih => rw [Alm.bits, dif_neg h]; omega
theorem FrontAt.nil {w : World} {p : Nat} {v : Value} {l : List Sum} (h : FrontAt w p v l) : v = .slice none 0 0 ∨ stk nd e0 64 l ≠ [] := by
  by_cases hl : l = []
  · exact .inl (h.2.2.2.2 hl)
  · exact .inr (stk_ne hl h.2.2.2.1)
theorem sums_live (w : World) (p : Nat) (v : Value) (l : List Sum) (h : FrontAt w p v l) : Calls Try.prog 31 #[.pointer (some ⟨p, 0, none⟩)] w fun e w' => ∃ v', e = .returned v' ∧ SumsNew w' w.heap.size v' (stk nd e0 64 l) ∧ Below w.heap.size w w' := by
  have h0 := h.c0
  have h1 := h.c2
  have hs := h.sums
  have hn := h.nil
  have hl : (stk nd e0 64 l).length < 4000000000 := by have := h.len; have := bits_le l.length; have := h.2.2.2.1; omega
  clear h
  generalize stk nd e0 64 l = t at *
  go_enter Try.func31, Try.ntmps31
  go_wp2_with (go_at_call 67; refine (none_live _ p h0).mono ?_; rintro e w1 ⟨rfl, rfl⟩)
  refine (clone_sums _ v t hs hn hl).mono ?_
  rintro e w1 ⟨v1, rfl, ho1, hn1, hb1⟩
  have hS := own_new' ho1 hn1
  clear ho1 hn1 hs hn
  go_wp2_with fail
  refine (clip_sums _ _ v1 t hS).mono ?_
  rintro e w2 ⟨v2, rfl, hS2, rfl⟩
  go_wp2_with fail
  refine bodyPost_ret (results_tmp rfl _ _ _) rfl ?_
  exact ⟨_, rfl, hS2, hb1⟩
set_option maxRecDepth 100000 in
set_option maxHeartbeats 1000000 in
theorem root_live (w : World) (p : Nat) (v : Value) (l : List Sum) (h : FrontAt w p v l) : Calls Try.prog 30 #[.pointer (some ⟨p, 0, none⟩)] w fun e w' => e = .returned (sv (rt l)) ∧ Below w.heap.size w w' := by
  have R0 : Res w 32 (w.alloc (.cells (cells8 (List.replicate 32 0)).toArray 24)) := Res.start _ _ _ _ (by rfl)
  have hw := h.below R0.below
  have hp := h.lt
  have h0 := h.c0
  have h1 := h.c1
  have h2 := h.c2
  have hs := hw.sums
  have hn := hw.nil
  have hl : (stk nd e0 64 l).length < 4000000000 := by have := h.len; have := bits_le l.length; have := h.2.2.2.1; omega
  have hlen := h.2.2.2.1
  by_cases hnil : l = []
  · subst hnil
    clear h hw hs hn hl hlen
    simp only [List.length_nil, Int.ofNat_zero] at h1
    go_enter Try.func30, Try.ntmps30
    go_wp2_with (go_at_call 67; refine (none_live _ p ((World.cell?_alloc_past _ p 0 hp).trans h0)).mono ?_; rintro e w1 ⟨rfl, rfl⟩)
    have hst := @run_store Try.prog
    refine (rt_any [] _ (w.alloc (.cells (cells8 (List.replicate 32 0)).toArray 24)) ⟨none, 0, rfl, Nat.le_refl _, by decide, .inl rfl⟩).mono ?_
    rintro e w1 ⟨rfl, hb⟩
    have R2 := R0.call (by omega) hb
    go_wp2_with (refine wpList_store_sum rfl _ _ rfl w.heap.size 0 (rt []) rfl rfl R2.there ?_)
    have RS := R2.store (cellsOf (rt []))
    exact bodyPost_ret (results_sum Try.results30 _ _ _ _ rfl RS.there) rfl ⟨rfl, RS.below⟩
  · have hne := stk_ne hnil hlen
    have hroot := stk_root nd e0 64 l hnil (by omega)
    rw [← rt_eq] at hroot
    have hlp : ((l.length : Int) == 0) = false := by
      have := List.length_pos_iff.2 hnil
      rw [beq_eq_false_iff_ne]; omega
    have ho := h.2.1
    rw [← h.len] at ho
    clear h hw hn hlen hnil
    generalize stk nd e0 64 l = t at *
    obtain ⟨g, cap, hv, hnc, hcm, -, -⟩ := own_range ho (List.length_pos_iff.2 hne)
    clear ho
    subst hv
    obtain ⟨q, hq⟩ : ∃ q, t.length = q + 1 := ⟨t.length - 1, by have := List.length_pos_iff.2 hne; omega⟩
    rw [hq] at h2 hs hnc hroot
    have hl' : q + 1 < 4000000000 := by omega
    have HQ := Lib.hid hq; clear hq hl
    have HR := Lib.hid hroot; clear hroot
    have HS := Lib.hid hs; clear hs
    unfold maxLen at hcm
    have wq : IntKind.i64.wrap (q : Int) = (q : Int) := by rw [IntKind.wrap_i64]; omega
    go_enter Try.func30, Try.ntmps30
    go_wp2_with (go_at_call 67; refine (none_live _ p ((World.cell?_alloc_past _ p 0 hp).trans h0)).mono ?_; rintro e w1 ⟨rfl, rfl⟩)
    have hS : (w.alloc (.cells (cells8 (List.replicate 32 0)).toArray 24)).drew.cell? ⟨p, 2, none⟩ = some (.slice (some ⟨g, 0, none⟩) (q + 1) cap) := (World.cell?_alloc_past _ p 2 hp).trans h2
    have HSS := Lib.hid hS; clear hS
    refine wp_region_sched (fun W => W.cell? ⟨p, 2, none⟩ = some (.slice (some ⟨g, 0, none⟩) (q + 1) cap)) [.t 0, .t 1, .t 2, .t 5, .t 6, .t 7, .s 3, .s 8, .t 9, .t 10, .e 4 true, .e 11 false, .t 12, .e 13 false, .e 14 false] (by kernel_rfl) (by kernel_rfl) (by intro c a d v w h; cases d <;> exact h) ?_
    iterate 6
      refine wpS_t rfl (v := ?_) (by rfl) (fun W => ?_) ?_
      rotate_left
      · go_simp
        try rfl
      try simp only [Act.put, List.setIfInBounds_toArray, List.set_cons_zero, List.set_cons_succ]
    refine wpS_s (by exact HSS.out) rfl (v := ?_) (by rfl) (fun W hSW => ?_) ?_
    rotate_left
    · go_simp
      try rfl
    try simp only [Act.put, List.setIfInBounds_toArray, List.set_cons_zero, List.set_cons_succ]
    refine wpS_s (by exact HSS.out) rfl (v := ?_) (by rfl) (fun W hSW => ?_) ?_
    rotate_left
    · go_simp
      try rfl
    try simp only [Act.put, List.setIfInBounds_toArray, List.set_cons_zero, List.set_cons_succ]
    iterate 2
      refine wpS_t rfl (v := ?_) (by rfl) (fun W => ?_) ?_
      rotate_left
      · go_simp
        try rfl
      try simp only [Act.put, List.setIfInBounds_toArray, List.set_cons_zero, List.set_cons_succ]
    refine wpS_k rfl (by rfl) (fun K hK => ?_)
    go_simp
    refine (clone_sums _ _ t (by exact HS.out) (.inr hne) (by have := HQ.out; omega)).mono ?_
    rintro e w1 ⟨v1, rfl, ho1, -, hb1⟩
    obtain ⟨g1, cap1, hv1, hnc1, hcm1, hg1, -⟩ := own_range ho1 (List.length_pos_iff.2 hne)
    subst hv1
    rw [HQ.out] at ho1 hnc1
    have HO := Lib.hid ho1; clear ho1
    have R1 : Res w 32 w1 := R0.drew.call (by omega) hb1
    have HW1 := Lib.hid ((hb1.cell (p := ⟨p, 2, none⟩) (by simp; omega)).trans HSS.out)
    have hgl : w.heap.size < g1 := by simp at hg1; omega
    clear hb1 hg1
    rw [HQ.out]
    refine hK _ _ ⟨by exact HW1.out, ?_⟩; clear hK K
    try simp only [Act.put, List.setIfInBounds_toArray, List.set_cons_zero, List.set_cons_succ]
    refine wpS_e rfl (by rfl) (fun K hK => ?_)
    go_simp
    refine (fold_at t (q + 1) q g1 cap1 _ w1 HQ.out (by omega) (by exact HO.out)).mono ?_
    rintro e w2 ⟨rfl, ho2, hk2⟩
    rw [show q + 1 - q = 1 from by omega] at ho2 ⊢
    have hx : w2.rangeAt g1 0 (cellsOf (rt l)) := by
      have := HR.out
      rw [Nat.add_sub_cancel] at this
      rw [this] at ho2
      have := own_sum_range ho2
      rwa [cellsAll_one] at this
    have R2 : Res w 32 w2 := R1.call_at (B := g1) (hk2.below (Nat.le_of_lt (own_lt HO.out rfl)) (fun k hk => by omega)) hgl
    clear ho2 hk2
    refine hK _ _ ?_; clear hK K
    try simp only [Act.put, List.setIfInBounds_toArray, List.set_cons_zero, List.set_cons_succ]
    iterate 1
      refine wpS_t rfl (v := ?_) (by rfl) (fun W => ?_) ?_
      rotate_left
      · go_simp
        try rfl
      try simp only [Act.put, List.setIfInBounds_toArray, List.set_cons_zero, List.set_cons_succ]
    refine wpS_e rfl (by rfl) (fun K hK => ?_)
    refine wp_load_sum _ (by rfl) g1 0 (by rfl) (rt l) hx ?_
    refine hK _ _ ?_; clear hK K
    try simp only [Act.put, List.setIfInBounds_toArray, List.set_cons_zero, List.set_cons_succ]
    refine wpS_e rfl (by rfl) (fun K hK => ?_)
    refine wp_store_sum _ _ (by rfl) w.heap.size 0 (rt l) (by rfl) (by rfl) R2.there ?_
    refine hK _ _ ?_; clear hK K
    try simp only [Act.put, List.setIfInBounds_toArray, List.set_cons_zero, List.set_cons_succ]
    have RS := R2.store (cellsOf (rt l))
    refine wpS_done ?_
    go_wp2_with fail
    exact bodyPost_ret (results_sum Try.results30 _ _ _ _ rfl RS.there) rfl ⟨rfl, RS.below⟩
end Go.Proofs.Ytdkcndgehgmadaa
