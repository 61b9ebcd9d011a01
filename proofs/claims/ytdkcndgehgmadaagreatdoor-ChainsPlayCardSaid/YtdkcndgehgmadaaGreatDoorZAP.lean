/-
  Joined: F3, G1.
-/
import Derived.Test.YtdkcndgehgmadaaGreatDoorZAO
-- Walks: slices.Clone of sums; fronts: Sums, Root.
open Go Go.RowKit Alm
namespace Go.Proofs.YtdkcndgehgmadaaGreatDoor
set_option maxRecDepth 100000 in
theorem clone_sums (w : World) (v : Value) (l : List Sum) (h : SumsAt w v l) (h0 : v = .slice none 0 0 ∨ l ≠ []) (hl : l.length < 4000000000) : Calls Tryz.prog 100 #[v] w fun e w' => ∃ v', e = .returned v' ∧ w'.ownsRow w.heap.size 24 32 v' l.length (cellsAll l) ∧ (l = [] → v' = .slice none 0 0) ∧ Below w.heap.size w w' := by
  have e1 := @Lib.run_eql_slice_nil Tryz.prog
  obtain ⟨a, cap, rfl, h1, h2, h3⟩ := h
  by_cases hn : l = []
  · subst hn
    obtain ⟨rfl, rfl⟩ : a = none ∧ cap = 0 := by
      rcases h0 with h | h
      · simpa using h
      · exact (h rfl).elim
    go_enter Tryz.func100, Tryz.ntmps100
    go_wp2_with fail
    refine bodyPost_ret (results_tmp rfl _ _ _) rfl ?_
    exact ⟨_, rfl, World.ownsRow_nil _ _ _ _, rfl, Below.refl _ _⟩
  · obtain ⟨b, o, rfl, hr⟩ := h3.resolve_left hn
    go_enter Tryz.func100, Tryz.ntmps100
    have hr1 := range_below (al (Below.refl _ _) (.cells #[] 24)) hr (range_lt hr (by intro h; have := length_cellsAll l; rw [h] at this; exact hn (List.length_eq_zero_iff.1 (by simp at this; omega))))
    have hown : (w.alloc (.cells #[] 24)).ownsRow w.heap.size 24 32 (.slice (some ⟨w.heap.size, 0, none⟩) 0 0) 0 (cellsAll []) := World.ownsRow_made w #[] 0 (Nat.le_refl _) (by unfold maxLen; omega) rfl
    have hB := al (Below.refl w.heap.size w) (.cells #[] 24)
    have hpos : 0 < l.length := List.length_pos_iff.2 hn
    go_wp2_with (at_builtin; refine wpList_append_sums rfl _ _ rfl w.heap.size _ [] l 0 l.length rfl rfl rfl hown b o cap rfl hr1 hpos (by omega) (by simp) ?_; intro g c2 w2 ho2 hg2 hat2 hlt2)
    rw [Nat.zero_add, List.nil_append] at ho2
    refine bodyPost_ret (results_tmp rfl _ _ _) rfl ?_
    exact ⟨_, rfl, by rw [← Nat.zero_add l.length] at ho2 ⊢; exact ho2, fun h => (hn h).elim, hB.grown hg2 (by simp) (fun k hk => by cases hk; exact Nat.le_refl _)⟩
theorem stk_ne {l : List Sum} (h : l ≠ []) (hl : l.length < 4000000000) : stk nd e0 64 l ≠ [] := by
  intro e
  have h1 := length_stk nd e0 64 l (by omega)
  have h2 := bits_pos (List.length_pos_iff.2 h)
  rw [e, List.length_nil] at h1
  omega
theorem FrontAt.len {w : World} {p : Nat} {v : Value} {l : List Sum} (h : FrontAt w p v l) : (stk nd e0 64 l).length = Alm.bits l.length := length_stk nd e0 64 l (by have := h.2.2.2.1; omega)
theorem FrontAt.sums {w : World} {p : Nat} {v : Value} {l : List Sum} (h : FrontAt w p v l) : SumsAt w v (stk nd e0 64 l) := by
  have h1 := h.2.1
  rw [← h.len] at h1
  exact sums_own h1
theorem bits_le (n : Nat) : Alm.bits n ≤ n := by
  induction n using Alm.bits.induct with
  | case1 => rw [Alm.bits]; simp
  | case2 n h ih => rw [Alm.bits, dif_neg h]; omega
theorem FrontAt.nil {w : World} {p : Nat} {v : Value} {l : List Sum} (h : FrontAt w p v l) : v = .slice none 0 0 ∨ stk nd e0 64 l ≠ [] := by
  by_cases hl : l = []
  · exact .inl (h.2.2.2.2 hl)
  · exact .inr (stk_ne hl h.2.2.2.1)
theorem sums_live (w : World) (p : Nat) (v : Value) (l : List Sum) (h : FrontAt w p v l) : Calls Tryz.prog 18 #[.pointer (some ⟨p, 0, none⟩)] w fun e w' => ∃ v', e = .returned v' ∧ SumsNew w' w.heap.size v' (stk nd e0 64 l) ∧ Below w.heap.size w w' := by
  have h0 := h.c0
  have h1 := h.c2
  have hs := h.sums
  have hn := h.nil
  have hl : (stk nd e0 64 l).length < 4000000000 := by have := h.len; have := bits_le l.length; have := h.2.2.2.1; omega
  clear h
  generalize stk nd e0 64 l = t at *
  go_enter Tryz.func18, Tryz.ntmps18
  go_wp2_with (go_at_call 99; refine (none_live _ p h0).mono ?_; rintro e w1 ⟨rfl, rfl⟩)
  refine (clone_sums _ v t hs hn hl).mono ?_
  rintro e w1 ⟨v1, rfl, ho1, hn1, hb1⟩
  have hS := own_new' ho1 hn1
  clear ho1 hn1 hs hn
  go_wp2_with fail
  refine (clip_sums _ _ v1 t hS).mono ?_
  rintro e w2 ⟨v2, rfl, hS2, rfl⟩
  go_wp2_with fail
  refine bodyPost_ret (results_tmp rfl _ _ _) rfl ?_
  exact ⟨_, rfl, hS2, hb1⟩
set_option maxRecDepth 100000 in
set_option maxHeartbeats 1000000 in
theorem root_live (w : World) (p : Nat) (v : Value) (l : List Sum) (h : FrontAt w p v l) : Calls Tryz.prog 20 #[.pointer (some ⟨p, 0, none⟩)] w fun e w' => e = .returned (sv (rt l)) ∧ Below w.heap.size w w' := by
  have R0 : Res w 32 (w.alloc (.cells (cells8 (List.replicate 32 0)).toArray 24)) := Res.start _ _ _ _ (by rfl)
  have hw := h.below R0.below
  have hp := h.lt
  have h0 := h.c0
  have h1 := h.c1
  have h2 := h.c2
  have hs := hw.sums
  have hn := hw.nil
  have hl : (stk nd e0 64 l).length < 4000000000 := by have := h.len; have := bits_le l.length; have := h.2.2.2.1; omega
  have hlen := h.2.2.2.1
  by_cases hnil : l = []
  · subst hnil
    clear h hw hs hn hl hlen
    simp only [List.length_nil, Int.ofNat_zero] at h1
    go_enter Tryz.func20, Tryz.ntmps20
    go_wp2_with (go_at_call 99; refine (none_live _ p ((World.cell?_alloc_past _ p 0 hp).trans h0)).mono ?_; rintro e w1 ⟨rfl, rfl⟩)
    have hst := @run_store Tryz.prog
    refine (rt_any [] _ (w.alloc (.cells (cells8 (List.replicate 32 0)).toArray 24)) ⟨none, 0, rfl, Nat.le_refl _, by decide, .inl rfl⟩).mono ?_
    rintro e w1 ⟨rfl, hb⟩
    have R2 := R0.call (by omega) hb
    go_wp2_with (refine wpList_store_sum rfl _ _ rfl w.heap.size 0 (rt []) rfl rfl R2.there ?_)
    have RS := R2.store (cellsOf (rt []))
    exact bodyPost_ret (results_sum Tryz.results20 _ _ _ _ rfl RS.there) rfl ⟨rfl, RS.below⟩
  · have hne := stk_ne hnil hlen
    have hroot := stk_root nd e0 64 l hnil (by omega)
    rw [← rt_eq] at hroot
    have hlp : ((l.length : Int) == 0) = false := by
      have := List.length_pos_iff.2 hnil
      rw [beq_eq_false_iff_ne]; omega
    have ho := h.2.1
    rw [← h.len] at ho
    clear h hw hn hlen hnil
    generalize stk nd e0 64 l = t at *
    obtain ⟨g, cap, hv, hnc, hcm, -, -⟩ := own_range ho (List.length_pos_iff.2 hne)
    clear ho
    subst hv
    obtain ⟨q, hq⟩ : ∃ q, t.length = q + 1 := ⟨t.length - 1, by have := List.length_pos_iff.2 hne; omega⟩
    rw [hq] at h2 hs hnc hroot
    have hl' : q + 1 < 4000000000 := by omega
    have HQ := Lib.hid hq; clear hq hl
    have HR := Lib.hid hroot; clear hroot
    have HS := Lib.hid hs; clear hs
    unfold maxLen at hcm
    have wq : IntKind.i64.wrap (q : Int) = (q : Int) := by rw [IntKind.wrap_i64]; omega
    go_enter Tryz.func20, Tryz.ntmps20
    go_wp2_with (go_at_call 99; refine (none_live _ p ((World.cell?_alloc_past _ p 0 hp).trans h0)).mono ?_; rintro e w1 ⟨rfl, rfl⟩)
    have hS : (w.alloc (.cells (cells8 (List.replicate 32 0)).toArray 24)).drew.cell? ⟨p, 2, none⟩ = some (.slice (some ⟨g, 0, none⟩) (q + 1) cap) := (World.cell?_alloc_past _ p 2 hp).trans h2
    have HSS := Lib.hid hS; clear hS
    refine wp_region_sched (fun W => W.cell? ⟨p, 2, none⟩ = some (.slice (some ⟨g, 0, none⟩) (q + 1) cap)) [.t 0, .t 1, .t 2, .t 5, .t 6, .t 7, .s 3, .s 8, .t 9, .t 10, .e 4 true, .e 11 false, .t 12, .e 13 false, .e 14 false] (by kernel_rfl) (by kernel_rfl) (by intro c a d v w h; cases d <;> exact h) ?_
    iterate 6
      refine wpS_t rfl (v := ?_) (by rfl) (fun W => ?_) ?_
      rotate_left
      · go_simp
        try rfl
      try simp only [Act.put, List.setIfInBounds_toArray, List.set_cons_zero, List.set_cons_succ]
    refine wpS_s (by exact HSS.out) rfl (v := ?_) (by rfl) (fun W hSW => ?_) ?_
    rotate_left
    · go_simp
      try rfl
    try simp only [Act.put, List.setIfInBounds_toArray, List.set_cons_zero, List.set_cons_succ]
    refine wpS_s (by exact HSS.out) rfl (v := ?_) (by rfl) (fun W hSW => ?_) ?_
    rotate_left
    · go_simp
      try rfl
    try simp only [Act.put, List.setIfInBounds_toArray, List.set_cons_zero, List.set_cons_succ]
    iterate 2
      refine wpS_t rfl (v := ?_) (by rfl) (fun W => ?_) ?_
      rotate_left
      · go_simp
        try rfl
      try simp only [Act.put, List.setIfInBounds_toArray, List.set_cons_zero, List.set_cons_succ]
    refine wpS_k rfl (by rfl) (fun K hK => ?_)
    go_simp
    refine (clone_sums _ _ t (by exact HS.out) (.inr hne) (by have := HQ.out; omega)).mono ?_
    rintro e w1 ⟨v1, rfl, ho1, -, hb1⟩
    obtain ⟨g1, cap1, hv1, hnc1, hcm1, hg1, -⟩ := own_range ho1 (List.length_pos_iff.2 hne)
    subst hv1
    rw [HQ.out] at ho1 hnc1
    have HO := Lib.hid ho1; clear ho1
    have R1 : Res w 32 w1 := R0.drew.call (by omega) hb1
    have HW1 := Lib.hid ((hb1.cell (p := ⟨p, 2, none⟩) (by simp; omega)).trans HSS.out)
    have hgl : w.heap.size < g1 := by simp at hg1; omega
    clear hb1 hg1
    rw [HQ.out]
    refine hK _ _ ⟨by exact HW1.out, ?_⟩; clear hK K
    try simp only [Act.put, List.setIfInBounds_toArray, List.set_cons_zero, List.set_cons_succ]
    refine wpS_e rfl (by rfl) (fun K hK => ?_)
    go_simp
    refine (fold_at t (q + 1) q g1 cap1 _ w1 HQ.out (by omega) (by exact HO.out)).mono ?_
    rintro e w2 ⟨rfl, ho2, hk2⟩
    rw [show q + 1 - q = 1 from by omega] at ho2 ⊢
    have hx : w2.rangeAt g1 0 (cellsOf (rt l)) := by
      have := HR.out
      rw [Nat.add_sub_cancel] at this
      rw [this] at ho2
      have := own_sum_range ho2
      rwa [cellsAll_one] at this
    have R2 : Res w 32 w2 := R1.call_at (B := g1) (hk2.below (Nat.le_of_lt (own_lt HO.out rfl)) (fun k hk => by omega)) hgl
    clear ho2 hk2
    refine hK _ _ ?_; clear hK K
    try simp only [Act.put, List.setIfInBounds_toArray, List.set_cons_zero, List.set_cons_succ]
    iterate 1
      refine wpS_t rfl (v := ?_) (by rfl) (fun W => ?_) ?_
      rotate_left
      · go_simp
        try rfl
      try simp only [Act.put, List.setIfInBounds_toArray, List.set_cons_zero, List.set_cons_succ]
    refine wpS_e rfl (by rfl) (fun K hK => ?_)
    refine wp_load_sum _ (by rfl) g1 0 (by rfl) (rt l) hx ?_
    refine hK _ _ ?_; clear hK K
    try simp only [Act.put, List.setIfInBounds_toArray, List.set_cons_zero, List.set_cons_succ]
    refine wpS_e rfl (by rfl) (fun K hK => ?_)
    refine wp_store_sum _ _ (by rfl) w.heap.size 0 (rt l) (by rfl) (by rfl) R2.there ?_
    refine hK _ _ ?_; clear hK K
    try simp only [Act.put]
    have RS := R2.store (cellsOf (rt l))
    refine wpS_done ?_
    go_wp2_with fail
    exact bodyPost_ret (results_sum Tryz.results20 _ _ _ _ rfl RS.there) rfl ⟨rfl, RS.below⟩
end Go.Proofs.YtdkcndgehgmadaaGreatDoor
-- Walks: the two cuts; slices.Reverse of sums.
open Go Go.RowKit Alm
namespace Go.Proofs.YtdkcndgehgmadaaGreatDoor
theorem keeps_setCells_ (b : Nat) : ∀ (vs : List Value) (o : Nat) (w : World), Keeps (· = b) w (w.setCells b o vs)
  | [], _, _ => Keeps.refl _ _
  | v :: r, o, w => by
    rw [World.setCells]
    exact ((Keeps.refl (· = b) w).setCell (p := ⟨b, o, none⟩) (.inl rfl) v).trans (keeps_setCells_ b r (o + 1) _)
/-- A store into a list of sums. -/
theorem range_set {w : World} {b o : Nat} {t : List Sum} {i : Nat} (s : Sum) (hr : w.rangeAt b o (cellsAll t)) (ht : w.there b o (32 * t.length)) (hi : i < t.length) : (w.setCells b (o + i * 32) (cellsOf s)).rangeAt b o (cellsAll (t.set i s)) := by
  have hl : cellsAll (t.set i s) = cellsAll (t.take i) ++ (cellsOf s ++ cellsAll (t.drop (i + 1))) := by
    rw [List.set_eq_take_append_cons_drop, if_pos hi, cellsAll_append, cellsAll_cons]
  rw [cellsAll_split hi, range_append, range_append, length_cellsAll, List.length_take, Nat.min_eq_left (by omega), length_cellsOf] at hr
  rw [hl, range_append, range_append, length_cellsAll, List.length_take, Nat.min_eq_left (by omega), length_cellsOf]
  have e : o + 32 * i = o + i * 32 := by omega
  refine ⟨?_, ?_, ?_⟩
  · exact World.rangeAt_setCells_apart hr.1 _ _ _ (by right; left; rw [length_cellsAll, List.length_take]; omega)
  · rw [e]
    exact World.rangeAt_setCells_same w b _ _ (fun j hj => by
      rw [length_cellsOf] at hj
      have := ht (i * 32 + j) (by omega)
      rwa [show o + (i * 32 + j) = o + i * 32 + j from by omega] at this)
  · exact World.rangeAt_setCells_apart hr.2.2 _ _ _ (by right; right; rw [length_cellsOf]; omega)
theorem linksCut_any (n : Nat) (w : World) (h2 : 2 ≤ n) (hn : n < 4000000000) : Calls Tryz.prog 105 #[.int .u64 (n : Int)] w fun e w' => e = .returned (.int .u64 (cut n : Int)) ∧ w = w' := by
  obtain ⟨q, hq⟩ : ∃ q, q = (n - 1).log2 := ⟨_, rfl⟩
  have hE : (((n : Int) - 1).toNat).log2 = q := by rw [hq]; congr 1; omega
  have q62 : q < 32 := by
    rw [hq]
    exact (Nat.log2_lt (by omega)).2 (by omega)
  have q62' : (q : Int) < 32 := by omega
  have q0 : (0 : Int) ≤ (q : Int) := by omega
  have m1 : 1 ≤ (n : Int) - 1 := by omega
  have m2 : (n : Int) - 1 ≤ 18446744073709551615 := by omega
  have hk : cut n = 2 ^ q := by rw [hq]; rfl
  have hkl : cut n < n := cut_lt h2
  obtain ⟨k, hkd⟩ : ∃ k, k = cut n := ⟨_, rfl⟩
  rw [← hkd] at hk hkl ⊢
  have HE := Lib.hid hE; clear hE hq
  have M2 := Lib.hid m2; clear m2
  have HK := Lib.hid hk; clear hk hkd
  go_enter Tryz.func105, Tryz.ntmps105
  go_wp2_with (go_at_call 151; refine (len64_pos _ _ m1 M2.out).mono ?_; rw [HE.out]; rintro e w1 ⟨rfl, rfl⟩)
  have pw : IntKind.u64.wrap ((2 : Int) ^ q) = (k : Int) := by
    have h1 : (2 : Int) ^ q = (k : Int) := by rw [HK.out]; push_cast; rfl
    rw [h1]
    simp only [IntKind.wrap, IntKind.bits, IntKind.signed, Bool.false_and, Bool.false_eq_true, if_false]
    omega
  exact bodyPost_ret (results_tmp rfl _ _ _) rfl ⟨by rw [← pw]; rfl, rfl⟩
theorem pathsCut_any (n : Nat) (w : World) (h2 : 2 ≤ n) (hn : n < 18446744073709551616) : Calls Tryz.prog 61 #[.int .u64 (n : Int)] w fun e w' => e = .returned (.int .u64 (cut n : Int)) ∧ w = w' := by
  obtain ⟨q, hq⟩ : ∃ q, q = (n - 1).log2 := ⟨_, rfl⟩
  have hE : (((n : Int) - 1).toNat).log2 = q := by rw [hq]; congr 1; omega
  have q62 : q < 64 := by
    rw [hq]
    exact (Nat.log2_lt (by omega)).2 (by omega)
  have q62' : (q : Int) < 64 := by omega
  have q0 : (0 : Int) ≤ (q : Int) := by omega
  have m1 : 1 ≤ (n : Int) - 1 := by omega
  have m2 : (n : Int) - 1 ≤ 18446744073709551615 := by omega
  have hk : cut n = 2 ^ q := by rw [hq]; rfl
  have hkl : cut n < n := cut_lt h2
  obtain ⟨k, hkd⟩ : ∃ k, k = cut n := ⟨_, rfl⟩
  rw [← hkd] at hk hkl ⊢
  have HE := Lib.hid hE; clear hE hq
  have M2 := Lib.hid m2; clear m2
  have HK := Lib.hid hk; clear hk hkd
  go_enter Tryz.func61, Tryz.ntmps61
  go_wp2_with (go_at_call 151; refine (len64_pos _ _ m1 M2.out).mono ?_; rw [HE.out]; rintro e w1 ⟨rfl, rfl⟩)
  have pw : IntKind.u64.wrap ((2 : Int) ^ q) = (k : Int) := by
    have h1 : (2 : Int) ^ q = (k : Int) := by rw [HK.out]; push_cast; rfl
    rw [h1]
    simp only [IntKind.wrap, IntKind.bits, IntKind.signed, Bool.false_and, Bool.false_eq_true, if_false]
    omega
  exact bodyPost_ret (results_tmp rfl _ _ _) rfl ⟨by rw [← pw]; rfl, rfl⟩
/-- After i swaps. -/
def swapped (l : List Sum) (i : Nat) (t : List Sum) : Prop := t.length = l.length ∧ ∀ k, k < l.length → t[k]? = if k < i ∨ l.length - i ≤ k then l[l.length - 1 - k]? else l[k]?
theorem swapped_zero (l : List Sum) : swapped l 0 l := ⟨rfl, fun k hk => by rw [if_neg (by omega)]⟩
theorem swapped_step {l t : List Sum} {i j : Nat} {x y : Sum} (h : swapped l i t) (hij : i < j) (hj : j = l.length - 1 - i) (hl : j < l.length) (hx : t[i]? = some x) (hy : t[j]? = some y) : swapped l (i + 1) ((t.set i y).set j x) := by
  refine ⟨by simp [h.1], fun k hk => ?_⟩
  have h2 := h.2 k hk
  have hi2 := h.2 i (by omega)
  have hj2 := h.2 j (by omega)
  rw [if_neg (by omega), hx] at hi2
  rw [if_neg (by omega), hy] at hj2
  have ht := h.1
  by_cases hkj : k = j
  · subst hkj
    rw [if_pos (by omega), List.getElem?_set_self (by simp [ht]; omega), hi2]
    congr 1; omega
  · by_cases hki : k = i
    · subst hki
      rw [if_pos (by omega), List.getElem?_set_ne (by omega), List.getElem?_set_self (by omega), hj2]
      congr 1
    · rw [List.getElem?_set_ne (by omega), List.getElem?_set_ne (by omega), h2]
      by_cases hc : k < i ∨ l.length - i ≤ k
      · rw [if_pos hc, if_pos (by omega)]
      · rw [if_neg hc, if_neg (by omega)]
theorem swapped_end {l t : List Sum} {i : Nat} (h : swapped l i t) (hi : l.length ≤ 2 * i + 1) : t = l.reverse := by
  refine List.ext_getElem? fun k => ?_
  by_cases hk : k < l.length
  · rw [h.2 k hk, List.getElem?_reverse hk]
    by_cases hc : k < i ∨ l.length - i ≤ k
    · rw [if_pos hc]
    · rw [if_neg hc]; congr 1; omega
  · rw [List.getElem?_eq_none (by rw [h.1]; omega), List.getElem?_eq_none (by simp; omega)]
set_option maxRecDepth 100000 in
set_option maxHeartbeats 1000000 in
theorem reverse_sums (w : World) (base : Nat) (v : Value) (l : List Sum) (h : SumsNew w base v l) (hl : l.length < 4000000000) : Calls Tryz.prog 63 #[v] w fun e w' => e = .returned (.tuple #[]) ∧ SumsNew w' base v l.reverse ∧ Keeps (fun k => v.ownBlock = some k) w w' := by
  rcases h with ⟨rfl, rfl⟩ | ⟨g, cap, rfl, h0, h1, h2, h3, h4, h5⟩
  · go_enter Tryz.func63, Tryz.ntmps63
    go_wp2_with fail
    refine wp_loop_once ?_
    go_wp2_with fail
    exact bodyPost_end (results_none rfl _ _ _) rfl ⟨rfl, .inl ⟨rfl, rfl⟩, Keeps.refl _ _⟩
  · obtain ⟨n, hn⟩ : ∃ n, n = l.length := ⟨_, rfl⟩
    rw [← hn] at h1 hl ⊢
    have HCAP := Lib.hid h1
    have HN := Lib.hid hn; clear hn
    have HR := Lib.hid h4; clear h4
    have HT := Lib.hid h5; clear h5
    have hn1 : (n : Int) < 4000000000 := by omega
    go_enter Tryz.func63, Tryz.ntmps63
    go_wp2_with fail
    go_loopw [2, 3] (fun a b W => ∃ (i : Nat) (z : Int) (t : List Sum), a = .int .i64 (i : Int) ∧ b = .int .i64 z ∧ z = (n : Int) - 1 - i ∧ i ≤ n ∧ swapped l i t ∧ W.rangeAt g 0 (cellsAll t) ∧ W.there g 0 (32 * cap) ∧ Keeps (· = g) w W) (fun a _ _ => n - (intOf a).toNat)
    case atStart => exact ⟨0, _, l, rfl, rfl, by omega, by omega, swapped_zero l, HR.out, HT.out, Keeps.refl _ _⟩
    case round =>
      clear HR HT
      obtain ⟨i, z, t, rfl, rfl, hz, hi, hs, hR, hT, hK⟩ := hrel
      have HS := Lib.hid hs; clear hs
      have HR := Lib.hid hR; clear hR
      have HT := Lib.hid hT; clear hT
      have HK := Lib.hid hK; clear hK
      by_cases hlt : (i : Int) < z
      · obtain ⟨j, hj⟩ : ∃ j : Nat, z = (j : Int) := ⟨z.toNat, by omega⟩
        subst hj
        have hij : i < j := by omega
        have hjn : j = n - 1 - i := by omega
        have HJ := Lib.hid hjn; clear hjn hz
        have htl : t.length = n := by rw [HS.out.1, HN.out]
        have hx := Lib.hid (range_at HR.out (i := i) (by have := HJ.out; omega))
        have hy := Lib.hid (range_at HR.out (i := j) (by have := HJ.out; omega))
        have hgx := Lib.hid (List.getElem?_eq_getElem (l := t) (i := i) (by have := HJ.out; omega))
        have hgy := Lib.hid (List.getElem?_eq_getElem (l := t) (i := j) (by have := HJ.out; omega))
        have HTL := Lib.hid htl
        generalize t[i]'_ = x at *
        generalize t[j]'_ = y at *
        rw [Nat.zero_add] at hx hy
        have hi0 : (0 : Int) ≤ (i : Int) := by omega
        have hin : (i : Int) < (n : Int) := by have := HJ.out; omega
        have hj0 : (0 : Int) ≤ (j : Int) := by omega
        have hjn : (j : Int) < (n : Int) := by have := HJ.out; omega
        clear htl
        go_wp2_with fail
        refine wp_region_sched (fun W => W.rangeAt g (j * 32) (cellsOf y)) [.t 0, .t 1, .t 2, .t 3, .t 4, .t 5, .t 6, .t 8, .t 9, .t 10, .s 7, .e 11 true, .t 12, .e 13 false, .t 14, .e 15 false] (by kernel_rfl) (by kernel_rfl) (by intro c a d v w h; cases d <;> exact h) ?_
        iterate 10
          refine wpS_t rfl (v := ?_) (by rfl) (fun W => ?_) ?_
          rotate_left
          · go_simp
            try rfl
          try simp only [Act.put, List.setIfInBounds_toArray, List.set_cons_zero, List.set_cons_succ]
        refine wpS_load_sum (by exact hy.out) rfl (by rfl) _ (by rfl) g (j * 32) (by rfl) y (fun W hW => hW) ?_
        try simp only [Act.put, List.setIfInBounds_toArray, List.set_cons_zero, List.set_cons_succ]
        refine wpS_k rfl (by rfl) (fun K hK => ?_)
        refine wp_load_sum _ (by rfl) g (i * 32) (by rfl) x (by exact hx.out) ?_
        refine hK _ _ ⟨by exact hy.out, ?_⟩; clear hK K
        try simp only [Act.put, List.setIfInBounds_toArray, List.set_cons_zero, List.set_cons_succ]
        iterate 1
          refine wpS_t rfl (v := ?_) (by rfl) (fun W => ?_) ?_
          rotate_left
          · go_simp
            try rfl
          try simp only [Act.put, List.setIfInBounds_toArray, List.set_cons_zero, List.set_cons_succ]
        refine wpS_e rfl (by rfl) (fun K hK => ?_)
        refine wp_store_sum _ _ (by rfl) g (i * 32) y (by rfl) (by rfl) (fun k hk => by have := HT.out (i * 32 + k) (by have := HJ.out; have := HCAP.out; omega); rwa [Nat.zero_add] at this) ?_
        refine hK _ _ ?_; clear hK K
        try simp only [Act.put]
        have HR1 := Lib.hid (range_set (i := i) (t := t) y (by exact HR.out : wr.drew.rangeAt g 0 (cellsAll t)) (by rw [HTL.out]; exact fun k hk => HT.out k (by have := HCAP.out; omega)) (by rw [HTL.out]; have := HJ.out; omega))
        have HT1 := Lib.hid (World.there_setCells (by exact HT.out : wr.drew.there g 0 (32 * cap)) g (i * 32) (cellsOf y))
        have HK1 := Lib.hid ((HK.out.drew).trans (keeps_setCells_ g (cellsOf y) (i * 32) wr.drew))
        rw [Nat.zero_add] at HR1
        generalize wr.drew.setCells g (i * 32) (cellsOf y) = w1 at *
        iterate 1
          refine wpS_t rfl (v := ?_) (by rfl) (fun W => ?_) ?_
          rotate_left
          · go_simp
            try rfl
          try simp only [Act.put, List.setIfInBounds_toArray, List.set_cons_zero, List.set_cons_succ]
        refine wpS_e rfl (by rfl) (fun K hK => ?_)
        refine wp_store_sum _ _ (by rfl) g (j * 32) x (by rfl) (by rfl) (fun k hk => by have := HT1.out (j * 32 + k) (by have := HJ.out; have := HCAP.out; omega); rwa [Nat.zero_add] at this) ?_
        refine hK _ _ ?_; clear hK K
        try simp only [Act.put]
        have HR2 := Lib.hid (range_set (i := j) (t := t.set i y) x HR1.out (by rw [List.length_set, HTL.out]; exact fun k hk => HT1.out k (by have := HCAP.out; omega)) (by rw [List.length_set, HTL.out]; have := HJ.out; omega))
        have HT2 := Lib.hid (World.there_setCells HT1.out g (j * 32) (cellsOf x))
        have HK2 := Lib.hid (HK1.out.trans (keeps_setCells_ g (cellsOf x) (j * 32) w1))
        rw [Nat.zero_add] at HR2
        generalize w1.setCells g (j * 32) (cellsOf x) = w2 at *
        have HS2 := Lib.hid (swapped_step HS.out hij (by rw [← HN.out]; exact HJ.out) (by rw [← HN.out]; have := HJ.out; omega) hgx.out hgy.out)
        clear HR HT HK HR1 HT1 HK1 HS hx hy hgx hgy
        refine wpS_done ?_
        go_wp2_with fail
        refine ⟨⟨i + 1, _, _, by simp, rfl, ?_, ?_, HS2.out, HR2.out, HT2.out, HK2.out⟩, by simp [intOf]; omega⟩
        · have := HJ.out; omega
        · omega
      · have hrev : t = l.reverse := swapped_end HS.out (by rw [← HN.out]; omega)
        have HRV := Lib.hid hrev; clear hrev hz
        have hlt' : decide ((i : Int) < z) = false := decide_eq_false hlt
        go_wp2_with fail
        refine bodyPost_end (results_none rfl _ _ _) rfl ⟨rfl, .inr ⟨g, cap, ?_, ?_, ?_, h2, h3, ?_, ?_⟩, HK.out.mono (fun k hk => by rw [hk]; rfl)⟩
        · rw [List.length_reverse, ← HN.out]
        · simpa using h0
        · rw [List.length_reverse, ← HN.out]; exact h1
        · rw [← HRV.out]; exact HR.out
        · exact HT.out
end Go.Proofs.YtdkcndgehgmadaaGreatDoor
