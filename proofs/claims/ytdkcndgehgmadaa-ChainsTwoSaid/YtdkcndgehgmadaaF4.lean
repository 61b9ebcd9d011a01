/-
  Walks: fronts: Add.
-/
import Derived.Test.YtdkcndgehgmadaaF3
open Go Go.RowKit Alm
namespace Go.Proofs.Ytdkcndgehgmadaa
theorem ones_le (n : Nat) : ones n ≤ n := by
  induction n using ones.induct with
  | case1 n h ih => rw [ones, dif_pos h]; omega
  | case2 n h => rw [ones, dif_neg h]; omega
theorem ones_odd {m : Nat} (h : m % 2 = 1) : ones m = ones (m / 2) + 1 := by rw [ones, dif_pos h]
theorem ones_even {m : Nat} (h : m % 2 = 0) : ones m = 0 := by rw [ones, dif_neg (by omega)]
/-- What Add comes to. -/
def Added (w : World) (p : Nat) (v : Value) (l : List Sum) (e : Ending) (w' : World) : Prop :=
  ∃ v', e = .returned (.int .i64 0) ∧ FrontAt w' p v' l ∧ Keeps (fun k => k = p ∨ v.ownBlock = some k) w w' ∧ (∀ k, v'.ownBlock = some k → v.ownBlock = some k ∨ w.heap.size ≤ k)
set_option maxRecDepth 100000 in
set_option maxHeartbeats 1000000 in
theorem add_live (w : World) (p : Nat) (v : Value) (l : List Sum) (s : Sum) (h : FrontAt w p v l) (hl : l.length + 1 < 4000000000) : Calls Try.prog 32 #[.pointer (some ⟨p, 0, none⟩), sv s] w (Added w p v (l ++ [s])) := by
  have hp := h.lt
  have h0 := h.c0
  have h1 := h.c1
  have h2 := h.c2
  have hl' : (l.length : Int) + 1 < 4000000000 := by omega
  have HH := Lib.hid h; clear h
  go_enter Try.func32, Try.ntmps32
  go_wp2_with fail
  go_step3
  go_wp2_with (go_at_call 67; refine (none_live _ p ((World.cell?_alloc_past _ p 0 hp).trans h0)).mono ?_; rintro e w1 ⟨rfl, rfl⟩)
  go_step3
  go_wp2_with fail
  go_loop [5, 6] (fun t n => ∃ j m : Nat, t = .int .i64 (j : Int) ∧ n = .int .u64 (m : Int) ∧ ones l.length = j + ones m ∧ m ≤ l.length) (fun _ n => (intOf n).toNat)
  case atStart => exact ⟨0, l.length, rfl, rfl, by omega, Nat.le_refl _⟩
  case round =>
    obtain ⟨j, m, rfl, rfl, hj, hm⟩ := hrel
    rename_i hww
    clear hww
    have HJ := Lib.hid hj; clear hj
    have hand0 : bits .and .u64 (m : Int) 1 = ((m % 2 : Nat) : Int) := by
      have := u64_and_nat m 1 (by omega) (by omega)
      rwa [Nat.and_one_is_mod] at this
    have hjb : (j : Int) ≤ 4000000000 := by have := ones_le l.length; have := HJ.out; omega
    have hm0 : 0 ≤ (m : Int) := by omega
    have hm1 : (m : Int) < 4000000000 := by omega
    by_cases hodd : m % 2 = 1
    · rw [hodd] at hand0
      have hand : bits .and .u64 (m : Int) 1 = 1 := hand0
      clear hand0
      have HO := Lib.hid hodd; clear hodd
      go_wp2_with fail
      refine ⟨⟨j + 1, m / 2, by simp, by simp, ?_, by omega⟩, by simp [intOf]; have := HO.out; omega⟩
      have h1 := HJ.out
      have h2 := ones_odd HO.out
      omega
    · have hev : m % 2 = 0 := by omega
      rw [hev] at hand0
      have hand : bits .and .u64 (m : Int) 1 = 0 := hand0
      clear hand0 hodd
      have hj : ones l.length = j := by have h1 := HJ.out; have h2 := ones_even hev; omega
      have hjb : j ≤ Alm.bits l.length := by have := ones_le_bits l.length; omega
      have HB := Lib.hid hjb; clear hjb
      have HJ2 := Lib.hid hj; clear hj hev
      have hbl := Lib.hid (bits_le l.length)
      go_wp2_with fail
      have hS : (w.alloc (.cells (cellsOf s).toArray 24)).drew.cell? ⟨p, 2, none⟩ = some v := (World.cell?_alloc_past _ p 2 hp).trans h2
      have HS := Lib.hid hS; clear hS
      have hbx : (w.alloc (.cells (cellsOf s).toArray 24)).rangeAt w.heap.size 0 (cellsOf s) := range_new w _ _ _ rfl
      have hf1 := HH.out.below (al (Below.refl _ _) (.cells (cellsOf s).toArray 24))
      have HF1 := Lib.hid hf1; clear hf1
      have HBX := Lib.hid hbx; clear hbx
      refine wp_region_sched (fun W => W.cell? ⟨p, 2, none⟩ = some v) [.t 0, .t 1, .t 2, .t 3, .t 8, .s 4, .e 5 true, .e 6 true, .e 7 false, .e 9 false, .t 10, .t 11, .e 12 false] (by kernel_rfl) (by kernel_rfl) (by intro c a d v w h; cases d <;> exact h) ?_
      iterate 5
        refine wpS_t rfl (v := ?_) (by rfl) (fun W => ?_) ?_
        rotate_left
        · go_simp
          try rfl
        try simp only [Act.put, List.setIfInBounds_toArray, List.set_cons_zero, List.set_cons_succ]
      refine wpS_s (by exact HS.out) rfl (v := ?_) (by rfl) (fun W hSW => ?_) ?_
      rotate_left
      · go_simp
        try rfl
      try simp only [Act.put, List.setIfInBounds_toArray, List.set_cons_zero, List.set_cons_succ]
      refine wpS_k rfl (by rfl) (fun K hK => ?_)
      refine wp_load_sum _ (by rfl) w.heap.size 0 (by rfl) s (by exact HBX.out) ?_
      refine hK _ _ ⟨by exact HS.out, ?_⟩; clear hK K
      try simp only [Act.put, List.setIfInBounds_toArray, List.set_cons_zero, List.set_cons_succ]
      refine wpS_k rfl (by rfl) (fun K hK => ?_)
      refine wp_build_sums 1 _ (by rfl) [s] rfl (by omega) (by omega) (by rfl) ?_
      refine hK _ _ ⟨by exact (World.cell?_alloc_past _ p 2 (by simp; omega)).trans HS.out, ?_⟩; clear hK K
      try simp only [Act.put, List.setIfInBounds_toArray, List.set_cons_zero, List.set_cons_succ]
      have hf2 : FrontAt ((w.alloc (.cells (cellsOf s).toArray 24)).drew.alloc (.cells (cellsAll [s]).toArray 24)) p v l := FrontAt.below (w := (w.alloc (.cells (cellsOf s).toArray 24)).drew) HF1.out (al (Below.refl _ _) _)
      have hk2 : Keeps (fun k => k = p ∨ v.ownBlock = some k) w ((w.alloc (.cells (cellsOf s).toArray 24)).drew.alloc (.cells (cellsAll [s]).toArray 24)) := ((((Keeps.refl _ w).alloc _).drew).alloc _)
      have hr2 : ((w.alloc (.cells (cellsOf s).toArray 24)).drew.alloc (.cells (cellsAll [s]).toArray 24)).rangeAt (w.alloc (.cells (cellsOf s).toArray 24)).drew.heap.size 0 (cellsAll [s]) := range_new _ _ _ _ rfl
      generalize (w.alloc (.cells (cellsOf s).toArray 24)).drew.heap.size = b2 at *
      generalize ((w.alloc (.cells (cellsOf s).toArray 24)).drew.alloc (.cells (cellsAll [s]).toArray 24)) = W2 at *
      clear HF1 HBX HS
      have HF := Lib.hid hf2; clear hf2
      have HK := Lib.hid hk2; clear hk2
      have HR := Lib.hid hr2; clear hr2
      refine wpS_e rfl (by rfl) (fun K hK => ?_)
      refine wp_append_sums _ _ (by rfl) 0 v (stk nd e0 64 l) [s] (Alm.bits l.length) 1 HF.out.len rfl (by rfl) HF.out.2.1 b2 0 1 (by rfl) HR.out (by omega) (by have := hbl.out; omega) (by omega) ?_
      intro g cap W3 ho3 hg3 hat3 hlt3
      refine hK _ _ ?_; clear hK K
      try simp only [Act.put, List.setIfInBounds_toArray, List.set_cons_zero, List.set_cons_succ]
      have hk3 : Keeps (fun k => k = p ∨ v.ownBlock = some k) w W3 := HK.out.trans (.of_grown hg3 (fun k hk => .inr hk))
      have hne3 : g ≠ p := by
        intro e
        subst e
        rcases hat3 with h | h
        · exact HF.out.2.2.1 h
        · have := HF.out.lt; omega
      have hh3 := (Keeps.of_grown (X := fun k => v.ownBlock = some k) hg3 (fun k hk => hk)).heap HF.out.1 HF.out.2.2.1
      have hgn : v.ownBlock = some g ∨ w.heap.size ≤ g := hat3.imp id (fun h => by rw [h]; exact HK.out.size)
      have HK3 := Lib.hid hk3; clear hk3
      have HN3 := Lib.hid hne3; clear hne3
      have HH3 := Lib.hid hh3; clear hh3
      have HG := Lib.hid hgn; clear hgn
      have HO3 := Lib.hid ho3; clear ho3
      clear hg3 hat3 HR HK
      refine wpS_e rfl (by rfl) (fun K hK => ?_)
      go_simp
      refine (fold_at (stk nd e0 64 l ++ [s]) (Alm.bits l.length + 1) j g cap 0 W3 (by rw [List.length_append, HF.out.len]; rfl) (by have := HB.out; omega) (by exact HO3.out)).mono ?_
      rintro e W4 ⟨rfl, ho4, hk4⟩
      refine hK _ _ ?_; clear hK K
      try simp only [Act.put, List.setIfInBounds_toArray, List.set_cons_zero, List.set_cons_succ]
      have hst : fold2 nd j (stk nd e0 64 l ++ [s]) = stk nd e0 64 (l ++ [s]) := by rw [← HJ2.out]; exact stk_add nd e0 64 l s (by omega)
      have hlen4 : Alm.bits l.length + 1 - j = Alm.bits (l ++ [s]).length := by
        have h1 := congrArg List.length hst
        rw [length_fold2 nd j _ (by rw [List.length_append, HF.out.len, List.length_singleton]; have := HB.out; omega), List.length_append, HF.out.len, length_stk nd e0 64 (l ++ [s]) (by rw [List.length_append, List.length_singleton]; omega)] at h1
        exact h1
      rw [hst, hlen4] at ho4
      rw [hlen4]
      have HO4 := Lib.hid ho4; clear ho4
      have HH4 := Lib.hid (hk4.heap HH3.out (fun h => HN3.out h.symm))
      have HK4 := Lib.hid (HK3.out.trans' hk4 (fun i hi => by subst hi; exact HG.out.imp .inr id))
      clear hst hlen4 hk4
      iterate 2
        refine wpS_t rfl (v := ?_) (by rfl) (fun W => ?_) ?_
        rotate_left
        · go_simp
          try rfl
        try simp only [Act.put, List.setIfInBounds_toArray, List.set_cons_zero, List.set_cons_succ]
      refine wpS_e rfl (by rfl) (fun K hK => ?_)
      have hc4 : W4.cell? ⟨p, 2, none⟩ = some v := by rw [cell_of_row W4 p _ _ _ (0, 0) HH4.out]; rfl
      have hf4 : W4.frozen? ⟨p, 2, none⟩ = false := frozen_of_row W4 p _ _ _ HH4.out
      have hc5 : W4.cell? ⟨p, 1, none⟩ = some (.int .u64 (l.length : Int)) := by rw [cell_of_row W4 p _ _ _ (0, 0) HH4.out]; rfl
      have hf5 : W4.frozen? ⟨p, 1, none⟩ = false := frozen_of_row W4 p _ _ _ HH4.out
      go_simp
      refine hK _ _ ?_; clear hK K
      try simp only [Act.put, List.setIfInBounds_toArray, List.set_cons_zero, List.set_cons_succ]
      refine wpS_done ?_
      go_wp2_with fail
      rw [Exit.noGoto_ret]
      refine bodyPost_ret (results_tmp rfl _ _ _) rfl ?_
      refine ⟨.slice (some ⟨g, 0, none⟩) (Alm.bits (l ++ [s]).length) cap, rfl, ⟨?_, ?_, ?_, ?_, ?_⟩, ?_, ?_⟩
      · have e1 := heap_setCell_same W4 p 2 _ _ (.slice (some ⟨g, 0, none⟩) (Alm.bits (l ++ [s]).length) cap) HH4.out
        have e2 := heap_setCell_same _ p 1 _ _ (.int .u64 ((l ++ [s]).length : Int)) e1
        simpa using e2
      · have h1 : Keeps (· = p) W4 ((W4.setCell ⟨p, 2, none⟩ (.slice (some ⟨g, 0, none⟩) (Alm.bits (l ++ [s]).length) cap)).setCell ⟨p, 1, none⟩ (.int .u64 ((l ++ [s]).length : Int))) := ((Keeps.refl (fun x => x = p) W4).setCell (p := ⟨p, 2, none⟩) (.inl rfl) _).setCell (p := ⟨p, 1, none⟩) (.inl rfl) _
        have h2 := h1.owns HO4.out (fun k hk => by cases hk; exact HN3.out)
        simpa using h2
      · intro e; cases e; exact HN3.out rfl
      · rw [List.length_append, List.length_singleton]; omega
      · intro e; cases l <;> cases e
      · exact (HK4.out.setCell (.inl (.inl rfl)) _).setCell (.inl (.inl rfl)) _
      · intro k hk; cases hk; exact HG.out
end Go.Proofs.Ytdkcndgehgmadaa
