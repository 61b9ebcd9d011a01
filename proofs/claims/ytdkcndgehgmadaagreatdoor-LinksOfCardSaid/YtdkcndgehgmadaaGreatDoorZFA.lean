/-
  Joined: F1, F2, F3, F4, FL.
-/
import Derived.Test.YtdkcndgehgmadaaGreatDoorF0
import Derived.WalkSpells
-- Walks: fronts.fold.
open Go Go.RowKit Alm
namespace Go.Proofs.YtdkcndgehgmadaaGreatDoor
set_option maxRecDepth 100000 in
set_option maxHeartbeats 1000000 in
theorem fold_any (l : List Sum) (k g cap base : Nat) (w : World) (hk : k < l.length) (ho : w.ownsRow base 24 32 (.slice (some ⟨g, 0, none⟩) l.length cap) l.length (cellsAll l)) :
    Calls Tryz.prog 101 #[.slice (some ⟨g, 0, none⟩) l.length cap, .int .i64 k, .func (.func 69) #[] #[]] w fun e w' =>
      e = .returned (.slice (some ⟨g, 0, none⟩) (l.length - k) cap) ∧ w'.ownsRow base 24 32 (.slice (some ⟨g, 0, none⟩) (l.length - k) cap) (l.length - k) (cellsAll (fold2 nd k l)) ∧ Keeps (· = g) w w' := by
  have hkm : k < 9223372036854775807 := by
    obtain ⟨g', cap', he, h1, h2, _, _⟩ := own_range ho (by omega)
    unfold maxLen at h2
    simp only [Value.slice.injEq, Option.some.injEq, Addr.mk.injEq, and_true] at he
    omega
  go_enter Tryz.func101, Tryz.ntmps101
  go_wp2_with fail
  go_loopw [0, 9] (fun v i W => ∃ j : Nat, j ≤ k ∧ i = .int .i64 (j : Int) ∧ v = .slice (some ⟨g, 0, none⟩) (l.length - j) cap ∧ W.ownsRow base 24 32 (.slice (some ⟨g, 0, none⟩) (l.length - j) cap) (l.length - j) (cellsAll (fold2 nd j l)) ∧ Keeps (· = g) w W) (fun _ i _ => k - (intOf i).toNat)
  case atStart => exact ⟨0, by omega, rfl, rfl, ho, Keeps.refl _ _⟩
  case round =>
    clear ho
    obtain ⟨j, hj, rfl, rfl, ho, hg⟩ := hrel
    by_cases hlt : j < k
    · have hlt' : (j : Int) < (k : Int) := by omega
      obtain ⟨q, hq⟩ : ∃ q, l.length - j = q + 2 := ⟨l.length - j - 2, by omega⟩
      rw [hq] at ho ⊢
      have hq1 : l.length - (j + 1) = q + 1 := by omega
      have hfl : (fold2 nd j l).length = q + 2 := by rw [length_fold2 _ _ _ (by omega)]; exact hq
      obtain ⟨r, x, y, hr⟩ := exists_two (l := fold2 nd j l) (by omega)
      have hfn : fold2 nd (j + 1) l = r ++ [nd x y] := by rw [fold2_add _ j 1 _ (by omega), hr, fold2_two]; rfl
      rw [hr] at ho hfl
      have hrl : r.length = q := by simp at hfl; exact hfl
      obtain ⟨hg2, hg3⟩ : q + 2 ≤ cap ∧ cap ≤ maxLen := by
        obtain ⟨g', cap', he, h1, h2, _, _⟩ := own_range ho (by omega)
        simp only [Value.slice.injEq, Option.some.injEq, Addr.mk.injEq, and_true] at he
        omega
      unfold maxLen at hg3
      have hrg := own_sum_range ho
      have hx := range_at hrg (i := q) (by omega)
      have hy := range_at hrg (i := q + 1) (by omega)
      rw [Nat.zero_add] at hx hy
      have ex : (r ++ [x, y])[q]'(by omega) = x := by simp [List.getElem_append_right, hrl]
      have ey : (r ++ [x, y])[q + 1]'(by omega) = y := by simp [List.getElem_append_right, hrl]
      rw [ex] at hx
      rw [ey] at hy
      clear hrg ex ey
      have w1 : IntKind.i64.wrap (q : Int) = (q : Int) := by rw [IntKind.wrap_i64]; omega
      have w2 : IntKind.i64.wrap ((q : Int) + 1) = (q : Int) + 1 := by rw [IntKind.wrap_i64]; omega
      have w3 : IntKind.i64.wrap ((q : Int) + 2 - 1) = (q : Int) + 1 := by rw [IntKind.wrap_i64]; omega
      have b1 : (q : Int) ≤ (cap : Int) := by omega
      have b2 : (q : Int) < (q : Int) + 2 := by omega
      have b4 : ¬ ((q : Int) + 1 < 0) := by omega
      have b5 : (0 : Int) ≤ (q : Int) + 1 := by omega
      have b3 : (q : Int) + 1 < (q : Int) + 2 := by omega
      have HQ := Lib.hid hq; clear hq
      have HQ1 := Lib.hid hq1; clear hq1
      have H3 := Lib.hid (And.intro hg2 hg3); clear hg2 hg3
      have HR := Lib.hid hr; clear hr
      have HF := Lib.hid hfl; clear hfl
      have HL := Lib.hid hrl; clear hrl
      have HN := Lib.hid hfn; clear hfn
      have HO := Lib.hid ho; clear ho
      have HG := Lib.hid hg; clear hg
      have HX := Lib.hid hx; clear hx
      have HY := Lib.hid hy; clear hy
      go_wp2_with fail
      refine wp_region_sched (fun W => W.rangeAt g (q * 32) (cellsOf x) ∧ W.rangeAt g ((q + 1) * 32) (cellsOf y)) [.t 0, .t 1, .t 2, .t 3, .t 4, .t 5, .t 6, .t 7, .t 8, .s 9, .t 10, .t 11, .t 12, .t 13, .s 14, .e 15 false, .e 16 false, .e 17 false, .t 18] (by kernel_rfl) (by kernel_rfl) (by intro c a d v w h; cases d <;> exact h) ?_
      iterate 9
        refine wpS_t rfl (v := ?_) (by rfl) (fun W => ?_) ?_
        rotate_left
        · go_simp
          try rfl
        try simp only [Act.put, List.setIfInBounds_toArray, List.set_cons_zero, List.set_cons_succ]
      refine wpS_load_sum (by exact ⟨HX.out, HY.out⟩) rfl (by rfl) _ (by rfl) g (q * 32) (by rfl) x (fun W hW => hW.1) ?_
      try simp only [Act.put, List.setIfInBounds_toArray, List.set_cons_zero, List.set_cons_succ]
      iterate 4
        refine wpS_t rfl (v := ?_) (by rfl) (fun W => ?_) ?_
        rotate_left
        · go_simp
          try rfl
        try simp only [Act.put, List.setIfInBounds_toArray, List.set_cons_zero, List.set_cons_succ]
      refine wpS_load_sum (by exact ⟨HX.out, HY.out⟩) rfl (by rfl) _ (by rfl) g ((q + 1) * 32) (by rfl) y (fun W hW => hW.2) ?_
      try simp only [Act.put, List.setIfInBounds_toArray, List.set_cons_zero, List.set_cons_succ]
      refine wpS_e rfl (by rfl) (fun K hK => ?_)
      go_simp
      obtain ⟨z, hz⟩ : ∃ z, z = nd x y := ⟨_, rfl⟩
      refine (nd_any x y _).mono ?_
      rw [← hz] at HN ⊢
      have HZ := Lib.hid hz; clear hz
      rintro e w1 ⟨rfl, hb1⟩
      refine hK _ _ ?_; clear hK K
      try simp only [Act.put, List.setIfInBounds_toArray, List.set_cons_zero, List.set_cons_succ]
      have ho1 := (Keeps.of_below (X := fun _ => False) hb1).owns (HO.out : wr.drew.ownsRow _ _ _ _ _ _) (fun _ _ h => h)
      have hg1 : Keeps (· = g) w w1 := HG.out.drew.trans (.of_below hb1)
      rw [cellsAll_append] at ho1
      have HO1 := Lib.hid ho1; clear ho1
      have HG1 := Lib.hid hg1; clear hg1 hb1
      refine wpS_e rfl (by rfl) (fun K hK => ?_)
      refine wp_build_sums 1 _ (by rfl) [z] rfl (by omega) (by omega) (by rfl) ?_
      refine hK _ _ ?_; clear hK K
      try simp only [Act.put, List.setIfInBounds_toArray, List.set_cons_zero, List.set_cons_succ]
      refine wpS_e rfl (by rfl) (fun K hK => ?_)
      refine wp_append_sum_fits _ _ (by rfl) base g q cap r HL.out (by rfl) (own_take (n := q) (m := 2) ((HO1.out.alloc _)) (by rw [length_cellsAll, HL.out]; omega)) w1.heap.size 0 1 z (by rfl) (by rw [cellsAll_one]; exact range_new w1 _ _ _ rfl) (by have := H3.out; omega) ?_
      intro w2 ho2 hg2
      refine hK _ _ ?_; clear hK K
      try simp only [Act.put, List.setIfInBounds_toArray, List.set_cons_zero, List.set_cons_succ]
      have HO2 := Lib.hid ho2; clear ho2
      have HG2 := Lib.hid (HG1.out.trans (((Keeps.refl (· = g) w1).alloc _).trans (.of_grown hg2 (fun k hk => by simpa using hk.symm)))); clear hg2
      iterate 1
        refine wpS_t rfl (v := ?_) (by rfl) (fun W => ?_) ?_
        rotate_left
        · go_simp
          try rfl
        try simp only [Act.put, List.setIfInBounds_toArray, List.set_cons_zero]
      refine wpS_done ?_
      go_wp2_with fail
      refine ⟨⟨j + 1, by omega, by simp, by rw [HQ1.out], by rw [HQ1.out, HN.out]; exact HO2.out, HG2.out⟩, by simp [intOf]; omega⟩
    · have hjk : j = k := by omega
      subst hjk
      have HO := Lib.hid ho; clear ho
      go_wp2_with fail
      exact bodyPost_ret (results_tmp rfl _ _ _) rfl ⟨rfl, HO.out, hg⟩
theorem fold_at (l : List Sum) (n k g cap base : Nat) (w : World) (hn : l.length = n) (hk : k < n) (ho : w.ownsRow base 24 32 (.slice (some ⟨g, 0, none⟩) n cap) n (cellsAll l)) :
    Calls Tryz.prog 101 #[.slice (some ⟨g, 0, none⟩) n cap, .int .i64 k, .func (.func 69) #[] #[]] w fun e w' =>
      e = .returned (.slice (some ⟨g, 0, none⟩) (n - k) cap) ∧ w'.ownsRow base 24 32 (.slice (some ⟨g, 0, none⟩) (n - k) cap) (n - k) (cellsAll (fold2 nd k l)) ∧ Keeps (· = g) w w' := by
  subst hn; exact fold_any l k g cap base w hk ho
end Go.Proofs.YtdkcndgehgmadaaGreatDoor
-- Walks: fronts: New, none, Size, Sums, Clone, Clip.
open Go Go.RowKit Alm
namespace Go.Proofs.YtdkcndgehgmadaaGreatDoor
theorem bits_zero : Alm.bits 0 = 0 := by rw [Alm.bits]; simp
/-- A front of leaves, behind pointer p. -/
def FrontAt (w : World) (p : Nat) (v : Value) (l : List Sum) : Prop :=
  w.heap[p]? = some (.cells #[.int .i64 1, .int .u64 (l.length : Int), v] 104 (0, 0)) ∧ w.ownsRow 0 24 32 v (Alm.bits l.length) (cellsAll (stk nd e0 64 l)) ∧ v.ownBlock ≠ some p ∧ l.length < 4000000000 ∧ (l = [] → v = .slice none 0 0)
theorem FrontAt.keep {X : Nat → Prop} {w w' : World} {p : Nat} {v : Value} {l : List Sum} (h : FrontAt w p v l) (hk : Keeps X w w') (hp : ¬ X p) (hv : ∀ k, v.ownBlock = some k → ¬ X k) : FrontAt w' p v l :=
  ⟨hk.heap h.1 hp, hk.owns h.2.1 hv, h.2.2.1, h.2.2.2⟩
theorem FrontAt.below {w w' : World} {p : Nat} {v : Value} {l : List Sum} (h : FrontAt w p v l) (hk : Below w.heap.size w w') : FrontAt w' p v l :=
  h.keep (X := fun _ => False) (.of_below hk) (fun h => h) (fun _ _ h => h)
theorem FrontAt.lt {w : World} {p : Nat} {v : Value} {l : List Sum} (h : FrontAt w p v l) : p < w.heap.size := (Array.getElem?_eq_some_iff.1 h.1).1
theorem FrontAt.c0 {w : World} {p : Nat} {v : Value} {l : List Sum} (h : FrontAt w p v l) : w.cell? ⟨p, 0, none⟩ = some (.int .i64 1) := by
  rw [cell_of_row w p _ _ _ (0, 0) h.1]; rfl
theorem FrontAt.c1 {w : World} {p : Nat} {v : Value} {l : List Sum} (h : FrontAt w p v l) : w.cell? ⟨p, 1, none⟩ = some (.int .u64 (l.length : Int)) := by
  rw [cell_of_row w p _ _ _ (0, 0) h.1]; rfl
theorem FrontAt.c2 {w : World} {p : Nat} {v : Value} {l : List Sum} (h : FrontAt w p v l) : w.cell? ⟨p, 2, none⟩ = some v := by
  rw [cell_of_row w p _ _ _ (0, 0) h.1]; rfl
theorem new_front (w : World) : Calls Tryz.prog 17 #[] w fun e w' => e = .returned (.pointer (some ⟨w.heap.size, 0, none⟩)) ∧ FrontAt w' w.heap.size (.slice none 0 0) [] ∧ Below w.heap.size w w' := by
  have hf : FrontAt (w.alloc (.cells #[.int .i64 1, .int .u64 0, .slice none 0 0] 104)) w.heap.size (.slice none 0 0) [] :=
    ⟨heap_alloc_new w _, by rw [stk_nil, List.length_nil, bits_zero]; exact World.ownsRow_nil _ _ _ _, by simp [Value.ownBlock], by simp, fun _ => rfl⟩
  have HF := Lib.hid hf; clear hf
  go_enter Tryz.func17, Tryz.ntmps17
  go_wp2_with fail
  exact bodyPost_ret (results_tmp rfl _ _ _) rfl ⟨rfl, HF.out, al (Below.refl _ _) _⟩
theorem none_live (w : World) (p : Nat) (hc : w.cell? ⟨p, 0, none⟩ = some (.int .i64 1)) : Calls Tryz.prog 99 #[.pointer (some ⟨p, 0, none⟩)] w fun e w' => e = .returned (.bool false) ∧ w = w' := by
  go_enter Tryz.func99, Tryz.ntmps99
  go_wp2_with fail
  exact bodyPost_ret (results_tmp rfl _ _ _) rfl ⟨rfl, rfl⟩
theorem size_live (w : World) (p : Nat) (v : Value) (l : List Sum) (h : FrontAt w p v l) : Calls Tryz.prog 19 #[.pointer (some ⟨p, 0, none⟩)] w fun e w' => e = .returned (.int .u64 (l.length : Int)) ∧ w = w' := by
  have h0 := h.c0
  have h1 := h.c1
  clear h
  go_enter Tryz.func19, Tryz.ntmps19
  go_wp2_with (go_at_call 99; refine (none_live _ p h0).mono ?_; rintro e w1 ⟨rfl, rfl⟩)
  exact bodyPost_ret (results_tmp rfl _ _ _) rfl ⟨rfl, rfl⟩
/-- A row of sums that is new (from base on), or nil. -/
def SumsNew (w : World) (base : Nat) (v : Value) (l : List Sum) : Prop :=
  (v = .slice none 0 0 ∧ l = []) ∨ ∃ g cap, v = .slice (some ⟨g, 0, none⟩) l.length cap ∧ l ≠ [] ∧ l.length ≤ cap ∧ cap ≤ maxLen ∧ base ≤ g ∧ w.rangeAt g 0 (cellsAll l) ∧ w.there g 0 (32 * cap)
theorem SumsNew.sums {w : World} {base : Nat} {v : Value} {l : List Sum} (h : SumsNew w base v l) : SumsAt w v l := by
  rcases h with ⟨rfl, rfl⟩ | ⟨g, cap, rfl, h0, h1, h2, h3, h4, h5⟩
  · exact ⟨none, 0, rfl, Nat.le_refl _, by unfold maxLen; omega, .inl rfl⟩
  · exact ⟨_, cap, rfl, h1, h2, .inr ⟨g, 0, rfl, h4⟩⟩
theorem SumsNew.own {w : World} {base : Nat} {v : Value} {l : List Sum} (h : SumsNew w base v l) : ∀ k, v.ownBlock = some k → base ≤ k := by
  intro k hk
  rcases h with ⟨rfl, rfl⟩ | ⟨g, cap, rfl, h0, h1, h2, h3, h4, h5⟩
  · cases hk
  · simp only [Value.ownBlock, Option.some.injEq] at hk; omega
theorem SumsNew.keep {X : Nat → Prop} {w w' : World} {base : Nat} {v : Value} {l : List Sum} (h : SumsNew w base v l) (hk : Keeps X w w') (hv : ∀ k, v.ownBlock = some k → ¬ X k) : SumsNew w' base v l := by
  rcases h with ⟨rfl, rfl⟩ | ⟨g, cap, rfl, h0, h1, h2, h3, h4, h5⟩
  · exact .inl ⟨rfl, rfl⟩
  · exact .inr ⟨g, cap, rfl, h0, h1, h2, h3, hk.range h4 (hv g rfl), hk.there h5 (by have := List.length_pos_iff.2 h0; omega) (hv g rfl)⟩
theorem SumsNew.mono {w : World} {base base' : Nat} {v : Value} {l : List Sum} (h : SumsNew w base v l) (hb : base' ≤ base) : SumsNew w base' v l := by
  rcases h with h | ⟨g, cap, rfl, h0, h1, h2, h3, h4, h5⟩
  · exact .inl h
  · exact .inr ⟨g, cap, rfl, h0, h1, h2, by omega, h4, h5⟩
theorem own_new {w : World} {base : Nat} {v : Value} {l : List Sum} (h : w.ownsRow base 24 32 v l.length (cellsAll l)) (h0 : l ≠ []) : SumsNew w base v l := by
  rcases h.2 with ⟨_, h2⟩ | ⟨g, cap, cur, rfl, hb, hg, hnc, hcm, hsz, htk⟩
  · exact (h0 (List.length_eq_zero_iff.1 h2)).elim
  · refine .inr ⟨g, cap, rfl, h0, hnc, hcm, hb, own_sum_range h, fun j hj => ⟨?_, frozen_of_row w g _ cur _ hg⟩⟩
    rw [cell_of_row w g _ cur _ (0, 0) hg, Nat.zero_add, Array.getElem?_eq_getElem (by rw [hsz]; omega)]; rfl
theorem own_new' {w : World} {base : Nat} {v : Value} {l : List Sum} (h : w.ownsRow base 24 32 v l.length (cellsAll l)) (h0 : l = [] → v = .slice none 0 0) : SumsNew w base v l := by
  by_cases hl : l = []
  · exact .inl ⟨h0 hl, hl⟩
  · exact own_new h hl
theorem clip_sums (w : World) (base : Nat) (v : Value) (l : List Sum) (h : SumsNew w base v l) : Calls Tryz.prog 64 #[v] w fun e w' => ∃ v', e = .returned v' ∧ SumsNew w base v' l ∧ w = w' := by
  rcases h with ⟨rfl, rfl⟩ | ⟨g, cap, rfl, h0, h1, h2, h3, h4, h5⟩
  · go_enter Tryz.func64, Tryz.ntmps64
    go_wp2_with fail
    exact bodyPost_ret (results_tmp rfl _ _ _) rfl ⟨_, rfl, .inl ⟨rfl, rfl⟩, rfl⟩
  · have hn : SumsNew w base (.slice (some ⟨g, 0, none⟩) l.length l.length) l := .inr ⟨g, l.length, rfl, h0, Nat.le_refl _, by omega, h3, h4, fun j hj => h5 j (by omega)⟩
    have HN := Lib.hid hn; clear hn
    clear h4 h5
    obtain ⟨n, hn⟩ : ∃ n, n = l.length := ⟨_, rfl⟩
    rw [← hn] at HN h1 ⊢
    have HH := Lib.hid hn; clear hn
    have k1 : (n : Int) ≤ (cap : Int) := by omega
    unfold maxLen at h2
    go_enter Tryz.func64, Tryz.ntmps64
    go_wp2_with fail
    refine bodyPost_ret (results_tmp rfl _ _ _) rfl ?_
    exact ⟨_, rfl, HN.out, rfl⟩
end Go.Proofs.YtdkcndgehgmadaaGreatDoor
-- Walks: slices.Clone of sums; fronts: Sums, Root.
open Go Go.RowKit Alm
namespace Go.Proofs.YtdkcndgehgmadaaGreatDoor
set_option maxRecDepth 100000 in
theorem clone_sums (w : World) (v : Value) (l : List Sum) (h : SumsAt w v l) (h0 : v = .slice none 0 0 ∨ l ≠ []) (hl : l.length < 4000000000) : Calls Tryz.prog 100 #[v] w fun e w' => ∃ v', e = .returned v' ∧ w'.ownsRow w.heap.size 24 32 v' l.length (cellsAll l) ∧ (l = [] → v' = .slice none 0 0) ∧ Below w.heap.size w w' := by
  have e1 := @Lib.run_eql_slice_nil Tryz.prog
  obtain ⟨a, cap, rfl, h1, h2, h3⟩ := h
  by_cases hn : l = []
  · subst hn
    obtain ⟨rfl, rfl⟩ : a = none ∧ cap = 0 := by
      rcases h0 with h | h
      · simpa using h
      · exact (h rfl).elim
    go_enter Tryz.func100, Tryz.ntmps100
    go_wp2_with fail
    refine bodyPost_ret (results_tmp rfl _ _ _) rfl ?_
    exact ⟨_, rfl, World.ownsRow_nil _ _ _ _, rfl, Below.refl _ _⟩
  · obtain ⟨b, o, rfl, hr⟩ := h3.resolve_left hn
    go_enter Tryz.func100, Tryz.ntmps100
    have hr1 := range_below (al (Below.refl _ _) (.cells #[] 24)) hr (range_lt hr (by intro h; have := length_cellsAll l; rw [h] at this; exact hn (List.length_eq_zero_iff.1 (by simp at this; omega))))
    have hown : (w.alloc (.cells #[] 24)).ownsRow w.heap.size 24 32 (.slice (some ⟨w.heap.size, 0, none⟩) 0 0) 0 (cellsAll []) := World.ownsRow_made w #[] 0 (Nat.le_refl _) (by unfold maxLen; omega) rfl
    have hB := al (Below.refl w.heap.size w) (.cells #[] 24)
    have hpos : 0 < l.length := List.length_pos_iff.2 hn
    go_wp2_with (at_builtin; refine wpList_append_sums rfl _ _ rfl w.heap.size _ [] l 0 l.length rfl rfl rfl hown b o cap rfl hr1 hpos (by omega) (by simp) ?_; intro g c2 w2 ho2 hg2 hat2 hlt2)
    rw [Nat.zero_add, List.nil_append] at ho2
    refine bodyPost_ret (results_tmp rfl _ _ _) rfl ?_
    exact ⟨_, rfl, by rw [← Nat.zero_add l.length] at ho2 ⊢; exact ho2, fun h => (hn h).elim, hB.grown hg2 (by simp) (fun k hk => by cases hk; exact Nat.le_refl _)⟩
theorem stk_ne {l : List Sum} (h : l ≠ []) (hl : l.length < 4000000000) : stk nd e0 64 l ≠ [] := by
  intro e
  have h1 := length_stk nd e0 64 l (by omega)
  have h2 := bits_pos (List.length_pos_iff.2 h)
  rw [e, List.length_nil] at h1
  omega
theorem FrontAt.len {w : World} {p : Nat} {v : Value} {l : List Sum} (h : FrontAt w p v l) : (stk nd e0 64 l).length = Alm.bits l.length := length_stk nd e0 64 l (by have := h.2.2.2.1; omega)
theorem FrontAt.sums {w : World} {p : Nat} {v : Value} {l : List Sum} (h : FrontAt w p v l) : SumsAt w v (stk nd e0 64 l) := by
  have h1 := h.2.1
  rw [← h.len] at h1
  exact sums_own h1
theorem bits_le (n : Nat) : Alm.bits n ≤ n := by
  induction n using Alm.bits.induct with
  | case1 => rw [Alm.bits]; simp
  | case2 n h ih => rw [Alm.bits, dif_neg h]; omega
theorem FrontAt.nil {w : World} {p : Nat} {v : Value} {l : List Sum} (h : FrontAt w p v l) : v = .slice none 0 0 ∨ stk nd e0 64 l ≠ [] := by
  by_cases hl : l = []
  · exact .inl (h.2.2.2.2 hl)
  · exact .inr (stk_ne hl h.2.2.2.1)
theorem sums_live (w : World) (p : Nat) (v : Value) (l : List Sum) (h : FrontAt w p v l) : Calls Tryz.prog 18 #[.pointer (some ⟨p, 0, none⟩)] w fun e w' => ∃ v', e = .returned v' ∧ SumsNew w' w.heap.size v' (stk nd e0 64 l) ∧ Below w.heap.size w w' := by
  have h0 := h.c0
  have h1 := h.c2
  have hs := h.sums
  have hn := h.nil
  have hl : (stk nd e0 64 l).length < 4000000000 := by have := h.len; have := bits_le l.length; have := h.2.2.2.1; omega
  clear h
  generalize stk nd e0 64 l = t at *
  go_enter Tryz.func18, Tryz.ntmps18
  go_wp2_with (go_at_call 99; refine (none_live _ p h0).mono ?_; rintro e w1 ⟨rfl, rfl⟩)
  refine (clone_sums _ v t hs hn hl).mono ?_
  rintro e w1 ⟨v1, rfl, ho1, hn1, hb1⟩
  have hS := own_new' ho1 hn1
  clear ho1 hn1 hs hn
  go_wp2_with fail
  refine (clip_sums _ _ v1 t hS).mono ?_
  rintro e w2 ⟨v2, rfl, hS2, rfl⟩
  go_wp2_with fail
  refine bodyPost_ret (results_tmp rfl _ _ _) rfl ?_
  exact ⟨_, rfl, hS2, hb1⟩
set_option maxRecDepth 100000 in
set_option maxHeartbeats 1000000 in
theorem root_live (w : World) (p : Nat) (v : Value) (l : List Sum) (h : FrontAt w p v l) : Calls Tryz.prog 20 #[.pointer (some ⟨p, 0, none⟩)] w fun e w' => e = .returned (sv (rt l)) ∧ Below w.heap.size w w' := by
  have R0 : Res w 32 (w.alloc (.cells (cells8 (List.replicate 32 0)).toArray 24)) := Res.start _ _ _ _ (by rfl)
  have hw := h.below R0.below
  have hp := h.lt
  have h0 := h.c0
  have h1 := h.c1
  have h2 := h.c2
  have hs := hw.sums
  have hn := hw.nil
  have hl : (stk nd e0 64 l).length < 4000000000 := by have := h.len; have := bits_le l.length; have := h.2.2.2.1; omega
  have hlen := h.2.2.2.1
  by_cases hnil : l = []
  · subst hnil
    clear h hw hs hn hl hlen
    simp only [List.length_nil, Int.ofNat_zero] at h1
    go_enter Tryz.func20, Tryz.ntmps20
    go_wp2_with (go_at_call 99; refine (none_live _ p ((World.cell?_alloc_past _ p 0 hp).trans h0)).mono ?_; rintro e w1 ⟨rfl, rfl⟩)
    have hst := @run_store Tryz.prog
    refine (rt_any [] _ (w.alloc (.cells (cells8 (List.replicate 32 0)).toArray 24)) ⟨none, 0, rfl, Nat.le_refl _, by decide, .inl rfl⟩).mono ?_
    rintro e w1 ⟨rfl, hb⟩
    have R2 := R0.call (by omega) hb
    go_wp2_with (refine wpList_store_sum rfl _ _ rfl w.heap.size 0 (rt []) rfl rfl R2.there ?_)
    have RS := R2.store (cellsOf (rt []))
    exact bodyPost_ret (results_sum Tryz.results20 _ _ _ _ rfl RS.there) rfl ⟨rfl, RS.below⟩
  · have hne := stk_ne hnil hlen
    have hroot := stk_root nd e0 64 l hnil (by omega)
    rw [← rt_eq] at hroot
    have hlp : ((l.length : Int) == 0) = false := by
      have := List.length_pos_iff.2 hnil
      rw [beq_eq_false_iff_ne]; omega
    have ho := h.2.1
    rw [← h.len] at ho
    clear h hw hn hlen hnil
    generalize stk nd e0 64 l = t at *
    obtain ⟨g, cap, hv, hnc, hcm, -, -⟩ := own_range ho (List.length_pos_iff.2 hne)
    clear ho
    subst hv
    obtain ⟨q, hq⟩ : ∃ q, t.length = q + 1 := ⟨t.length - 1, by have := List.length_pos_iff.2 hne; omega⟩
    rw [hq] at h2 hs hnc hroot
    have hl' : q + 1 < 4000000000 := by omega
    have HQ := Lib.hid hq; clear hq hl
    have HR := Lib.hid hroot; clear hroot
    have HS := Lib.hid hs; clear hs
    unfold maxLen at hcm
    have wq : IntKind.i64.wrap (q : Int) = (q : Int) := by rw [IntKind.wrap_i64]; omega
    go_enter Tryz.func20, Tryz.ntmps20
    go_wp2_with (go_at_call 99; refine (none_live _ p ((World.cell?_alloc_past _ p 0 hp).trans h0)).mono ?_; rintro e w1 ⟨rfl, rfl⟩)
    have hS : (w.alloc (.cells (cells8 (List.replicate 32 0)).toArray 24)).drew.cell? ⟨p, 2, none⟩ = some (.slice (some ⟨g, 0, none⟩) (q + 1) cap) := (World.cell?_alloc_past _ p 2 hp).trans h2
    have HSS := Lib.hid hS; clear hS
    refine wp_region_sched (fun W => W.cell? ⟨p, 2, none⟩ = some (.slice (some ⟨g, 0, none⟩) (q + 1) cap)) [.t 0, .t 1, .t 2, .t 5, .t 6, .t 7, .s 3, .s 8, .t 9, .t 10, .e 4 true, .e 11 false, .t 12, .e 13 false, .e 14 false] (by kernel_rfl) (by kernel_rfl) (by intro c a d v w h; cases d <;> exact h) ?_
    iterate 6
      refine wpS_t rfl (v := ?_) (by rfl) (fun W => ?_) ?_
      rotate_left
      · go_simp
        try rfl
      try simp only [Act.put, List.setIfInBounds_toArray, List.set_cons_zero, List.set_cons_succ]
    refine wpS_s (by exact HSS.out) rfl (v := ?_) (by rfl) (fun W hSW => ?_) ?_
    rotate_left
    · go_simp
      try rfl
    try simp only [Act.put, List.setIfInBounds_toArray, List.set_cons_zero, List.set_cons_succ]
    refine wpS_s (by exact HSS.out) rfl (v := ?_) (by rfl) (fun W hSW => ?_) ?_
    rotate_left
    · go_simp
      try rfl
    try simp only [Act.put, List.setIfInBounds_toArray, List.set_cons_zero, List.set_cons_succ]
    iterate 2
      refine wpS_t rfl (v := ?_) (by rfl) (fun W => ?_) ?_
      rotate_left
      · go_simp
        try rfl
      try simp only [Act.put, List.setIfInBounds_toArray, List.set_cons_zero, List.set_cons_succ]
    refine wpS_k rfl (by rfl) (fun K hK => ?_)
    go_simp
    refine (clone_sums _ _ t (by exact HS.out) (.inr hne) (by have := HQ.out; omega)).mono ?_
    rintro e w1 ⟨v1, rfl, ho1, -, hb1⟩
    obtain ⟨g1, cap1, hv1, hnc1, hcm1, hg1, -⟩ := own_range ho1 (List.length_pos_iff.2 hne)
    subst hv1
    rw [HQ.out] at ho1 hnc1
    have HO := Lib.hid ho1; clear ho1
    have R1 : Res w 32 w1 := R0.drew.call (by omega) hb1
    have HW1 := Lib.hid ((hb1.cell (p := ⟨p, 2, none⟩) (by simp; omega)).trans HSS.out)
    have hgl : w.heap.size < g1 := by simp at hg1; omega
    clear hb1 hg1
    rw [HQ.out]
    refine hK _ _ ⟨by exact HW1.out, ?_⟩; clear hK K
    try simp only [Act.put, List.setIfInBounds_toArray, List.set_cons_zero, List.set_cons_succ]
    refine wpS_e rfl (by rfl) (fun K hK => ?_)
    go_simp
    refine (fold_at t (q + 1) q g1 cap1 _ w1 HQ.out (by omega) (by exact HO.out)).mono ?_
    rintro e w2 ⟨rfl, ho2, hk2⟩
    rw [show q + 1 - q = 1 from by omega] at ho2 ⊢
    have hx : w2.rangeAt g1 0 (cellsOf (rt l)) := by
      have := HR.out
      rw [Nat.add_sub_cancel] at this
      rw [this] at ho2
      have := own_sum_range ho2
      rwa [cellsAll_one] at this
    have R2 : Res w 32 w2 := R1.call_at (B := g1) (hk2.below (Nat.le_of_lt (own_lt HO.out rfl)) (fun k hk => by omega)) hgl
    clear ho2 hk2
    refine hK _ _ ?_; clear hK K
    try simp only [Act.put, List.setIfInBounds_toArray, List.set_cons_zero, List.set_cons_succ]
    iterate 1
      refine wpS_t rfl (v := ?_) (by rfl) (fun W => ?_) ?_
      rotate_left
      · go_simp
        try rfl
      try simp only [Act.put, List.setIfInBounds_toArray, List.set_cons_zero, List.set_cons_succ]
    refine wpS_e rfl (by rfl) (fun K hK => ?_)
    refine wp_load_sum _ (by rfl) g1 0 (by rfl) (rt l) hx ?_
    refine hK _ _ ?_; clear hK K
    try simp only [Act.put, List.setIfInBounds_toArray, List.set_cons_zero, List.set_cons_succ]
    refine wpS_e rfl (by rfl) (fun K hK => ?_)
    refine wp_store_sum _ _ (by rfl) w.heap.size 0 (rt l) (by rfl) (by rfl) R2.there ?_
    refine hK _ _ ?_; clear hK K
    try simp only [Act.put]
    have RS := R2.store (cellsOf (rt l))
    refine wpS_done ?_
    go_wp2_with fail
    exact bodyPost_ret (results_sum Tryz.results20 _ _ _ _ rfl RS.there) rfl ⟨rfl, RS.below⟩
end Go.Proofs.YtdkcndgehgmadaaGreatDoor
-- Walks: fronts: Add.
open Go Go.RowKit Alm
namespace Go.Proofs.YtdkcndgehgmadaaGreatDoor
theorem ones_le (n : Nat) : ones n ≤ n := by
  induction n using ones.induct with
  | case1 n h ih => rw [ones, dif_pos h]; omega
  | case2 n h => rw [ones, dif_neg h]; omega
theorem ones_odd {m : Nat} (h : m % 2 = 1) : ones m = ones (m / 2) + 1 := by rw [ones, dif_pos h]
theorem ones_even {m : Nat} (h : m % 2 = 0) : ones m = 0 := by rw [ones, dif_neg (by omega)]
/-- What Add comes to. -/
def Added (w : World) (p : Nat) (v : Value) (l : List Sum) (e : Ending) (w' : World) : Prop :=
  ∃ v', e = .returned (.int .i64 0) ∧ FrontAt w' p v' l ∧ Keeps (fun k => k = p ∨ v.ownBlock = some k) w w' ∧ (∀ k, v'.ownBlock = some k → v.ownBlock = some k ∨ w.heap.size ≤ k)
set_option maxRecDepth 100000 in
set_option maxHeartbeats 1000000 in
theorem add_live (w : World) (p : Nat) (v : Value) (l : List Sum) (s : Sum) (h : FrontAt w p v l) (hl : l.length + 1 < 4000000000) : Calls Tryz.prog 23 #[.pointer (some ⟨p, 0, none⟩), sv s] w (Added w p v (l ++ [s])) := by
  have hp := h.lt
  have h0 := h.c0
  have h1 := h.c1
  have h2 := h.c2
  have hl' : (l.length : Int) + 1 < 4000000000 := by omega
  have HH := Lib.hid h; clear h
  go_enter Tryz.func23, Tryz.ntmps23
  go_wp2_with fail
  go_step3
  go_wp2_with (go_at_call 99; refine (none_live _ p ((World.cell?_alloc_past _ p 0 hp).trans h0)).mono ?_; rintro e w1 ⟨rfl, rfl⟩)
  go_step3
  go_wp2_with fail
  go_loop [5, 6] (fun t n => ∃ j m : Nat, t = .int .i64 (j : Int) ∧ n = .int .u64 (m : Int) ∧ ones l.length = j + ones m ∧ m ≤ l.length) (fun _ n => (intOf n).toNat)
  case atStart => exact ⟨0, l.length, rfl, rfl, by omega, Nat.le_refl _⟩
  case round =>
    obtain ⟨j, m, rfl, rfl, hj, hm⟩ := hrel
    rename_i hww
    clear hww
    have HJ := Lib.hid hj; clear hj
    have hand0 : bits .and .u64 (m : Int) 1 = ((m % 2 : Nat) : Int) := by
      have := u64_and_nat m 1 (by omega) (by omega)
      rwa [Nat.and_one_is_mod] at this
    have hjb : (j : Int) ≤ 4000000000 := by have := ones_le l.length; have := HJ.out; omega
    have hm0 : 0 ≤ (m : Int) := by omega
    have hm1 : (m : Int) < 4000000000 := by omega
    by_cases hodd : m % 2 = 1
    · rw [hodd] at hand0
      have hand : bits .and .u64 (m : Int) 1 = 1 := hand0
      clear hand0
      have HO := Lib.hid hodd; clear hodd
      go_wp2_with fail
      refine ⟨⟨j + 1, m / 2, by simp, by simp, ?_, by omega⟩, by simp [intOf]; have := HO.out; omega⟩
      have h1 := HJ.out
      have h2 := ones_odd HO.out
      omega
    · have hev : m % 2 = 0 := by omega
      rw [hev] at hand0
      have hand : bits .and .u64 (m : Int) 1 = 0 := hand0
      clear hand0 hodd
      have hj : ones l.length = j := by have h1 := HJ.out; have h2 := ones_even hev; omega
      have hjb : j ≤ Alm.bits l.length := by have := ones_le_bits l.length; omega
      have HB := Lib.hid hjb; clear hjb
      have HJ2 := Lib.hid hj; clear hj hev
      have hbl := Lib.hid (bits_le l.length)
      go_wp2_with fail
      have hS : (w.alloc (.cells (cellsOf s).toArray 24)).drew.cell? ⟨p, 2, none⟩ = some v := (World.cell?_alloc_past _ p 2 hp).trans h2
      have HS := Lib.hid hS; clear hS
      have hbx : (w.alloc (.cells (cellsOf s).toArray 24)).rangeAt w.heap.size 0 (cellsOf s) := range_new w _ _ _ rfl
      have hf1 := HH.out.below (al (Below.refl _ _) (.cells (cellsOf s).toArray 24))
      have HF1 := Lib.hid hf1; clear hf1
      have HBX := Lib.hid hbx; clear hbx
      refine wp_region_sched (fun W => W.cell? ⟨p, 2, none⟩ = some v) [.t 0, .t 1, .t 2, .t 3, .t 8, .s 4, .e 5 true, .e 6 true, .e 7 false, .e 9 false, .t 10, .t 11, .e 12 false] (by kernel_rfl) (by kernel_rfl) (by intro c a d v w h; cases d <;> exact h) ?_
      iterate 5
        refine wpS_t rfl (v := ?_) (by rfl) (fun W => ?_) ?_
        rotate_left
        · go_simp
          try rfl
        try simp only [Act.put, List.setIfInBounds_toArray, List.set_cons_zero, List.set_cons_succ]
      refine wpS_s (by exact HS.out) rfl (v := ?_) (by rfl) (fun W hSW => ?_) ?_
      rotate_left
      · go_simp
        try rfl
      try simp only [Act.put, List.setIfInBounds_toArray, List.set_cons_zero, List.set_cons_succ]
      refine wpS_k rfl (by rfl) (fun K hK => ?_)
      refine wp_load_sum _ (by rfl) w.heap.size 0 (by rfl) s (by exact HBX.out) ?_
      refine hK _ _ ⟨by exact HS.out, ?_⟩; clear hK K
      try simp only [Act.put, List.setIfInBounds_toArray, List.set_cons_zero, List.set_cons_succ]
      refine wpS_k rfl (by rfl) (fun K hK => ?_)
      refine wp_build_sums 1 _ (by rfl) [s] rfl (by omega) (by omega) (by rfl) ?_
      refine hK _ _ ⟨by exact (World.cell?_alloc_past _ p 2 (by simp; omega)).trans HS.out, ?_⟩; clear hK K
      try simp only [Act.put, List.setIfInBounds_toArray, List.set_cons_zero, List.set_cons_succ]
      have hf2 : FrontAt ((w.alloc (.cells (cellsOf s).toArray 24)).drew.alloc (.cells (cellsAll [s]).toArray 24)) p v l := FrontAt.below (w := (w.alloc (.cells (cellsOf s).toArray 24)).drew) HF1.out (al (Below.refl _ _) _)
      have hk2 : Keeps (fun k => k = p ∨ v.ownBlock = some k) w ((w.alloc (.cells (cellsOf s).toArray 24)).drew.alloc (.cells (cellsAll [s]).toArray 24)) := ((((Keeps.refl _ w).alloc _).drew).alloc _)
      have hr2 : ((w.alloc (.cells (cellsOf s).toArray 24)).drew.alloc (.cells (cellsAll [s]).toArray 24)).rangeAt (w.alloc (.cells (cellsOf s).toArray 24)).drew.heap.size 0 (cellsAll [s]) := range_new _ _ _ _ rfl
      generalize (w.alloc (.cells (cellsOf s).toArray 24)).drew.heap.size = b2 at *
      generalize ((w.alloc (.cells (cellsOf s).toArray 24)).drew.alloc (.cells (cellsAll [s]).toArray 24)) = W2 at *
      clear HF1 HBX HS
      have HF := Lib.hid hf2; clear hf2
      have HK := Lib.hid hk2; clear hk2
      have HR := Lib.hid hr2; clear hr2
      refine wpS_e rfl (by rfl) (fun K hK => ?_)
      refine wp_append_sums _ _ (by rfl) 0 v (stk nd e0 64 l) [s] (Alm.bits l.length) 1 HF.out.len rfl (by rfl) HF.out.2.1 b2 0 1 (by rfl) HR.out (by omega) (by have := hbl.out; omega) (by omega) ?_
      intro g cap W3 ho3 hg3 hat3 hlt3
      refine hK _ _ ?_; clear hK K
      try simp only [Act.put, List.setIfInBounds_toArray, List.set_cons_zero, List.set_cons_succ]
      have hk3 : Keeps (fun k => k = p ∨ v.ownBlock = some k) w W3 := HK.out.trans (.of_grown hg3 (fun k hk => .inr hk))
      have hne3 : g ≠ p := by
        intro e
        subst e
        rcases hat3 with h | h
        · exact HF.out.2.2.1 h
        · have := HF.out.lt; omega
      have hh3 := (Keeps.of_grown (X := fun k => v.ownBlock = some k) hg3 (fun k hk => hk)).heap HF.out.1 HF.out.2.2.1
      have hgn : v.ownBlock = some g ∨ w.heap.size ≤ g := hat3.imp id (fun h => by rw [h]; exact HK.out.size)
      have HK3 := Lib.hid hk3; clear hk3
      have HN3 := Lib.hid hne3; clear hne3
      have HH3 := Lib.hid hh3; clear hh3
      have HG := Lib.hid hgn; clear hgn
      have HO3 := Lib.hid ho3; clear ho3
      clear hg3 hat3 HR HK
      refine wpS_e rfl (by rfl) (fun K hK => ?_)
      go_simp
      refine (fold_at (stk nd e0 64 l ++ [s]) (Alm.bits l.length + 1) j g cap 0 W3 (by rw [List.length_append, HF.out.len]; rfl) (by have := HB.out; omega) (by exact HO3.out)).mono ?_
      rintro e W4 ⟨rfl, ho4, hk4⟩
      refine hK _ _ ?_; clear hK K
      try simp only [Act.put, List.setIfInBounds_toArray, List.set_cons_zero, List.set_cons_succ]
      have hst : fold2 nd j (stk nd e0 64 l ++ [s]) = stk nd e0 64 (l ++ [s]) := by rw [← HJ2.out]; exact stk_add nd e0 64 l s (by omega)
      have hlen4 : Alm.bits l.length + 1 - j = Alm.bits (l ++ [s]).length := by
        have h1 := congrArg List.length hst
        rw [length_fold2 nd j _ (by rw [List.length_append, HF.out.len, List.length_singleton]; have := HB.out; omega), List.length_append, HF.out.len, length_stk nd e0 64 (l ++ [s]) (by rw [List.length_append, List.length_singleton]; omega)] at h1
        exact h1
      rw [hst, hlen4] at ho4
      rw [hlen4]
      have HO4 := Lib.hid ho4; clear ho4
      have HH4 := Lib.hid (hk4.heap HH3.out (fun h => HN3.out h.symm))
      have HK4 := Lib.hid (HK3.out.trans' hk4 (fun i hi => by subst hi; exact HG.out.imp .inr id))
      clear hst hlen4 hk4
      iterate 2
        refine wpS_t rfl (v := ?_) (by rfl) (fun W => ?_) ?_
        rotate_left
        · go_simp
          try rfl
        try simp only [Act.put, List.setIfInBounds_toArray, List.set_cons_zero, List.set_cons_succ]
      refine wpS_e rfl (by rfl) (fun K hK => ?_)
      have hc4 : W4.cell? ⟨p, 2, none⟩ = some v := by rw [cell_of_row W4 p _ _ _ (0, 0) HH4.out]; rfl
      have hf4 : W4.frozen? ⟨p, 2, none⟩ = false := frozen_of_row W4 p _ _ _ HH4.out
      have hc5 : W4.cell? ⟨p, 1, none⟩ = some (.int .u64 (l.length : Int)) := by rw [cell_of_row W4 p _ _ _ (0, 0) HH4.out]; rfl
      have hf5 : W4.frozen? ⟨p, 1, none⟩ = false := frozen_of_row W4 p _ _ _ HH4.out
      go_simp
      refine hK _ _ ?_; clear hK K
      try simp only [Act.put, List.setIfInBounds_toArray, List.set_cons_zero, List.set_cons_succ]
      refine wpS_done ?_
      go_wp2_with fail
      rw [Exit.noGoto_ret]
      refine bodyPost_ret (results_tmp rfl _ _ _) rfl ?_
      refine ⟨.slice (some ⟨g, 0, none⟩) (Alm.bits (l ++ [s]).length) cap, rfl, ⟨?_, ?_, ?_, ?_, ?_⟩, ?_, ?_⟩
      · have e1 := heap_setCell_same W4 p 2 _ _ (.slice (some ⟨g, 0, none⟩) (Alm.bits (l ++ [s]).length) cap) HH4.out
        have e2 := heap_setCell_same _ p 1 _ _ (.int .u64 ((l ++ [s]).length : Int)) e1
        simpa using e2
      · have h1 : Keeps (· = p) W4 ((W4.setCell ⟨p, 2, none⟩ (.slice (some ⟨g, 0, none⟩) (Alm.bits (l ++ [s]).length) cap)).setCell ⟨p, 1, none⟩ (.int .u64 ((l ++ [s]).length : Int))) := ((Keeps.refl (fun x => x = p) W4).setCell (p := ⟨p, 2, none⟩) (.inl rfl) _).setCell (p := ⟨p, 1, none⟩) (.inl rfl) _
        have h2 := h1.owns HO4.out (fun k hk => by cases hk; exact HN3.out)
        simpa using h2
      · intro e; cases e; exact HN3.out rfl
      · rw [List.length_append, List.length_singleton]; omega
      · intro e; cases l <;> cases e
      · exact (HK4.out.setCell (.inl (.inl rfl)) _).setCell (.inl (.inl rfl)) _
      · intro k hk; cases hk; exact HG.out
end Go.Proofs.YtdkcndgehgmadaaGreatDoor
-- Walks: a front in use beside other memory.
open Go Go.RowKit Alm
namespace Go.Proofs.YtdkcndgehgmadaaGreatDoor
/-- A front made since w0, beside variables X of one's own. -/
def Live (w0 W : World) (p : Nat) (l : List Sum) (X : List Nat) : Prop :=
  ∃ v, FrontAt W p v l ∧ w0.heap.size ≤ p ∧ Below w0.heap.size w0 W ∧ p ∉ X ∧ (∀ k, v.ownBlock = some k → w0.heap.size ≤ k ∧ k ∉ X) ∧ ∀ x ∈ X, x < W.heap.size
theorem Live.start {w0 W W' : World} {p : Nat} (hB : Below w0.heap.size w0 W) (hb : Below W.heap.size W W') (h : FrontAt W' p (.slice none 0 0) []) (hp : p = W.heap.size) : Live w0 W' p [] [] :=
  ⟨_, h, by rw [hp]; exact hB.size, hB.trans (hb.mono hB.size), by simp, fun k hk => (by cases hk), by simp⟩
theorem Live.below {w0 W W' : World} {p : Nat} {l : List Sum} {X : List Nat} (h : Live w0 W p l X) (hb : Below W.heap.size W W') : Live w0 W' p l X := by
  obtain ⟨v, h1, h2, h3, h4, h5, h6⟩ := h
  exact ⟨v, h1.below hb, h2, h3.trans (hb.mono h3.size), h4, h5, fun x hx => Nat.lt_of_lt_of_le (h6 x hx) hb.size⟩
theorem Live.var {w0 W W' : World} {p : Nat} {l : List Sum} {X : List Nat} (h : Live w0 W p l X) (hb : Below W.heap.size W W') (hlt : W.heap.size < W'.heap.size) : Live w0 W' p l (W.heap.size :: X) := by
  obtain ⟨v, h1, h2, h3, h4, h5, h6⟩ := h
  refine ⟨v, h1.below hb, h2, h3.trans (hb.mono h3.size), ?_, fun k hk => ⟨(h5 k hk).1, ?_⟩, fun x hx => ?_⟩
  · intro hm
    rcases List.mem_cons.1 hm with e | e
    · have := h1.lt; omega
    · exact h4 e
  · intro hm
    rcases List.mem_cons.1 hm with e | e
    · have := own_lt h1.2.1 hk; omega
    · exact (h5 k hk).2 e
  · rcases List.mem_cons.1 hx with e | e
    · omega
    · exact Nat.lt_of_lt_of_le (h6 x e) hb.size
theorem Live.all {w0 W : World} {p : Nat} {l : List Sum} {X : List Nat} (h : Live w0 W p l X) : Below w0.heap.size w0 W := by
  obtain ⟨v, h1, h2, h3, h4, h5, h6⟩ := h
  exact h3
theorem live_size {w0 W : World} {p : Nat} {l : List Sum} {X : List Nat} (h : Live w0 W p l X) : Calls Tryz.prog 19 #[.pointer (some ⟨p, 0, none⟩)] W fun e w' => e = .returned (.int .u64 (l.length : Int)) ∧ W = w' := by
  obtain ⟨v, h1, _⟩ := h
  exact size_live W p v l h1
theorem live_root {w0 W : World} {p : Nat} {l : List Sum} {X : List Nat} (h : Live w0 W p l X) : Calls Tryz.prog 20 #[.pointer (some ⟨p, 0, none⟩)] W fun e w' => e = .returned (sv (rt l)) ∧ Live w0 w' p l X ∧ Below W.heap.size W w' := by
  have h' := h
  obtain ⟨v, h1, _⟩ := h
  exact (root_live W p v l h1).mono fun e w' ⟨he, hb⟩ => ⟨he, h'.below hb, hb⟩
theorem live_sums {w0 W : World} {p : Nat} {l : List Sum} {X : List Nat} (h : Live w0 W p l X) : Calls Tryz.prog 18 #[.pointer (some ⟨p, 0, none⟩)] W fun e w' => ∃ v', e = .returned v' ∧ SumsNew w' W.heap.size v' (stk nd e0 64 l) ∧ Live w0 w' p l X ∧ Below W.heap.size W w' := by
  have h' := h
  obtain ⟨v, h1, _⟩ := h
  exact (sums_live W p v l h1).mono fun e w' ⟨v', he, hs, hb⟩ => ⟨v', he, hs, h'.below hb, hb⟩
theorem live_add {w0 W : World} {p : Nat} {l : List Sum} {X : List Nat} (s : Sum) (h : Live w0 W p l X) (hl : l.length + 1 < 4000000000) : Calls Tryz.prog 23 #[.pointer (some ⟨p, 0, none⟩), sv s] W fun e w' => e = .returned (.int .i64 0) ∧ Live w0 w' p (l ++ [s]) X ∧ Keeps (fun k => k ∉ X ∧ w0.heap.size ≤ k) W w' := by
  obtain ⟨v, h1, h2, h3, h4, h5, h6⟩ := h
  refine (add_live W p v l s h1 hl).mono ?_
  rintro e w' ⟨v', rfl, hf, hk, hv⟩
  have hk2 : Keeps (fun k => k ∉ X ∧ w0.heap.size ≤ k) W w' := hk.mono (fun k hk => by
    rcases hk with rfl | hk
    · exact ⟨h4, h2⟩
    · exact ⟨(h5 k hk).2, (h5 k hk).1⟩)
  refine ⟨rfl, ⟨v', hf, h2, h3.trans (hk2.below h3.size (fun k hk => hk.2)), h4, fun k hk' => ?_, fun x hx => Nat.lt_of_lt_of_le (h6 x hx) hk.size⟩, hk2⟩
  rcases hv k hk' with h | h
  · exact h5 k h
  · exact ⟨Nat.le_trans h3.size h, fun hm => by have := h6 k hm; omega⟩
end Go.Proofs.YtdkcndgehgmadaaGreatDoor
