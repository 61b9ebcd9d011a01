/-
  Joined: W7, W8.
-/
import Derived.Test.YtdkcndgehgmadaaGreatDoorZAK
import Derived.Deep.RegionWith
-- Walks: leaves.Node.
open Go Go.RowKit Alm
namespace Go.Proofs.YtdkcndgehgmadaaGreatDoor
/-- A node over two sums. -/
def node (l r : Sum) : Sum := sha (1 :: (l.toList ++ r.toList))
theorem parts_three {w : World} {p q a b : Nat} (l r : Sum) (hp : p < w.heap.size) (t : TypeId)
    (h1 : w.rangeAt p 0 (cells8 [1])) (h2 : w.rangeAt a 0 (cellsOf l)) (h3 : w.rangeAt b 0 (cellsOf r)) (ha : a < w.heap.size) (hb : b < w.heap.size) (hq : q = w.heap.size) :
    PartsAt (w.alloc (.cells #[.slice (some ⟨p, 0, none⟩) 1 1, .slice (some ⟨a, 0, none⟩) 32 32, .slice (some ⟨b, 0, none⟩) 32 32] t)) q 0 [.slice (some ⟨p, 0, none⟩) 1 1, .slice (some ⟨a, 0, none⟩) 32 32, .slice (some ⟨b, 0, none⟩) 32 32] [[1], l.toList, r.toList] := by
  subst hq
  have hB := al (Below.refl w.heap.size w) (.cells #[.slice (some ⟨p, 0, none⟩) 1 1, .slice (some ⟨a, 0, none⟩) 32 32, .slice (some ⟨b, 0, none⟩) 32 32] t)
  refine ⟨range_new _ _ _ _ rfl, rfl, fun j hj => ?_⟩
  have hj' : j < 3 := hj
  match j, hj' with
  | 0, _ => exact ⟨_, _, _, rfl, rfl, by decide, p, 0, rfl, range_below hB h1 hp, by simp; omega⟩
  | 1, _ => exact ⟨_, _, _, rfl, by simp, by decide, a, 0, rfl, range_below hB h2 ha, by simp; omega⟩
  | 2, _ => exact ⟨_, _, _, rfl, by simp, by decide, b, 0, rfl, range_below hB h3 hb, by simp; omega⟩
/-- A store of many cells, as one step of a region that draws. -/
theorem step_store_mid {P : Program} {ops : Array Oper} {op : Oper} {a : Act} {w : World} {K : Act → World → Prop} {Q : Exit → Act → World → Prop} {E : Prop} (hg : op.guard = none) (ty : TypeId) (x y : Operand) (ho : op.op = .store ty x y)
    (b o : Nat) (cells : Array Value) (hx : a.eval x = .pointer (some ⟨b, o, none⟩)) (hy : a.eval y = .agg cells)
    (ht : w.there b o cells.size) (hi : (P.info? ty).map (·.size) = some cells.size) (h1 : cells.all (·.oneCell') = true)
    (h : K (a.put op.dst undef) (w.setCells b o cells.toList)) : if Region.wanted op (yielded ops a.tmps) = true then op.wp P a w K Q else E := by
  have hw : Region.wanted op (yielded ops a.tmps) = true := by simp [Region.wanted, hg]
  rw [if_pos hw]
  exact wp_store_mid ty x y ho b o cells hx hy ht hi h1 h
theorem parts_drew {w : World} {b o : Nat} {vs : List Value} {ls : List (List UInt8)} (h : PartsAt w b o vs ls) : PartsAt w.drew b o vs ls := ⟨h.1, h.2.1, h.2.2⟩
set_option maxRecDepth 100000 in
set_option maxHeartbeats 400000 in
theorem node_any (l r : Sum) (w : World) : Calls Tryz.prog 69 #[sv l, sv r] w fun e w' => e = .returned (sv (node l r)) ∧ Below w.heap.size w w' := by
  obtain ⟨s, hsn⟩ : ∃ s, s = node l r := ⟨_, rfl⟩
  have hsf : sha [[1], l.toList, r.toList].flatten = s := by rw [hsn, node]; congr 1; simp
  rw [← hsn]
  have HSF := Lib.hid hsf; clear hsf hsn
  go_enter Tryz.func69, Tryz.ntmps69
  go_wp2_with fail
  change Code.wp _ _ _ _ (((w.alloc (.cells (cellsOf l).toArray 24)).alloc (.cells (cellsOf r).toArray 24)).alloc (.cells (cells8 (List.replicate 32 0)).toArray 24))
  have hB : Below w.heap.size w (((w.alloc (.cells (cellsOf l).toArray 24)).alloc (.cells (cellsOf r).toArray 24)).alloc (.cells (cells8 (List.replicate 32 0)).toArray 24)) := al (al (al (Below.refl _ _) _) _) _
  have hs : (((w.alloc (.cells (cellsOf l).toArray 24)).alloc (.cells (cellsOf r).toArray 24)).alloc (.cells (cells8 (List.replicate 32 0)).toArray 24)).heap.size = w.heap.size + 1 + 1 + 1 := by simp
  have h1 : (((w.alloc (.cells (cellsOf l).toArray 24)).alloc (.cells (cellsOf r).toArray 24)).alloc (.cells (cells8 (List.replicate 32 0)).toArray 24)).rangeAt w.heap.size 0 (cellsOf l) :=
    World.rangeAt_alloc (World.rangeAt_alloc (range_new w (cellsOf l).toArray 24 _ rfl) _) _
  have h2 : (((w.alloc (.cells (cellsOf l).toArray 24)).alloc (.cells (cellsOf r).toArray 24)).alloc (.cells (cells8 (List.replicate 32 0)).toArray 24)).rangeAt (w.heap.size + 1) 0 (cellsOf r) :=
    World.rangeAt_alloc (by have := range_new (w.alloc (.cells (cellsOf l).toArray 24)) (cellsOf r).toArray 24 _ rfl; simpa using this) _
  have h3 : (((w.alloc (.cells (cellsOf l).toArray 24)).alloc (.cells (cellsOf r).toArray 24)).alloc (.cells (cells8 (List.replicate 32 0)).toArray 24)).there (w.heap.size + 1 + 1) 0 32 := by
    have := Res.start ((w.alloc (.cells (cellsOf l).toArray 24)).alloc (.cells (cellsOf r).toArray 24)) 32 (cells8 (List.replicate 32 0)).toArray 24 (by rfl)
    have := this.there
    rw [show ((w.alloc (.cells (cellsOf l).toArray 24)).alloc (.cells (cellsOf r).toArray 24)).heap.size = w.heap.size + 1 + 1 from by simp] at this
    exact this
  generalize (((w.alloc (.cells (cellsOf l).toArray 24)).alloc (.cells (cellsOf r).toArray 24)).alloc (.cells (cells8 (List.replicate 32 0)).toArray 24)) = w0 at *
  have hw1 : (w0.alloc (.cells #[.int .u8 1] 5)).heap.size = w.heap.size + 1 + 1 + 1 + 1 := by simp [hs]
  have hP := parts_three (w := w0.alloc (.cells #[.int .u8 1] 5)) (q := w.heap.size + 1 + 1 + 1 + 1) (p := w.heap.size + 1 + 1 + 1) l r (by rw [hw1]; omega) 65 (by rw [← hs]; exact range_new _ _ _ _ rfl) (World.rangeAt_alloc h1 _) (World.rangeAt_alloc h2 _) (by rw [hw1]; omega) (by rw [hw1]; omega) hw1.symm
  have hQ : Below w.heap.size w ((w0.alloc (.cells #[.int .u8 1] 5)).alloc (.cells #[.slice (some ⟨w.heap.size + 1 + 1 + 1, 0, none⟩) 1 1, .slice (some ⟨w.heap.size, 0, none⟩) 32 32, .slice (some ⟨w.heap.size + 1, 0, none⟩) 32 32] 65)) := al (al hB _) _
  have hR := World.there_alloc (World.there_alloc h3 (.cells #[.int .u8 1] 5)) (.cells #[.slice (some ⟨w.heap.size + 1 + 1 + 1, 0, none⟩) 1 1, .slice (some ⟨w.heap.size, 0, none⟩) 32 32, .slice (some ⟨w.heap.size + 1, 0, none⟩) 32 32] 65)
  have hT : w.heap.size + 1 + 1 < ((w0.alloc (.cells #[.int .u8 1] 5)).alloc (.cells #[.slice (some ⟨w.heap.size + 1 + 1 + 1, 0, none⟩) 1 1, .slice (some ⟨w.heap.size, 0, none⟩) 32 32, .slice (some ⟨w.heap.size + 1, 0, none⟩) 32 32] 65)).heap.size := by simp [hs]
  have HP := Lib.hid hP; clear hP
  have HQ := Lib.hid hQ; clear hQ
  have HR := Lib.hid hR; clear hR
  have HT := Lib.hid hT; clear hT
  clear h1 h2 h3 hB hw1
  refine wp_region_any (by kernel_rfl) ?_
  change wpAny _ _ _ _ _ _ _ (World.drew _)
  refine wpAny_take (i := 1) (v := .slice (some ⟨w.heap.size, 0, none⟩) 32 32) rfl (by kernel_rfl) (by kernel_rfl) (by kernel_rfl) (fun _ _ _ h => h) (Or.inl ⟨by rfl, by intro w; go_simp⟩) ?_
  refine wpAny_take (i := 2) (v := .slice (some ⟨w.heap.size + 1, 0, none⟩) 32 32) rfl (by kernel_rfl) (by kernel_rfl) (by kernel_rfl) (fun _ _ _ h => h) (Or.inl ⟨by rfl, by intro w; go_simp⟩) ?_
  refine wpAny_ready (rs := [0]) (by kernel_rfl) (by simp) ?_
  refine AllReady.cons rfl (fun K hK => ?_) (by exact AllReady.nil)
  go_simp
  refine hK _ _ ?_; clear hK K
  refine wpAny_ready (rs := [3]) (by kernel_rfl) (by simp) ?_
  refine AllReady.cons rfl (fun K hK => ?_) (by exact AllReady.nil)
  go_simp
  refine hK _ _ ?_; clear hK K
  refine wpAny_ready (rs := [4]) (by kernel_rfl) (by simp) ?_
  refine AllReady.cons rfl (fun K hK => ?_) (by exact AllReady.nil)
  go_simp
  refine (concat_any _ [[1], l.toList, r.toList] _ _ 3 _ (parts_drew HP.out) (by simp) (by simp) (by simp) (by simp)).mono ?_
  rintro e w1 ⟨v, rfl, hbv, hbw⟩
  refine hK _ _ ?_; clear hK K
  refine wpAny_ready (rs := [5]) (by kernel_rfl) (by simp) ?_
  refine AllReady.cons rfl (fun K hK => ?_) (by exact AllReady.nil)
  go_simp
  refine (of_any _ _ _ hbv (by simp)).mono ?_
  rw [HSF.out]
  rintro e w2 ⟨rfl, hbw2⟩
  refine hK _ _ ?_; clear hK K
  refine wpAny_ready (rs := [6]) (by kernel_rfl) (by simp) ?_
  refine AllReady.cons rfl (fun K hK => ?_) (by exact AllReady.nil)
  have R2 : Below w.heap.size w w2 := (HQ.out.drew.trans (hbw.mono HQ.out.size)).trans (hbw2.mono (HQ.out.drew.trans (hbw.mono HQ.out.size)).size)
  have ht2 : w2.there (w.heap.size + 1 + 1) 0 32 :=
    there_block (hbw2.block _ (Nat.lt_of_lt_of_le HT.out hbw.size)) (there_block (hbw.block _ HT.out) HR.out)
  refine step_store_mid rfl _ _ _ rfl (w.heap.size + 1 + 1) 0 _ rfl rfl (by rw [size_cellsOf]; exact ht2) (by rw [size_cellsOf]; exact infoSum) (all_cellsOf s) ?_
  refine hK _ _ ?_; clear hK K
  refine wpAny_done (by kernel_rfl) ?_ _
  go_wp2_with fail
  exact bodyPost_ret (results_sum Tryz.results69 _ _ _ _ rfl (World.there_setCells ht2 _ _ _)) rfl ⟨rfl, setCells_below _ (by omega) _ _ _ _ R2⟩
end Go.Proofs.YtdkcndgehgmadaaGreatDoor
-- Walks: leaves.Root.
open Go Go.RowKit Alm
namespace Go.Proofs.YtdkcndgehgmadaaGreatDoor
/-- The function literal of leaves.Root, behind a pointer. -/
abbrev rootFn (c : Nat) : Value := .func (.func 152) #[] #[.pointer (some ⟨c, 0, none⟩)]
set_option maxRecDepth 100000 in
set_option maxHeartbeats 300000 in
theorem rootgo_any : ∀ (n : Nat) (l : List Sum) (v : Value) (c : Nat) (w : World), l.length ≤ n → l ≠ [] → SumsAt w v l → w.cell? ⟨c, 0, none⟩ = some (rootFn c) →
    Calls Tryz.prog 152 #[v, .pointer (some ⟨c, 0, none⟩)] w fun e w' => e = .returned (sv (root node (sha []) l)) ∧ Below w.heap.size w w' := by
  intro n
  induction n with
  | zero => intro l v c w h h0; exact (h0 (List.length_eq_zero_iff.1 (by omega))).elim
  | succ n ih =>
    intro l v c w hl h0 hv hcell
    obtain ⟨a, cap, rfl, hc, hcm, hra⟩ := hv
    obtain ⟨b, o, rfl, hr⟩ := hra.resolve_left h0
    clear hra
    have hpos : 0 < l.length := List.length_pos_iff.2 h0
    have R0 : Res w 32 (w.alloc (.cells (cells8 (List.replicate 32 0)).toArray 24)) := Res.start _ _ _ _ (by rfl)
    obtain ⟨s, hs⟩ : ∃ s, s = root node (sha []) l := ⟨_, rfl⟩
    rw [← hs]
    have HS := Lib.hid hs; clear hs
    go_enter Tryz.func152, Tryz.ntmps152
    unfold maxLen at hcm
    by_cases h1 : l.length = 1
    · rw [h1]
      have hr1 := range_at hr (i := 0) (by omega)
      have hx : s = l[0] := by rw [HS.out]; exact root_len1 _ _ h1 (List.getElem?_eq_getElem (by omega))
      rw [← hx] at hr1
      clear hx
      have R1 := R0.range hr1
      rw [Nat.zero_mul, Nat.add_zero] at R1
      have RS := R0.store (cellsOf s)
      go_wp2_with (first
        | (refine wpList_load_sum rfl _ rfl b o rfl s R1 ?_)
        | (refine wpList_store_sum rfl _ _ rfl w.heap.size 0 s rfl rfl R0.there ?_))
      exact bodyPost_ret (results_sum Tryz.results152 _ _ _ _ rfl RS.there) rfl ⟨rfl, RS.below⟩
    · have h2 : 2 ≤ l.length := by omega
      obtain ⟨m, hm⟩ : ∃ m, m = l.length := ⟨_, rfl⟩
      rw [← hm] at hc
      have HM := Lib.hid hm
      have h1' : ¬ (m = 1) := by omega
      have h1'' : ((m : Int) == 1) = false := by rw [beq_eq_false_iff_ne]; omega
      have m1 : 1 ≤ (m : Int) - 1 := by omega
      have m2 : (m : Int) - 1 ≤ 18446744073709551615 := by omega
      have wm : IntKind.i64.wrap ((m : Int) - 1) = (m : Int) - 1 := by rw [IntKind.wrap_i64]; omega
      have wn : IntKind.u64.wrap ((m : Int) - 1) = (m : Int) - 1 := by
        simp only [IntKind.wrap, IntKind.bits, IntKind.signed, Bool.false_and, Bool.false_eq_true, if_false]; omega
      rw [← hm]
      clear hm
      have M2 := Lib.hid m2; clear m2
      obtain ⟨q, hq⟩ : ∃ q, q = (m - 1).log2 := ⟨_, rfl⟩
      have hE : (((m : Int) - 1).toNat).log2 = q := by rw [hq]; congr 1; omega
      have q62 : q < 63 := by
        rw [hq]
        exact (Nat.log2_lt (by omega)).2 (by omega)
      have q62' : (q : Int) < 63 := by omega
      have qw : wrap64 (q : Int) = (q : Int) := by unfold wrap64; omega
      have hk : cut m = 2 ^ q := by rw [hq]; rfl
      have hkl : cut m < m := cut_lt (by have := HM.out; omega)
      have hkp : 0 < cut m := cut_pos m
      obtain ⟨k, hkd⟩ : ∃ k, k = cut m := ⟨_, rfl⟩
      rw [← hkd] at hk hkl hkp
      have hmn : m ≤ n + 1 := by rw [HM.out]; exact hl
      have kc1 : (k : Int) ≤ (m : Int) := by omega
      have kc2 : (k : Int) ≤ (cap : Int) := by omega
      have kc3 : (k : Int) < (cap : Int) := by omega
      have kc4 : ¬ (cap = k) := by omega
      have kc5 : ¬ (k = cap) := by omega
      have kc0 : (0 : Int) ≤ (k : Int) := by omega
      have hkn : k ≤ n := by omega
      have hkm : m - k ≤ n := by omega
      have HH := Lib.hid (And.intro hkn hkm)
      have HN := Lib.hid (And.intro hkl (And.intro hkp hc))
      clear hkn hkm hkp hc hmn
      have hkb : (k : Int) < 9223372036854775808 := by omega
      have pw : IntKind.i64.wrap ((2 : Int) ^ q) = (k : Int) := by
        have : (2 : Int) ^ q = (k : Int) := by rw [hk]; push_cast; rfl
        rw [this, IntKind.wrap_i64]; omega
      have pw' : wrap64 ((2 : Int) ^ q) = (k : Int) := by
        have : (2 : Int) ^ q = (k : Int) := by rw [hk]; push_cast; rfl
        rw [this]; unfold wrap64; omega
      have HE := Lib.hid hE; clear hE hq
      have HK := Lib.hid hkd; clear hk hkd hkb hkl
      go_wp2_with (go_at_call 153; refine (len_pos _ _ m1 M2.out).mono ?_; rw [HE.out]; rintro e w1 ⟨rfl, rfl⟩)
      clear pw pw' qw q62 q62' wm wn
      have hsplit : s = node (root node (sha []) (l.take k)) (root node (sha []) (l.drop k)) := by
        have := root_split node (sha []) (l := l) h2
        rw [← HM.out] at this
        rw [HS.out, this, HK.out]
      have d1 : l.take k ≠ [] := by
        intro h; have := congrArg List.length h; rw [List.length_take, List.length_nil] at this; have := HN.out; have := HM.out; omega
      have d2 : l.drop k ≠ [] := by
        intro h; have := congrArg List.length h; rw [List.length_drop, List.length_nil] at this; have := HN.out; have := HM.out; omega
      generalize hS1 : root node (sha []) (l.take k) = s1 at hsplit
      generalize hS2 : root node (sha []) (l.drop k) = s2 at hsplit
      have HSP := Lib.hid hsplit; clear hsplit
      have HS1 := Lib.hid hS1; clear hS1
      have HS2 := Lib.hid hS2; clear hS2
      refine wp_region_quiet_put (fun W => W.cell? ⟨c, 0, none⟩ = some (rootFn c) ∧ W.rangeAt b o (cellsAll l) ∧ Res w 32 W) (by kernel_rfl) (by simp) rfl rfl (by kernel_rfl) (by kernel_rfl) (by kernel_rfl) ⟨R0.cell hcell, R0.range hr, R0.drew⟩ ?_
      simp only [List.dropLast_cons_cons, List.dropLast_singleton, List.getLast_cons_cons, List.getLast_singleton, List.cons_append, List.nil_append, idle]
      refine wpQuiet_take rfl (v := rootFn c) (fun W hS => ?_) ?_
      · have hW := hS.1
        clear hcell
        go_simp
      try simp only [Act.put, List.setIfInBounds_toArray, List.set_cons_zero, List.set_cons_succ]
      iterate 4
        refine wpQuiet_take rfl (v := ?_) (fun W hS => ?_) ?_
        rotate_left
        · clear hS
          go_simp
          rfl
        rotate_left
        try simp only [Act.put, List.setIfInBounds_toArray, List.set_cons_zero, List.set_cons_succ]
      have ht : ∀ W : World, W.rangeAt b o (cellsAll l) → SumsAt W (.slice (some ⟨b, o, none⟩) k k) (l.take k) := fun W h => sums_take h (by have := HN.out; have := HM.out; omega) (Nat.le_refl _) (by unfold maxLen; omega)
      have hd : ∀ W : World, W.rangeAt b o (cellsAll l) → SumsAt W (.slice (some ⟨b, o + k * 32, none⟩) (m - k) (cap - k)) (l.drop k) := fun W h => by
        have := sums_drop (k := k) (cap := cap - k) h (by have := HN.out; have := HM.out; omega) (by have := HN.out; have := HM.out; omega) (by unfold maxLen; omega)
        rw [← HM.out] at this; exact this
      have step : ∀ W W' : World, (W.cell? ⟨c, 0, none⟩ = some (rootFn c) ∧ W.rangeAt b o (cellsAll l) ∧ Res w 32 W) → Below W.heap.size W W' → (W'.cell? ⟨c, 0, none⟩ = some (rootFn c) ∧ W'.rangeAt b o (cellsAll l) ∧ Res w 32 W') := fun W W' hS hB =>
        ⟨(hB.cell (World.block_lt_of_cell? W _ hS.1)).trans hS.1, range_below hB hS.2.1 (range_lt hS.2.1 (by intro h; have := length_cellsAll l; rw [h] at this; simp at this; omega)), hS.2.2.call (by omega) hB⟩
      have HT := Lib.hid ht; clear ht
      have HD := Lib.hid hd; clear hd
      have ST := Lib.hid step; clear step
      have IH := Lib.hid ih; clear ih
      refine wpQuiet_take rfl (v := sv s1) (fun W hS => ?_) ?_
      · go_simp
        refine (IH.out (l.take k) _ c W (by rw [List.length_take]; have := HH.out; omega) d1 (HT.out W hS.2.1) hS.1).mono ?_
        rw [HS1.out]
        rintro e w' ⟨rfl, hb⟩
        exact ⟨rfl, ST.out _ _ hS hb⟩
      try simp only [Act.put, List.setIfInBounds_toArray, List.set_cons_zero, List.set_cons_succ]
      refine wpQuiet_take rfl (v := rootFn c) (fun W hS => ?_) ?_
      · have hW := hS.1
        clear hcell
        go_simp
      try simp only [Act.put, List.setIfInBounds_toArray, List.set_cons_zero, List.set_cons_succ]
      iterate 2
        refine wpQuiet_take rfl (v := ?_) (fun W hS => ?_) ?_
        rotate_left
        · clear hS
          go_simp
          rfl
        rotate_left
        try simp only [Act.put, List.setIfInBounds_toArray, List.set_cons_zero, List.set_cons_succ]
      refine wpQuiet_take rfl (v := .slice (some ⟨b, o + k * 32, none⟩) (m - k) (cap - k)) (fun W hS => ?_) ?_
      · clear hS
        go_simp
      try simp only [Act.put, List.setIfInBounds_toArray, List.set_cons_zero, List.set_cons_succ]
      refine wpQuiet_take rfl (v := sv s2) (fun W hS => ?_) ?_
      · go_simp
        refine (IH.out (l.drop k) _ c W (by rw [List.length_drop]; have := HH.out; have := HM.out; omega) d2 (HD.out W hS.2.1) hS.1).mono ?_
        rw [HS2.out]
        rintro e w' ⟨rfl, hb⟩
        exact ⟨rfl, ST.out _ _ hS hb⟩
      try simp only [Act.put, List.setIfInBounds_toArray, List.set_cons_zero, List.set_cons_succ]
      refine wpQuiet_take rfl (v := sv s) (fun W hS => ?_) ?_
      · go_simp
        refine (node_any s1 s2 W).mono ?_
        rw [← HSP.out]
        rintro e w' ⟨rfl, hb⟩
        exact ⟨rfl, ST.out _ _ hS hb⟩
      try simp only [Act.put, List.setIfInBounds_toArray, List.set_cons_zero, List.set_cons_succ]
      refine wpQuiet_nil ?_
      intro W hS
      refine wp_store_mid _ _ _ rfl w.heap.size 0 _ rfl rfl (by rw [size_cellsOf]; exact hS.2.2.there) (by rw [size_cellsOf]; exact infoSum) (all_cellsOf s) ?_
      have RS := hS.2.2.store (cellsOf s)
      go_wp2_with fail
      exact bodyPost_ret (results_sum Tryz.results152 _ _ _ _ rfl RS.there) rfl ⟨rfl, RS.below⟩
set_option maxRecDepth 100000 in
theorem root_any (l : List Sum) (v : Value) (w : World) (hv : SumsAt w v l) : Calls Tryz.prog 62 #[v] w fun e w' => e = .returned (sv (root node (sha []) l)) ∧ Below w.heap.size w w' := by
  have hv' := hv
  obtain ⟨a, cap, rfl, hc, hcm, hra⟩ := hv
  obtain ⟨s, hs⟩ : ∃ s, s = root node (sha []) l := ⟨_, rfl⟩
  rw [← hs]
  have HS := Lib.hid hs; clear hs
  have HC := Lib.hid hcm; clear hcm
  have R0 : Res w 32 (w.alloc (.cells (cells8 (List.replicate 32 0)).toArray 24)) := Res.start _ _ _ _ (by rfl)
  have R1 := R0.alloc (.cells #[rootFn (w.heap.size + 1)] 53)
  have hst := fun W => run_store Tryz.prog W ⟨w.heap.size + 1, 0, none⟩ (rootFn (w.heap.size + 1)) .plain rfl
  have cf : ((w.alloc (.cells (cells8 (List.replicate 32 0)).toArray 24)).alloc (.cells #[rootFn (w.heap.size + 1)] 53)).cell? ⟨w.heap.size + 1, 0, none⟩ = some (rootFn (w.heap.size + 1)) := by
    simp
  have hv1 : SumsAt ((w.alloc (.cells (cells8 (List.replicate 32 0)).toArray 24)).alloc (.cells #[rootFn (w.heap.size + 1)] 53)) (.slice a l.length cap) l := hv'.below R1.below (Nat.le_refl _)
  have HF := Lib.hid cf; clear cf
  have HV := Lib.hid hv1; clear hv1 hv'
  go_enter Tryz.func62, Tryz.ntmps62
  by_cases h0 : l.length = 0
  · rw [h0]
    go_wp2_with fail
    have hl : l = [] := List.length_eq_zero_iff.1 h0
    have hsn : s = sha [] := by rw [HS.out, hl, root_nil]
    refine (of_any [] _ ((w.alloc (.cells (cells8 (List.replicate 32 0)).toArray 24)).alloc (.cells #[rootFn (w.heap.size + 1)] 53)) ⟨none, 0, rfl, Nat.le_refl _, by decide, .inl rfl⟩ (by decide)).mono ?_
    rw [← hsn]
    rintro e w1 ⟨rfl, hb⟩
    have R2 := R1.call (by omega) hb
    clear hsn hl
    go_wp2_with (refine wpList_store_sum rfl _ _ rfl w.heap.size 0 s rfl rfl R2.there ?_)
    have RS := R2.store (cellsOf s)
    exact bodyPost_ret (results_sum Tryz.results62 _ _ _ _ rfl RS.there) rfl ⟨rfl, RS.below⟩
  · have h0' : ¬ ((l.length : Int) = 0) := by omega
    have h0'' : ¬ (l = []) := by intro h; rw [h] at h0; exact h0 rfl
    go_wp2_with fail
    refine (rootgo_any l.length l _ _ ((w.alloc (.cells (cells8 (List.replicate 32 0)).toArray 24)).alloc (.cells #[rootFn (w.heap.size + 1)] 53)) (Nat.le_refl _) h0'' HV.out HF.out).mono ?_
    rw [← HS.out]
    rintro e w1 ⟨rfl, hb⟩
    have R2 := R1.call (by omega) hb
    go_wp2_with (refine wpList_store_sum rfl _ _ rfl w.heap.size 0 s rfl rfl R2.there ?_)
    have RS := R2.store (cellsOf s)
    exact bodyPost_ret (results_sum Tryz.results62 _ _ _ _ rfl RS.there) rfl ⟨rfl, RS.below⟩
end Go.Proofs.YtdkcndgehgmadaaGreatDoor
