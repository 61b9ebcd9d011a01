/-
  Walks: clashes.apart, clashes.sides.
-/
import Derived.Test.YtdkcndgehgmadaaL2
open Go Go.RowKit Alm
namespace Go.Proofs.Ytdkcndgehgmadaa
set_option maxRecDepth 100000 in
set_option maxHeartbeats 1000000 in
theorem apart_same (x y : Sum) (w : World) : Calls Try.prog 102 #[pv x y, pv x y] w fun e w' => e = .returned (.tuple #[]) ∧ Below w.heap.size w w' := by
  have hr0 := World.rangeAt_alloc (range_new w (cellsP x y).toArray 132 _ rfl) (.cells (cellsP x y).toArray 132)
  have hr1 := range_new (w.alloc (.cells (cellsP x y).toArray 132)) (cellsP x y).toArray 132 _ rfl
  rw [World.size_alloc] at hr1
  have HH := Lib.hid (And.intro hr0 (And.intro hr1 (al (al (Below.refl _ w) (.cells (cellsP x y).toArray 132)) (.cells (cellsP x y).toArray 132))))
  clear hr0 hr1
  have heq : ∀ w : World, (Op.equalIn 10000 132 (pv x y) (pv x y)).run Try.prog w = .ok true w := fun w => by rw [eq_pair]; simp
  go_enter Try.func102, Try.ntmps102
  go_wp2_with (first
    | (refine wpList_load_pair rfl _ rfl w.heap.size 0 rfl x y HH.out.1 ?_)
    | (refine wpList_load_pair rfl _ rfl (w.heap.size + 1) 0 rfl x y HH.out.2.1 ?_))
  exact bodyPost_end (results_none rfl _ _ _) rfl ⟨rfl, HH.out.2.2⟩
theorem wpS_load_pair {md : Region.Mode} {S : World → Prop} {ops : List Oper} {Q : Exit → Act → World → Prop} {r : List Mv} {a : Act} {w : World} {o : Oper} {i : Nat} (hS : S w) (ho : ops[i]? = some o) (hg : Region.wanted o (yielded ops.toArray a.tmps) = true) (x : Operand) (hop : o.op = .load 132 x) (b off : Nat) (hx : a.eval x = .pointer (some ⟨b, off, none⟩)) (s t : Sum)
    (hc : ∀ W, S W → W.rangeAt b off (cellsP s t)) (h : wpS Try.prog md ops.toArray Q S r (a.put o.dst (pv s t)) w) : wpS Try.prog md ops.toArray Q S (.s i :: r) a w :=
  wpS_load_mid hS ho hg _ x hop b off hx (cellsP s t) _ hc Try.underlying132 rfl (by rw [length_cellsP]; exact infoPair) h
set_option maxRecDepth 100000 in
set_option maxHeartbeats 1000000 in
theorem apart_clash (x y x' y' : Sum) (w : World) (hne : ¬ (x = x' ∧ y = y')) (hs : nd x y = nd x' y') : Calls Try.prog 102 #[pv x y, pv x' y'] w (ClashOf w) := by
  have hr0 := World.rangeAt_alloc (range_new w (cellsP x y).toArray 132 _ rfl) (.cells (cellsP x' y').toArray 132)
  have hr1 := range_new (w.alloc (.cells (cellsP x y).toArray 132)) (cellsP x' y').toArray 132 _ rfl
  rw [World.size_alloc] at hr1
  have HH := Lib.hid (And.intro hr0 (And.intro hr1 (al (al (Below.refl _ w) (.cells (cellsP x y).toArray 132)) (.cells (cellsP x' y').toArray 132))))
  clear hr0 hr1
  have HI := Lib.hid (isB_node x y x' y' hne hs)
  have heq : ∀ w : World, (Op.equalIn 10000 132 (pv x y) (pv x' y')).run Try.prog w = .ok false w := fun w => by
    rw [eq_pair]
    by_cases h1 : x = x'
    · have h2 : ¬ y = y' := fun h2 => hne ⟨h1, h2⟩
      simp [h1, h2]
    · simp [h1]
  clear hne hs
  go_enter Try.func102, Try.ntmps102
  go_wp2_with (first
    | (refine wpList_load_pair rfl _ rfl w.heap.size 0 rfl x y HH.out.1 ?_)
    | (refine wpList_load_pair rfl _ rfl (w.heap.size + 1) 0 rfl x' y' HH.out.2.1 ?_))
  clear heq
  generalize (w.alloc (.cells (cellsP x y).toArray 132)).alloc (.cells (cellsP x' y').toArray 132) = W at *
  obtain ⟨z, hz⟩ : ∃ z, z = w.heap.size := ⟨_, rfl⟩
  have hz1 := HH.out.1
  have hz2 := HH.out.2.1
  rw [← hz] at hz1 hz2 ⊢
  have HR := Lib.hid (And.intro hz1 hz2)
  have HB := Lib.hid HH.out.2.2
  clear hz hz1 hz2 HH
  refine wp_region_sched (fun V => V.rangeAt z 0 (cellsP x y) ∧ V.rangeAt (z + 1) 0 (cellsP x' y')) [.s 0, .s 2, .e 1 true, .e 3 true, .t 4, .t 5, .e 6 true] (by kernel_rfl) (by kernel_rfl) (by intro c a d v w h; cases d <;> exact h) ?_
  have HS := Lib.hid (show W.drew.rangeAt z 0 (cellsP x y) ∧ W.drew.rangeAt (z + 1) 0 (cellsP x' y') from HR.out)
  replace HB := Lib.hid HB.out.drew
  generalize W.drew = V at *
  refine wpS_load_pair (by exact HS.out) rfl (by rfl) _ (by rfl) z 0 (by rfl) x y (fun V hV => hV.1) ?_
  try simp only [Act.put, List.setIfInBounds_toArray, List.set_cons_zero, List.set_cons_succ]
  refine wpS_load_pair (by exact HS.out) rfl (by rfl) _ (by rfl) (z + 1) 0 (by rfl) x' y' (fun V hV => hV.2) ?_
  try simp only [Act.put, List.setIfInBounds_toArray, List.set_cons_zero, List.set_cons_succ]
  refine wpS_k rfl (by rfl) (fun K hK => ?_)
  go_simp
  refine (pbytes_any x y V).mono ?_
  rintro e V1 ⟨v1, rfl, hv1, hb⟩
  have HS1 := Lib.hid (And.intro (br hb HS.out.1) (br hb HS.out.2))
  have HB1 := Lib.hid (HB.out.trans (hb.mono HB.out.size))
  have HV1 := Lib.hid hv1
  obtain ⟨a1, c1, rfl, _, _, hz1⟩ := hv1
  have hl1 : (1 :: (x.toList ++ y.toList)).length = 65 := by simp
  rw [hl1] at HV1 ⊢
  clear hz1 hb HS HB HR hl1
  refine hK _ _ ⟨by exact HS1.out, ?_⟩; clear hK K
  try simp only [Act.put, List.setIfInBounds_toArray, List.set_cons_zero, List.set_cons_succ]
  refine wpS_k rfl (by rfl) (fun K hK => ?_)
  go_simp
  refine (pbytes_any x' y' V1).mono ?_
  rintro e V2 ⟨v2, rfl, hv2, hb⟩
  have HS2 := Lib.hid (And.intro (br hb HS1.out.1) (br hb HS1.out.2))
  have HF : Hid (ClashOf w (.panicked (panC (.slice a1 65 c1) v2)) V2) := Lib.hid ⟨_, _, _, _, rfl, bytes_below HV1.out hb (Nat.le_refl _), hv2, HI.out, by simp, by simp, HB1.out.trans (hb.mono HB1.out.size)⟩
  obtain ⟨a2, c2, rfl, _, _, hz1⟩ := hv2
  have hl2 : (1 :: (x'.toList ++ y'.toList)).length = 65 := by simp
  rw [hl2] at HF ⊢
  clear hz1 hb HS1 HB1 HV1 hl2
  refine hK _ _ ⟨by exact HS2.out, ?_⟩; clear hK K
  try simp only [Act.put, List.setIfInBounds_toArray, List.set_cons_zero, List.set_cons_succ]
  iterate 2
    refine wpS_t rfl (v := ?_) (by rfl) (fun W => ?_) ?_
    rotate_left
    · go_simp
      try rfl
    try simp only [Act.put, List.setIfInBounds_toArray, List.set_cons_zero, List.set_cons_succ]
  refine wpS_k rfl (by rfl) (fun K hK => ?_)
  go_simp
  exact ⟨rfl, HF.out⟩
set_option maxRecDepth 100000 in
set_option maxHeartbeats 1000000 in
theorem sides_any (l : List (List UInt8)) (k b o cap : Nat) (w : World) (hl : ListsAt w (.slice (some ⟨b, o, none⟩) l.length cap) l) (hk1 : 1 ≤ k) (hk : k < l.length) (hn : l.length < 1000000) (hs : ∀ x ∈ l, x.length < 1000000) :
    Calls Try.prog 98 #[.slice (some ⟨b, o, none⟩) l.length cap, .int .i64 (k : Int)] w fun e w' => e = .returned (pv (rt ((l.take k).map lf)) (rt ((l.drop k).map lf))) ∧ Below w.heap.size w w' := by
  have R0 : Res w 64 (w.alloc (.cells (cells8 (List.replicate 64 0)).toArray 132)) := Res.start _ _ _ _ (by rfl)
  have hcap : l.length ≤ cap ∧ cap ≤ maxLen := by
    obtain ⟨a, c, hv, h1, h2, _⟩ := hl
    simp only [Value.slice.injEq] at hv
    obtain ⟨_, _, rfl⟩ := hv
    exact ⟨h1, h2⟩
  have HT := Lib.hid (hl.take k (by omega))
  have HD := Lib.hid (hl.drop k (cap - k) (by omega) (by omega) (by have := hcap.2; omega))
  have HR0 := Lib.hid R0
  have HSS : Hid ((∀ x ∈ l.take k, x.length < 1000000) ∧ (∀ x ∈ l.drop k, x.length < 1000000) ∧ (l.take k).length < 1000000 ∧ (l.drop k).length < 1000000) := Lib.hid ⟨fun x hx => hs x (List.mem_of_mem_take hx), fun x hx => hs x (List.mem_of_mem_drop hx), by rw [List.length_take]; omega, by rw [List.length_drop]; omega⟩
  obtain ⟨ra, hra⟩ : ∃ r, r = rt ((l.take k).map lf) := ⟨_, rfl⟩
  obtain ⟨rb, hrb⟩ : ∃ r, r = rt ((l.drop k).map lf) := ⟨_, rfl⟩
  rw [← hra, ← hrb]
  have HRA := Lib.hid hra
  have HRB := Lib.hid hrb
  obtain ⟨n, hnl⟩ : ∃ n, n = l.length := ⟨_, rfl⟩
  rw [← hnl] at HD hcap hk ⊢
  have c2 := hcap.2
  unfold maxLen at c2
  have k0 : (0 : Int) ≤ (k : Int) := by omega
  have k1 : (k : Int) ≤ (n : Int) := by omega
  have k2 : (k : Int) ≤ (cap : Int) := by have := hcap.1; omega
  have k3 : ¬ (cap = k) := by have := hcap.1; omega
  have k4 : ¬ (k = cap) := by have := hcap.1; omega
  clear hra hrb hnl hl hs R0 hcap
  go_enter Try.func98, Try.ntmps98
  go_wp2_with fail
  refine wp_region_sched (fun _ => True) [.t 0, .t 1, .t 2, .t 4, .t 5, .t 6, .e 3 true, .e 7 true, .t 8, .e 9 true] (by kernel_rfl) (by kernel_rfl) (by intro c a d v w h; cases d <;> exact h) ?_
  change wpS _ _ _ _ _ _ _ (w.alloc (.cells (cells8 (List.replicate 64 0)).toArray 132)).drew
  have HR := Lib.hid HR0.out.drew
  clear HR0
  generalize (w.alloc (.cells (cells8 (List.replicate 64 0)).toArray 132)).drew = V at *
  iterate 6
    refine wpS_t rfl (v := ?_) (by rfl) (fun W => ?_) ?_
    rotate_left
    · go_simp
      try rfl
    try simp only [Act.put, List.setIfInBounds_toArray, List.set_cons_zero, List.set_cons_succ]
  refine wpS_k rfl (by rfl) (fun K hK => ?_)
  go_simp
  refine (croot_any (l.take k) _ V (HT.out.below HR.out.below) HSS.out.2.2.1 HSS.out.1).mono ?_
  rw [← HRA.out]
  rintro e V1 ⟨rfl, hb⟩
  have HR1 := Lib.hid (HR.out.call (by decide) hb)
  clear hb HR
  refine hK _ _ ⟨by trivial, ?_⟩; clear hK K
  try simp only [Act.put, List.setIfInBounds_toArray, List.set_cons_zero, List.set_cons_succ]
  refine wpS_k rfl (by rfl) (fun K hK => ?_)
  go_simp
  refine (croot_any (l.drop k) _ V1 (HD.out.below HR1.out.below) HSS.out.2.2.2 HSS.out.2.1).mono ?_
  rw [← HRB.out]
  rintro e V2 ⟨rfl, hb⟩
  have HR2 := Lib.hid (HR1.out.call (by decide) hb)
  clear hb HR1
  refine hK _ _ ⟨by trivial, ?_⟩; clear hK K
  try simp only [Act.put, List.setIfInBounds_toArray, List.set_cons_zero, List.set_cons_succ]
  refine wpS_t rfl (v := pv ra rb) (by rfl) (fun W => exec_build_pair _ rfl ra rb (by rfl) W) ?_
  try simp only [Act.put, List.setIfInBounds_toArray, List.set_cons_zero, List.set_cons_succ]
  refine wpS_k rfl (by rfl) (fun K hK => ?_)
  refine wp_store_pair _ _ (by rfl) w.heap.size 0 ra rb (by rfl) (by rfl) HR2.out.there ?_
  refine hK _ _ ⟨by trivial, ?_⟩; clear hK K
  try simp only [Act.put, List.setIfInBounds_toArray, List.set_cons_zero, List.set_cons_succ]
  refine wpS_done ?_
  go_wp2_with fail
  exact bodyPost_ret (results_mid Try.results98 _ _ w.heap.size 0 (cellsP ra rb) _ rfl (range_stored _ _ _ _ (by rw [length_cellsP]; exact World.there_setCells HR2.out.there _ _ _)) Try.underlying132 rfl (by rw [length_cellsP]; exact infoPair)) rfl ⟨rfl, (HR2.out.store _).below⟩
end Go.Proofs.Ytdkcndgehgmadaa
