/-
  Joined: VTW2, VTB2, SO6, SO7.
-/
import Derived.Test.YtfmgoehnbaiamaaGreatDoorZBE
import Derived.Test.YtfmgoehnbaiamaaGreatDoorZBG
import Derived.Test.YtfmgoehnbaiamaaGreatDoorU2
import Derived.Test.YtfmgoehnbaiamaaGreatDoorZAS
import Derived.Test.YtfmgoehnbaiamaaGreatDoorZBH
-- Walk: a copy of sums is what it was made of (LeftSums).
open Go Go.RowKit Alm
namespace Go.Proofs.YtfmgoehnbaiamaaGreatDoor
theorem left_nums {n cap : Nat} (h : n < 900000) (hc : n + 1 ≤ cap) : wrap64 ((n : Int) + 1) = ((n + 1 : Nat) : Int) ∧ (n : Int) < (cap : Int) ∧ ¬ (cap : Int) ≤ (n : Int) ∧ decide ((cap : Int) ≤ (n : Int)) = false ∧ decide (cap ≤ n) = false ∧ ((n + 1 : Nat) : Int) ≤ (cap : Int) ∧ (0 : Int) ≤ (n : Int) ∧ (n : Int) < ((n + 1 : Nat) : Int) ∧ ¬ cap ≤ n ∧ n + 1 ≤ cap := by
  refine ⟨by unfold wrap64; omega, by omega, by omega, by simp; omega, by simp; omega, by omega, by omega, by omega, by omega, hc⟩
end Go.Proofs.YtfmgoehnbaiamaaGreatDoor
-- Walk: a copy of bytes is what it was made of (LeftBytes).
namespace Go.Proofs.YtfmgoehnbaiamaaGreatDoor
set_option maxRecDepth 100000 in
set_option maxHeartbeats 1000000 in
theorem left_bytes (l : List UInt8) (vt v : Value) (base : Nat) (w : World) (ht : TwinB w base vt l) (hv : BytesAt w v l) (hl : l.length < 900000) : Calls Tryz.prog 33 #[vt, v] w fun e w' => e = .returned (.bool true) ∧ Below w.heap.size w w' := by
  have hv0 := hv
  obtain ⟨va, vc, rfl, hc1, hc2, h3⟩ := hv
  have ht0 := ht
  obtain ⟨g, cap, rfl, hlie⟩ := ht
  have hcp : l.length + 1 ≤ cap ∧ w.rangeAt g 0 (cells8 (l ++ [77])) := by
    rcases hlie with ⟨h0, _⟩ | ⟨g', cap', hv4, _, _, hnc, _, hr, _⟩
    · cases h0
    · simp only [Value.slice.injEq, Option.some.injEq, Addr.mk.injEq, and_true] at hv4
      obtain ⟨rfl, _, rfl⟩ := hv4
      rw [ones_len, List.length_append, List.length_singleton] at hnc
      rw [ones_flat] at hr
      exact ⟨hnc, hr⟩
  obtain ⟨n, hn⟩ : ∃ n, n = l.length := ⟨_, rfl⟩
  rw [← hn] at hc1 hv0 hl hcp ⊢
  obtain ⟨k1, k2, k3, k4, k5, k6, k7, k8, k9, k10⟩ := left_nums hl hcp.1
  obtain ⟨n1, hn1⟩ : ∃ m, m = n + 1 := ⟨_, rfl⟩
  rw [← hn1] at k1 k6 k8 k10
  have HV := Lib.hid (And.intro hv0 (And.intro hn (And.intro hc1 (And.intro hc2 (And.intro hl (And.intro hn1 hcp.2))))))
  clear hv0 hn hc1 hc2 hl hn1 hcp hlie ht0 h3
  go_enter Tryz.func33, Tryz.ntmps33
  go_wp2_with fail
  go_loopw [5] (fun iv W => ∃ i : Nat, i ≤ n ∧ iv = .int .i64 (i : Int) ∧ Below w.heap.size w W) (fun iv _ => n - (intOf iv).toNat)
  case atStart => exact ⟨0, Nat.zero_le _, rfl, Below.refl _ _⟩
  case round =>
    obtain ⟨i, hi, rfl, hB⟩ := hrel
    by_cases hlt : i < n
    · obtain ⟨d1, d2, d3, d4⟩ := dec_lt hlt
      have hil : i < l.length := by rw [← HV.out.2.1]; exact hlt
      have hne : l ≠ [] := by intro h; rw [h] at hil; simp at hil
      obtain ⟨b, o, cap', hvf, _, _, hr⟩ := bytes_form8 HV.out.1 hne
      simp only [Value.slice.injEq] at hvf
      obtain ⟨rfl, -, rfl⟩ := hvf
      have hx := bcl hB (range_at8 hr hil)
      have hr2 := range_at8 HV.out.2.2.2.2.2.2 (i := i) (by rw [List.length_append, List.length_singleton]; omega)
      rw [List.getElem_append_left hil, Nat.zero_add] at hr2
      have hx2 := bcl hB hr2
      have hd := (Below.refl wr.heap.size wr).drew
      generalize l[i] = s at *
      have HX := Lib.hid (And.intro (bcl hd hx) (And.intro (bcl hd hx2) hB.drew))
      clear hx hx2 hr hr2 hne hil hd hB
      go_wp2_with fail
      refine wp_region_sched (fun V => V.cell? ⟨g, i, none⟩ = some (.int .u8 ((s.toNat : Nat) : Int)) ∧ V.cell? ⟨b, o + i, none⟩ = some (.int .u8 ((s.toNat : Nat) : Int))) [.t 0, .t 1, .t 2, .t 4, .t 5, .t 6, .s 3, .s 7, .t 8] (by kernel_rfl) (by kernel_rfl) (by intro c a d v w h; cases d <;> exact h) ?_
      generalize wr.drew = V at *
      iterate 6
        refine wpS_t rfl (v := ?_) (by rfl) (fun W => ?_) ?_
        rotate_left
        · go_simp
          try rfl
        try simp only [Act.put, List.setIfInBounds_toArray, List.set_cons_zero, List.set_cons_succ]
      refine wpS_s (by exact And.intro HX.out.2.1 HX.out.1) rfl (v := ?_) (by rfl) (fun W hSW => ?_) ?_
      rotate_left
      · go_simp
        try rfl
      try simp only [Act.put, List.setIfInBounds_toArray, List.set_cons_zero, List.set_cons_succ]
      refine wpS_s (by exact And.intro HX.out.2.1 HX.out.1) rfl (v := ?_) (by rfl) (fun W hSW => ?_) ?_
      rotate_left
      · go_simp
        try rfl
      try simp only [Act.put, List.setIfInBounds_toArray, List.set_cons_zero, List.set_cons_succ]
      iterate 1
        refine wpS_t rfl (v := ?_) (by rfl) (fun W => ?_) ?_
        rotate_left
        · go_simp
          try rfl
        try simp only [Act.put, List.setIfInBounds_toArray, List.set_cons_zero, List.set_cons_succ]
      refine wpS_done ?_
      go_wp2_with fail
      have hwi := wrapn (k := i) (by have := HV.out; omega)
      try rw [hwi]
      have h9 := HX.out.2.2
      clear hwi HX HV k1 k2 k3 k4 k5 k6 k7 k8 k9 k10 d1 d2 d3 d4
      refine ⟨⟨i + 1, hlt, rfl, h9⟩, ?_⟩
      clear h9
      simp only [intOf, Int.toNat_natCast]
      omega
    · obtain rfl : i = n := by omega
      have hr2 := range_at8 HV.out.2.2.2.2.2.2 (i := i) (by rw [List.length_append, List.length_singleton, ← HV.out.2.1]; omega)
      rw [List.getElem_append_right (by rw [← HV.out.2.1]; omega), Nat.zero_add] at hr2
      simp only [List.getElem_singleton] at hr2
      have hx2 := bcl hB hr2
      have HX := Lib.hid hB
      clear hr2 hB
      have hx3 : wr.cell? ⟨g, i, none⟩ = some (.int .u8 77) := hx2
      clear hx2
      go_wp2_with fail
      exact bodyPost_ret (results_tmp rfl _ _ _) rfl ⟨rfl, HX.out⟩
end Go.Proofs.YtfmgoehnbaiamaaGreatDoor
-- Walks: almonerref14: Bit, Side, Value.
namespace Go.Proofs.YtfmgoehnbaiamaaGreatDoor
set_option maxRecDepth 100000 in
theorem rbit_any (k : Sum) (d : Nat) (w : World) (hd : d < 256) : Calls Tryz.prog 101 #[sv k, .int .i64 (d : Int)] w fun e w' => e = .returned (.int .i64 (((Keys.kn k >>> (255 - d)) % 2 : Nat) : Int)) ∧ Below w.heap.size w w' := by
  have hb := al (Below.refl _ w) (.cells (cellsOf k).toArray 24)
  obtain ⟨c, hcn⟩ : ∃ c, c = k.toList.getD (d / 8) 0 := ⟨_, rfl⟩
  have hc : (cellsOf k)[d / 8]? = some (.int .u8 ((c.toNat : Nat) : Int)) := by
    have h1 : d / 8 < 32 := by omega
    unfold cellsOf
    rw [hcn, List.getElem?_map, List.getD_eq_getElem?_getD, List.getElem?_eq_getElem (by simpa using h1)]; rfl
  have d0 : decide ((d : Int) < 0) = false := by simp
  have d1 : decide (256 ≤ (d : Int)) = false := by simp; omega
  have d2 : (0 : Int) ≤ (d : Int) ∧ (d : Int) < 256 := by omega
  have HB := Lib.hid hb
  have HC := Lib.hid hcn
  clear hb hcn
  go_enter Tryz.func101, Tryz.ntmps101
  go_wp2_with fail
  have hx : c.toNat < 256 := c.toNat_lt
  have hy : c.toNat / 2 ^ (7 - d % 8) < 256 := Nat.lt_of_le_of_lt (Nat.div_le_self _ _) hx
  have e1 : ((c.toNat : Nat) : Int) / 2 ^ (7 - d % 8) = ((c.toNat / 2 ^ (7 - d % 8) : Nat) : Int) := by rw [Int.natCast_ediv, Int.natCast_pow]; rfl
  have e2 : wrap64 ((c.toNat / 2 ^ (7 - d % 8) : Nat) : Int) = ((c.toNat / 2 ^ (7 - d % 8) : Nat) : Int) := by
    generalize c.toNat / 2 ^ (7 - d % 8) = y at hy
    unfold wrap64; omega
  have e3 : (Keys.kn k >>> (255 - d)) % 2 = (c.toNat / 2 ^ (7 - d % 8)) % 2 := by rw [key_bit k d hd, ← HC.out, Nat.shiftRight_eq_div_pow]
  have e0 : wrap64 ((c.toNat : Nat) : Int) = ((c.toNat : Nat) : Int) := by unfold wrap64; omega
  rw [e0, e1, and1 _ hy, e3]
  exact bodyPost_ret (results_tmp rfl _ _ _) rfl ⟨rfl, HB.out⟩
set_option maxRecDepth 100000 in
set_option maxHeartbeats 1000000 in
theorem rside_any (l r : Sum) (w : World) : Calls Tryz.prog 125 #[sv l, sv r] w fun e w' => e = .returned (sv (sd l r)) ∧ Below w.heap.size w w' := by
  obtain ⟨s, hs⟩ : ∃ s, s = sd l r := ⟨_, rfl⟩
  rw [← hs]
  rw [sd_eq] at hs
  have HS := Lib.hid hs
  clear hs
  obtain ⟨w1, hw1⟩ : ∃ x, x = w.alloc (.cells (cellsOf l).toArray 24) := ⟨_, rfl⟩
  obtain ⟨w2, hw2⟩ : ∃ x, x = w1.alloc (.cells (cellsOf r).toArray 24) := ⟨_, rfl⟩
  obtain ⟨w3, hw3⟩ : ∃ x, x = w2.alloc (.cells (cellsOf zeroSum).toArray 24) := ⟨_, rfl⟩
  have r1 : w1.rangeAt w.heap.size 0 (cellsOf l) := by rw [hw1]; exact range_new w _ _ _ rfl
  have r2 : w2.rangeAt w1.heap.size 0 (cellsOf r) := by rw [hw2]; exact range_new w1 _ _ _ rfl
  have t3 : w3.there w2.heap.size 0 32 := by rw [hw3]; exact there_new w2 (cellsOf zeroSum).toArray _
  have b1 : Below w.heap.size w w1 := by rw [hw1]; exact al (Below.refl _ _) _
  have b2 : Below w1.heap.size w1 w2 := by rw [hw2]; exact al (Below.refl _ _) _
  have b3 : Below w2.heap.size w2 w3 := by rw [hw3]; exact al (Below.refl _ _) _
  have r13 := (Keeps.of_below (X := fun _ => False) b3).range ((Keeps.of_below (X := fun _ => False) b2).range r1 (fun h => h)) (fun h => h)
  have r23 := (Keeps.of_below (X := fun _ => False) b3).range r2 (fun h => h)
  have b13 := (b1.trans (b2.mono b1.size)).trans (b3.mono (Nat.le_trans b1.size b2.size))
  have s1 : w1.heap.size = w.heap.size + 1 := by rw [hw1, World.size_alloc]
  have s2 : w2.heap.size = w.heap.size + 2 := by rw [hw2, World.size_alloc, s1]
  have H0 := Lib.hid (And.intro r13 (And.intro r23 (And.intro t3 (And.intro b13 (And.intro s1 s2)))))
  have HW := Lib.hid (And.intro hw1 (And.intro hw2 hw3))
  clear r1 r2 t3 b1 b2 b3 r13 r23 b13 s1 s2 hw1 hw2 hw3
  go_enter Tryz.func125, Tryz.ntmps125
  refine Alm.wp_cut 1 ?_
  intro T hT
  dsimp only [cutN]
  replace hT := Lib.hid hT
  go_wp2_with fail
  refine hT.out _ _ ?_
  clear hT
  dsimp only [dropN]
  rw [← HW.out.1]
  rw [← HW.out.2.1]
  change Code.wp _ _ _ _ (w2.alloc (.cells (cellsOf zeroSum).toArray 24))
  rw [← HW.out.2.2]
  have hs3 : w3.heap.size = w.heap.size + 3 := by rw [HW.out.2.2, World.size_alloc, H0.out.2.2.2.2.2]
  have HS3 := Lib.hid hs3
  clear hs3 HW
  obtain ⟨r1, r2, t3, b13, s1, s2⟩ := H0.out
  rw [s1] at r2
  rw [s2] at t3
  rw [show w.heap.size + 1 + 1 = w.heap.size + 2 from rfl]
  have hd := (Below.refl w3.heap.size w3).drew
  have HV := Lib.hid (And.intro ((Keeps.of_below (X := fun _ => False) hd).range r1 (fun h => h)) (And.intro ((Keeps.of_below (X := fun _ => False) hd).range r2 (fun h => h)) (And.intro ((Keeps.of_below (X := fun _ => False) hd).there t3 (by decide) (fun h => h)) (And.intro b13.drew (show w3.drew.heap.size = w.heap.size + 3 from HS3.out)))))
  clear r1 r2 t3 b13 s1 s2 hd H0 HS3
  go_wp2_with fail
  refine wp_region_sched (fun V => Below w3.drew.heap.size w3.drew V) [.t 1, .t 3, .e 0 false, .e 2 false, .e 4 false, .e 5 false, .e 6 false] (by kernel_rfl) (by kernel_rfl) (by intro c a d v w h; cases d <;> exact h) ?_
  generalize w3.drew = V at *
  iterate 2
    refine wpS_t rfl (v := ?_) (by rfl) (fun W => ?_) ?_
    rotate_left
    · go_simp
      try rfl
    try simp only [Act.put, List.setIfInBounds_toArray, List.set_cons_zero, List.set_cons_succ]
  refine wpS_e rfl (by rfl) (fun K hK => ?_)
  go_simp
  have ho := own_one (w := V) 4 #[.int .u8 4] rfl
  have hba := al (Below.refl V.heap.size V) (.cells #[.int .u8 4] 5)
  have HO := Lib.hid (And.intro ho hba)
  clear ho hba
  refine hK _ _ ?_; clear hK K
  try simp only [Act.put, List.setIfInBounds_toArray, List.set_cons_zero, List.set_cons_succ]
  generalize V.alloc (.cells #[.int .u8 4] 5) = V1 at *
  refine wpS_e rfl (by rfl) (fun K hK => ?_)
  have hr1 := (Keeps.of_below (X := fun _ => False) HO.out.2).range HV.out.1 (fun h => h)
  refine wp_append_b8 _ _ rfl V.heap.size _ [4] l.toList 1 32 rfl (length_sum l) (by rfl) HO.out.1 w.heap.size 0 32 (by rfl) hr1 (by omega) (by omega) HO.out.2.size ?_
  intro g2 c2 V2 ho2 hg2
  have hb2 := own_grown HO.out.2 HO.out.1 hg2 HO.out.2.size
  have H2 := Lib.hid (And.intro ho2 hb2)
  clear ho2 hb2 hg2 hr1
  refine hK _ _ ?_; clear hK K
  try simp only [Act.put, List.setIfInBounds_toArray, List.set_cons_zero, List.set_cons_succ]
  refine wpS_e rfl (by rfl) (fun K hK => ?_)
  have hr2 := (Keeps.of_below (X := fun _ => False) H2.out.2).range HV.out.2.1 (fun h => h)
  refine wp_append_b8 _ _ rfl V.heap.size _ ([4] ++ l.toList) r.toList 33 32 (by simp) (length_sum r) (by rfl) H2.out.1 (w.heap.size + 1) 0 32 (by rfl) hr2 (by omega) (by omega) H2.out.2.size ?_
  intro g3 c3 V3 ho3 hg3
  have hb3 := own_grown H2.out.2 H2.out.1 hg3 H2.out.2.size
  have hby : BytesAt V3 (.slice (some ⟨g3, 0, none⟩) (33 + 32) c3) ([4] ++ l.toList ++ r.toList) := by
    have hlen : ([4] ++ l.toList ++ r.toList : List UInt8).length = 33 + 32 := by simp
    have := bytes_own (l := [4] ++ l.toList ++ r.toList) (by rw [hlen]; exact ho3) (by rw [hlen]; omega)
    exact this
  have HC := Lib.hid (refof_any _ _ V3 hby (by simp))
  have H3 := Lib.hid hb3
  clear ho3 hb3 hg3 hby hr2
  refine hK _ _ ?_; clear hK K
  try simp only [Act.put, List.setIfInBounds_toArray, List.set_cons_zero, List.set_cons_succ]
  refine wpS_e rfl (by rfl) (fun K hK => ?_)
  go_simp
  refine HC.out.mono ?_
  rintro e V4 ⟨rfl, hb4⟩
  have hb4' := H3.out.trans (hb4.mono H3.out.size)
  have H4 := Lib.hid (And.intro ((Keeps.of_below (X := fun _ => False) hb4').there HV.out.2.2.1 (by decide) (fun h => h)) (HV.out.2.2.2.1.trans (hb4'.mono HV.out.2.2.2.1.size)))
  have hs4 : s = sha (4 :: (l.toList ++ r.toList)) := HS.out
  rw [show ([4] ++ l.toList ++ r.toList : List UInt8) = 4 :: (l.toList ++ r.toList) from rfl, ← hs4]
  clear hb4 hb4' HC H3 hs4
  refine hK _ _ ?_; clear hK K
  try simp only [Act.put, List.setIfInBounds_toArray, List.set_cons_zero, List.set_cons_succ]
  refine wpS_e rfl (by rfl) (fun K hK => ?_)
  refine wp_store_sum _ _ rfl (w.heap.size + 2) 0 s (by rfl) (by rfl) H4.out.1 ?_
  refine hK _ _ ?_; clear hK K
  try simp only [Act.put]
  refine wpS_done ?_
  go_wp2_with fail
  exact bodyPost_ret (results_sum Tryz.results125 _ _ _ _ rfl (World.there_setCells H4.out.1 _ _ _)) rfl ⟨rfl, setCells_below _ (by omega) _ _ _ _ H4.out.2⟩
set_option maxRecDepth 100000 in
set_option maxHeartbeats 1000000 in
theorem rval_any (k : Sum) (b : List UInt8) (v : Value) (w : World) (hv : BytesAt w v b) (hl : b.length < 900000) : Calls Tryz.prog 124 #[sv k, v] w fun e w' => e = .returned (sv (vl k b)) ∧ Below w.heap.size w w' := by
  obtain ⟨s, hs⟩ : ∃ s, s = vl k b := ⟨_, rfl⟩
  rw [← hs]
  rw [vl_eq] at hs
  have hs' : s = if b = [] then sha [2] else sha (3 :: (k.toList ++ b)) := hs
  have HS := Lib.hid hs'
  clear hs hs'
  obtain ⟨w0, hw0⟩ : ∃ x, x = w.alloc (.cells (cellsOf k).toArray 24) := ⟨_, rfl⟩
  obtain ⟨w1, hw1⟩ : ∃ x, x = w0.alloc (.cells (cellsOf zeroSum).toArray 24) := ⟨_, rfl⟩
  have r0 : w0.rangeAt w.heap.size 0 (cellsOf k) := by rw [hw0]; exact range_new w _ _ _ rfl
  have b0 : Below w.heap.size w w0 := by rw [hw0]; exact al (Below.refl _ _) _
  have s0 : w0.heap.size = w.heap.size + 1 := by rw [hw0, World.size_alloc]
  have t1 : w1.there (w.heap.size + 1) 0 32 := by rw [← s0, hw1]; exact there_new w0 (cellsOf zeroSum).toArray _
  have b1 : Below w0.heap.size w0 w1 := by rw [hw1]; exact al (Below.refl _ _) _
  have r1 := (Keeps.of_below (X := fun _ => False) b1).range r0 (fun h => h)
  have b01 := b0.trans (b1.mono b0.size)
  have hv1 := bytes_below hv b01 (Nat.le_refl _)
  have H0 := Lib.hid (And.intro t1 (And.intro b01 (And.intro hv1 (And.intro hl r1))))
  have HW := Lib.hid (And.intro hw0 hw1)
  obtain ⟨av, cv, rfl, hv5, _, _⟩ := id hv
  obtain ⟨n, hn⟩ : ∃ n, n = b.length := ⟨_, rfl⟩
  rw [← hn] at H0 ⊢
  have HN := Lib.hid hn
  obtain ⟨db, hdb⟩ : ∃ d : Bool, d = decide (n = 0) := ⟨_, rfl⟩
  have e1 : decide ((n : Int) = 0) = db := by rw [hdb, decide_eq_decide]; omega
  have e2 : decide (n = 0) = db := hdb.symm
  have e3 : ((n : Int) == 0) = db := by rw [hdb, Bool.eq_iff_iff, beq_iff_eq, decide_eq_true_eq]; omega
  have HD := Lib.hid hdb
  clear hdb hn r0 b0 s0 t1 b1 r1 b01 hv hv1 hl hw0 hw1 hv5
  go_enter Tryz.func124, Tryz.ntmps124
  refine Alm.wp_cut 1 ?_
  intro T hT
  dsimp only [cutN]
  replace hT := Lib.hid hT
  go_wp2_with fail
  refine hT.out _ _ ?_
  clear hT
  dsimp only [dropN]
  rw [← HW.out.1]
  change Code.wp _ _ _ _ (w0.alloc (.cells (cellsOf zeroSum).toArray 24))
  rw [← HW.out.2]
  clear HW
  have ho0 := own_one (w := w1) 2 #[.int .u8 2] rfl
  have ho3 := own_one (w := w1) 3 #[.int .u8 3] rfl
  have hb2 := al (Below.refl w1.heap.size w1) (.cells #[.int .u8 2] 5)
  have hb3 := al (Below.refl w1.heap.size w1) (.cells #[.int .u8 3] 5)
  have HO := Lib.hid (And.intro ho0 (And.intro hb2 (And.intro ho3 hb3)))
  clear ho0 ho3 hb2 hb3
  cases db with
  | true =>
    have hbe : b = [] := by have := HD.out; have h2 := HN.out; have : n = 0 := of_decide_eq_true this.symm; exact List.length_eq_zero_iff.1 (by rw [← h2, this])
    have hs2 : s = sha [2] := by rw [HS.out, if_pos hbe]
    have HS2 := Lib.hid hs2
    clear hbe hs2
    go_wp2_with fail
    have hby : BytesAt (w1.alloc (.cells #[.int .u8 2] 5)) (.slice (some ⟨w1.heap.size, 0, none⟩) 1 1) [2] := bytes_one 2 _ rfl rfl
    have HC := Lib.hid (refof_any [2] _ _ hby (by simp))
    clear hby
    rw [← HS2.out] at HC
    have H3 := Lib.hid HO.out.2.1
    generalize w1.alloc (.cells #[.int .u8 2] 5) = w3 at *
    refine HC.out.mono ?_
    rintro e w4 ⟨rfl, hb4⟩
    have hb4' := H3.out.trans (hb4.mono H3.out.size)
    have H4 := Lib.hid (And.intro ((Keeps.of_below (X := fun _ => False) hb4').there H0.out.1 (by decide) (fun h => h)) (H0.out.2.1.trans (hb4'.mono H0.out.2.1.size)))
    clear hb4 hb4'
    go_wp2_with (refine wpList_store_sum rfl _ _ rfl (w.heap.size + 1) 0 s rfl rfl H4.out.1 ?_)
    exact bodyPost_ret (results_sum Tryz.results124 _ _ _ _ rfl (World.there_setCells H4.out.1 _ _ _)) rfl ⟨rfl, setCells_below _ (by omega) _ _ _ _ H4.out.2⟩
  | false =>
    have hbe : b ≠ [] := by intro e0; have h1 := HD.out; have h2 := HN.out; rw [e0] at h2; have : ¬ n = 0 := of_decide_eq_false h1.symm; exact this (by rw [h2]; rfl)
    have hs2 : s = sha (3 :: (k.toList ++ b)) := by rw [HS.out, if_neg hbe]
    have HS2 := Lib.hid hs2
    clear hbe hs2
    refine Alm.wp_cut 1 ?_
    intro T hT
    dsimp only [cutN]
    replace hT := Lib.hid hT
    go_wp2_with fail
    refine hT.out _ _ ?_
    clear hT
    dsimp only [dropN]
    refine wp_seq_k fun K1 hK1 => ?_
    refine wp_region_lit ?_
    refine wpList_plain rfl fun K hK => ?_
    go_simp
    refine hK _ _ ?_
    clear hK K
    try simp only [Act.put, List.setIfInBounds_toArray, List.set_cons_zero, List.set_cons_succ]
    have HV1 := Lib.hid (And.intro HO.out.2.2.1 (And.intro HO.out.2.2.2 (And.intro (bytes_below H0.out.2.2.1 HO.out.2.2.2 (Nat.le_refl _)) ((Keeps.of_below (X := fun _ => False) HO.out.2.2.2).range H0.out.2.2.2.2 (fun h => h)))))
    clear HO
    generalize w1.alloc (.cells #[.int .u8 3] 5) = w2 at *
    refine wpList_plain rfl fun K hK => ?_
    go_simp
    refine hK _ _ ?_
    clear hK K
    try simp only [Act.put, List.setIfInBounds_toArray, List.set_cons_zero, List.set_cons_succ]
    have hks : BytesAt w2 (.slice (some ⟨w.heap.size, 0, none⟩) 32 32) k.toList := ⟨_, 32, by simp, by simp, by decide, .inr ⟨_, _, rfl, HV1.out.2.2.2⟩⟩
    refine wpList_append_bytes rfl _ _ rfl w1.heap.size _ _ [3] k.toList 1 32 rfl (length_sum k) rfl HV1.out.1 rfl hks (by omega) HV1.out.2.1.size ?_
    intro v3 w3 ho3 hg3
    have hb3 := own_grown HV1.out.2.1 HV1.out.1 hg3 HV1.out.2.1.size
    have H3 := Lib.hid (And.intro ho3 (And.intro hb3 (bytes_below H0.out.2.2.1 hb3 (Nat.le_refl _))))
    clear ho3 hb3 hg3 hks HV1
    go_wp2_with (at_builtin; refine Hid.out ?_)
    refine Lib.hid ?_
    refine wpList_append_bytes rfl _ _ rfl w1.heap.size _ _ ([3] ++ k.toList) b 33 n (by simp) HN.out.symm rfl H3.out.1 rfl H3.out.2.2 (by have := H0.out.2.2.2.1; have := HN.out; omega) H3.out.2.1.size ?_
    intro v4 w4 ho4 hg4
    have hb4 := own_grown H3.out.2.1 H3.out.1 hg4 H3.out.2.1.size
    have hby : BytesAt w4 v4 (3 :: (k.toList ++ b)) := by
      have hlen : (3 :: (k.toList ++ b) : List UInt8).length = 33 + n := by have := HN.out; simp; omega
      exact bytes_own (l := 3 :: (k.toList ++ b)) (by rw [hlen]; exact ho4) (by have := H0.out.2.2.2.1; have := HN.out; rw [hlen]; omega)
    have HC := Lib.hid (refof_any _ _ w4 hby (by have := H0.out.2.2.2.1; have := HN.out; simp; omega))
    have H4 := Lib.hid hb4
    clear ho4 hb4 hg4 hby H3
    rw [← HS2.out] at HC
    go_wp2_with (first
      | (go_at_call 117; refine HC.out.mono ?_; rintro e w5 ⟨rfl, hb5⟩; have hb5' := H4.out.trans (hb5.mono H4.out.size); have H5 := Lib.hid (And.intro ((Keeps.of_below (X := fun _ => False) hb5').there H0.out.1 (by decide) (fun h => h)) (H0.out.2.1.trans (hb5'.mono H0.out.2.1.size))); clear hb5 hb5')
      | (refine wpList_store_sum rfl _ _ rfl (w.heap.size + 1) 0 s rfl rfl H5.out.1 ?_))
    exact bodyPost_ret (results_sum Tryz.results124 _ _ _ _ rfl (World.there_setCells H5.out.1 _ _ _)) rfl ⟨rfl, setCells_below _ (by omega) _ _ _ _ H5.out.2⟩
end Go.Proofs.YtfmgoehnbaiamaaGreatDoor
-- Walks: almonerref14.All: what is empty, at each depth.
namespace Go.Proofs.YtfmgoehnbaiamaaGreatDoor
theorem range_allB {w : World} {b : Nat} : ∀ (l : List Sum) (o : Nat), (∀ i (h : i < l.length), w.rangeAt b (o + i * 32) (cellsOf l[i])) → w.rangeAt b o (cellsAll l)
  | [], o, _ => range_nil _ _ _
  | s :: l, o, h => by
    rw [cellsAll_cons, range_append, length_cellsOf]
    refine ⟨?_, range_allB l (o + 32) fun i hi => ?_⟩
    · have := h 0 (by simp)
      rw [Nat.zero_mul, Nat.add_zero] at this; exact this
    · have := h (i + 1) (by simp; omega)
      rw [show o + (i + 1) * 32 = o + 32 + i * 32 from by omega] at this
      exact this
/-- What All has in hand: those from 256 - j on. -/
structure AW (w W : World) (g j : Nat) : Prop where
  bw : Below w.heap.size w W
  th : W.there g 0 (32 * 257)
  g0 : w.heap.size ≤ g
  at_ : ∀ n, n ≤ j → W.rangeAt g ((256 - n) * 32) (cellsOf (em n))
theorem AW.call {w W W' : World} {g j : Nat} (h : AW w W g j) (hb : Below W.heap.size W W') : AW w W' g j :=
  ⟨h.bw.trans (hb.mono h.bw.size), (Keeps.of_below (X := fun _ => False) hb).there h.th (by decide) (fun h => h), h.g0, fun n hn => (Keeps.of_below (X := fun _ => False) hb).range (h.at_ n hn) (fun h => h)⟩
theorem AW.set {w W : World} {g j o : Nat} (h : AW w W g j) (hj : j < 256) (ho : o = (255 - j) * 32) : AW w (W.setCells g o (cellsOf (em (j + 1)))) g (j + 1) := by
  subst ho
  have ht2 := World.there_setCells h.th g ((255 - j) * 32) (cellsOf (em (j + 1)))
  refine ⟨setCells_below _ h.g0 _ _ _ _ h.bw, ht2, h.g0, fun n hn => ?_⟩
  by_cases e : n = j + 1
  · subst e
    rw [show 256 - (j + 1) = 255 - j by omega]
    refine range_stored _ _ _ _ (fun q hq => ?_)
    rw [length_cellsOf] at hq
    have := ht2 ((255 - j) * 32 + q) (by omega)
    rw [Nat.zero_add] at this
    exact this
  · exact World.rangeAt_setCells_apart (h.at_ n (by omega)) _ _ _ (by right; right; rw [length_cellsOf]; omega)
theorem AW.sums {w W : World} {g c : Nat} (h : AW w W g 256) (hc : 257 ≤ c) (hm : c ≤ maxLen) : SumsAt W (.slice (some ⟨g, 0, none⟩) 257 c) nones := by
  refine ⟨_, c, by rw [length_nones], by rw [length_nones]; exact hc, hm, .inr ⟨g, 0, rfl, range_allB nones 0 fun i hi => ?_⟩⟩
  rw [length_nones] at hi
  have h2 := nones_get (d := i) (by omega)
  rw [List.getElem?_eq_getElem (by rw [length_nones]; exact hi), Option.some.injEq] at h2
  rw [h2, Nat.zero_add]
  have := h.at_ (256 - i) (by omega)
  rw [show 256 - (256 - i) = i by omega] at this
  exact this
set_option maxRecDepth 100000 in
set_option maxHeartbeats 2000000 in
theorem rall_any (w : World) : Calls Tryz.prog 66 #[] w fun e w' => ∃ v, e = .returned v ∧ SumsAt w' v nones ∧ Below w.heap.size w w' := by
  obtain ⟨i0, zs0, hi0, hz0, hs0, hb0, hzs0⟩ := info_sumB
  have HI := Lib.hid (And.intro hi0 (And.intro hz0 (And.intro hs0 (And.intro hb0 hzs0))))
  clear hi0 hz0 hs0 hb0 hzs0
  go_enter Tryz.func66, Tryz.ntmps66
  go_wp2_with (at_make; refine wpList_make_full _ rfl _ _ _ rfl w.heap.size 24 i0 zs0 32 Tryz.underlying61 HI.out.1 HI.out.2.1 HI.out.2.2.1 .i64 .i64 257 257 257 rfl rfl rfl rfl (by rw [HI.out.2.2.2.1]; omega) (by unfold maxLen; omega) (Nat.le_refl _) ?_; intro w4 ho4 hg4; have H4 := Lib.hid (And.intro (Keeps.below (B := w.heap.size) (Keeps.of_grown (X := fun _ => False) hg4 (fun k hk => by cases hk)) (Nat.le_refl _) (fun _ h => h.elim)) (own_there ho4)); clear ho4 hg4)
  obtain ⟨g, hg⟩ : ∃ g, g = w.heap.size := ⟨_, rfl⟩
  rw [← hg] at H4 ⊢
  have HG := Lib.hid hg
  clear hg HI
  have ho2 : BytesAt (w4.alloc (.cells #[.int .u8 2] 5)) (.slice (some ⟨w4.heap.size, 0, none⟩) 1 1) [2] := bytes_one 2 _ rfl rfl
  have hb2 := al (Below.refl w4.heap.size w4) (.cells #[.int .u8 2] 5)
  have HO := Lib.hid (And.intro ho2 hb2)
  clear ho2 hb2
  go_wp2_with fail
  have HC := Lib.hid (refof_any [2] _ _ HO.out.1 (by simp))
  have H5 := Lib.hid (And.intro (H4.out.1.trans (HO.out.2.mono (by rw [HG.out]; exact H4.out.1.size)) : Below g w (w4.alloc (.cells #[.int .u8 2] 5))) ((Keeps.of_below (X := fun _ => False) HO.out.2).there H4.out.2 (by decide) (fun h => h)))
  clear H4 HO
  generalize w4.alloc (.cells #[.int .u8 2] 5) = w5 at *
  rw [show sha [2] = em 0 by rw [em_zero, z0_eq]] at HC
  refine HC.out.mono ?_
  rintro e w6 ⟨rfl, hb6⟩
  have H6 := Lib.hid (And.intro (H5.out.1.trans (hb6.mono (by rw [HG.out]; exact H5.out.1.size))) ((Keeps.of_below (X := fun _ => False) hb6).there H5.out.2 (by decide) (fun h => h)))
  clear hb6 H5
  go_wp2_with (refine wpList_store_sum rfl _ _ rfl g (256 * 32) (em 0) rfl rfl (fun q hq => by have := H6.out.2 (256 * 32 + q) (by omega); rw [Nat.zero_add] at this; exact this) ?_)
  have hA : AW w (w6.setCells g (256 * 32) (cellsOf (em 0))) g 0 := by
    have ht := H6.out.2
    rw [show 257 * 32 = 32 * 257 from rfl] at ht
    have ht2 := World.there_setCells ht g (256 * 32) (cellsOf (em 0))
    refine ⟨setCells_below _ (by rw [HG.out]; exact Nat.le_refl _) _ _ _ _ (by rw [← HG.out]; exact H6.out.1), ht2, by rw [HG.out]; exact Nat.le_refl _, fun n hn => ?_⟩
    obtain rfl : n = 0 := by omega
    refine range_stored _ _ _ _ (fun q hq => ?_)
    rw [length_cellsOf] at hq
    have := ht2 (256 * 32 + q) (by omega)
    rw [Nat.zero_add] at this
    exact this
  have HA := Lib.hid hA
  clear hA H6
  generalize w6.setCells g (256 * 32) (cellsOf (em 0)) = W0 at *
  go_loopw [2] (fun iv W => ∃ j : Nat, j ≤ 256 ∧ iv = .int .i64 (255 - (j : Int)) ∧ AW w W g j) (fun iv _ => (intOf iv + 1).toNat)
  case atStart => exact ⟨0, by omega, rfl, HA.out⟩
  case round =>
    clear HA
    obtain ⟨j, hj, rfl, hA⟩ := hrel
    have HA := Lib.hid hA
    clear hA
    by_cases hlt : j < 256
    · obtain ⟨D, hD⟩ : ∃ D, D = 255 - j := ⟨_, rfl⟩
      have hd : (255 : Int) - (j : Int) = (D : Int) := by omega
      rw [hd]
      obtain ⟨E, hE⟩ : ∃ E, E = 256 - j := ⟨_, rfl⟩
      have c1 : decide ((0 : Int) ≤ (D : Int)) = true := by simp
      have c2 : (D : Int) < 257 := by omega
      have c3 : (0 : Int) ≤ (D : Int) := by omega
      have c4 : (E : Int) < 257 := by omega
      have c5 : (0 : Int) ≤ (E : Int) := by omega
      have hw1 : IntKind.i64.wrap ((D : Int) + 1) = (E : Int) := by rw [IntKind.wrap_i64]; omega
      have HD := Lib.hid (And.intro hD (And.intro hE hlt))
      clear hD hE hlt hj hd
      go_wp2_with fail
      refine wp_region_sched (fun W => W.rangeAt g (E * 32) (cellsOf (em j))) [.t 0, .t 1, .t 2, .t 3, .t 4, .t 5, .t 7, .t 8, .t 9, .t 10, .s 6, .e 11 true, .e 12 false, .t 13, .e 14 false] (by kernel_rfl) (by kernel_rfl) (by intro c a d v w h; cases d <;> exact h) ?_
      have HB := Lib.hid (HA.out.call (Below.refl _ _).drew)
      clear HA
      generalize World.drew _ = V at *
      have hrj := HB.out.at_ j (Nat.le_refl _)
      rw [← HD.out.2.1] at hrj
      have HR := Lib.hid hrj
      clear hrj
      iterate 10
        refine wpS_t rfl (v := ?_) (by rfl) (fun W => ?_) ?_
        rotate_left
        · go_simp
          try rfl
        try simp only [Act.put, List.setIfInBounds_toArray, List.set_cons_zero, List.set_cons_succ]
      refine wpS_load_sum (by exact HR.out) rfl (by rfl) _ (by rfl) g (E * 32) (by rfl) (em j) (fun V hV => hV) ?_
      try simp only [Act.put, List.setIfInBounds_toArray, List.set_cons_zero, List.set_cons_succ]
      refine wpS_k rfl (by rfl) (fun K hK => ?_)
      refine wp_load_sum _ (by rfl) g (E * 32) (by rfl) (em j) HR.out ?_
      refine hK _ _ ⟨by exact HR.out, ?_⟩; clear hK K
      try simp only [Act.put, List.setIfInBounds_toArray, List.set_cons_zero, List.set_cons_succ]
      refine wpS_e rfl (by rfl) (fun K hK => ?_)
      go_simp
      refine (rside_any (em j) (em j) V).mono ?_
      rintro e V1 ⟨rfl, hb1⟩
      rw [← em_succ]
      have HB2 := Lib.hid (HB.out.call hb1)
      clear HB hb1 HR
      refine hK _ _ ?_; clear hK K
      try simp only [Act.put, List.setIfInBounds_toArray, List.set_cons_zero, List.set_cons_succ]
      iterate 1
        refine wpS_t rfl (v := ?_) (by rfl) (fun W => ?_) ?_
        rotate_left
        · go_simp
          try rfl
        try simp only [Act.put, List.setIfInBounds_toArray, List.set_cons_zero, List.set_cons_succ]
      refine wpS_e rfl (by rfl) (fun K hK => ?_)
      refine wp_store_sum _ _ (by rfl) g (D * 32) (em (j + 1)) (by rfl) (by rfl) (fun q hq => by have := HB2.out.th (D * 32 + q) (by have := HD.out; omega); rw [Nat.zero_add] at this; exact this) ?_
      refine hK _ _ ?_; clear hK K
      try simp only [Act.put]
      refine wpS_done ?_
      have hA := HB2.out.set (o := D * 32) HD.out.2.2 (by rw [HD.out.1])
      have HA := Lib.hid hA
      clear hA HB2
      generalize V1.setCells g (D * 32) (cellsOf (em (j + 1))) = V2 at *
      go_wp2_with fail
      exact ⟨⟨j + 1, HD.out.2.2, congrArg _ (by have := HD.out; omega), HA.out⟩, by simp only [intOf]; have := HD.out; omega⟩
    · have hj6 : j = 256 := by omega
      subst hj6
      have c1 : decide ((0 : Int) ≤ 255 - ((256 : Nat) : Int)) = false := by decide
      clear hj hlt
      go_wp2_with fail
      try rw [Exit.noGoto_ret]
      exact bodyPost_ret (results_tmp rfl _ _ _) rfl ⟨.slice (some ⟨g, 0, none⟩) 257 257, rfl, HA.out.sums (by omega) (by decide), HA.out.bw⟩
end Go.Proofs.YtfmgoehnbaiamaaGreatDoor
