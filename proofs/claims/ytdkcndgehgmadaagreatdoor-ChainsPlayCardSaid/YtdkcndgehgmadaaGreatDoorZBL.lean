/-
  Joined: H1, H2, BM1.
-/
import Derived.Test.YtdkcndgehgmadaaGreatDoorZAN
import Derived.Test.YtdkcndgehgmadaaGreatDoorZBK
-- Walks: the document's trees over leaves: Cut, Node.
open Go Go.RowKit Alm
namespace Go.Proofs.YtdkcndgehgmadaaGreatDoor
theorem cut_nums {n k : Nat} (hn : n < 18446744073709551616) (hk : k < n) : IntKind.u64.wrap ((n : Int) - (k : Int)) = ((n - k : Nat) : Int) ∧ ((n : Int) - (k : Int)) % 18446744073709551616 = ((n - k : Nat) : Int) := by
  refine ⟨by rw [IntKind.wrap_u64]; omega, by omega⟩
theorem cut_nums2 {n k : Nat} (hn : n < 18446744073709551616) (hk : k < n - k) : IntKind.u64.wrap (2 * (k : Int)) = ((2 * k : Nat) : Int) ∧ (2 * (k : Int)) % 18446744073709551616 = ((2 * k : Nat) : Int) := by
  refine ⟨by rw [IntKind.wrap_u64]; omega, by omega⟩
set_option maxRecDepth 100000 in
theorem rcut_any (n : Nat) (w : World) (h2 : 2 ≤ n) (hn : n < 18446744073709551616) : Calls Tryz.prog 103 #[.int .u64 (n : Int)] w fun e w' => e = .returned (.int .u64 (cut n : Int)) ∧ w = w' := by
  have HN := Lib.hid (And.intro h2 hn)
  clear h2 hn
  go_enter Tryz.func103, Tryz.ntmps103
  go_wp2_with fail
  go_loopw [3] (fun v V => ∃ j : Nat, 2 ^ j < n ∧ v = .int .u64 ((2 ^ j : Nat) : Int) ∧ V = w) (fun v _ => n - (intOf v).toNat)
  case atStart => exact ⟨0, by have := HN.out.1; omega, rfl, rfl⟩
  case round =>
    obtain ⟨j, hj, rfl, rfl⟩ := hrel
    obtain ⟨k, hk⟩ : ∃ k, k = 2 ^ j := ⟨_, rfl⟩
    rw [← hk] at hj ⊢
    have HK := Lib.hid hk
    obtain ⟨e1, e2⟩ := cut_nums HN.out.2 hj
    obtain ⟨m, hm⟩ : ∃ m, m = n - k := ⟨_, rfl⟩
    rw [← hm] at e1 e2
    have HM := Lib.hid (And.intro hm hj)
    clear hk hj
    by_cases hlt : k < m
    · have c1 : decide (k < m) = true := by simpa using hlt
      have c2 : decide ((k : Int) < (m : Int)) = true := by simp; omega
      have c3 : (k : Int) < (m : Int) := by omega
      obtain ⟨f1, f2⟩ := cut_nums2 HN.out.2 (by rw [← hm]; exact hlt : k < n - k)
      have h5 : 2 ^ (j + 1) = 2 * k := by rw [Nat.pow_succ, ← HK.out, Nat.mul_comm]
      have h6 : 2 * k < n := by omega
      have H5 := Lib.hid (And.intro h5 h6)
      clear hm h5 h6
      go_wp2_with fail
      have h5 := H5.out.1
      have h6 := H5.out.2
      have hk1 : 0 < k := by rw [HK.out]; exact Nat.two_pow_pos j
      clear H5 HK HM HN e1 e2 c1 c2 c3
      try rw [f1]
      try rw [f2]
      refine ⟨⟨j + 1, by rw [h5]; exact h6, by rw [h5, Int.natCast_mul]; rfl, trivial⟩, ?_⟩
      clear f1 f2
      simp only [intOf, Int.toNat_natCast]
      rw [show (2 : Int) * (k : Int) = ((2 * k : Nat) : Int) by rw [Int.natCast_mul]; rfl, Int.toNat_natCast]
      omega
    · have c1 : decide (k < m) = false := by simpa using hlt
      have c2 : decide ((k : Int) < (m : Int)) = false := by simp; omega
      have c3 : ¬ (k : Int) < (m : Int) := by omega
      have hcut : cut n = k := by
        rw [HK.out]
        exact cut_eq (by rw [← HK.out]; exact HM.out.2) (by rw [Nat.pow_succ, ← HK.out]; omega)
      have HC := Lib.hid hcut
      clear hcut hm
      go_wp2_with fail
      refine bodyPost_ret (results_tmp rfl _ _ _) rfl ?_
      rw [HC.out]
      exact ⟨rfl, rfl⟩
theorem cells8_sum (s : Sum) : cells8 s.toList = cellsOf s := rfl
theorem length_sum (s : Sum) : s.toList.length = 32 := by simp
theorem wp_append_b8 {w : World} {o : Oper} {a : Act} {K : Act → World → Prop} {Q : Exit → Act → World → Prop} (s x : Operand)
    (ho : o.op = .call { callee := .builtin .append, args := #[s, x], argTypes := #[65, 65] })
    (base : Nat) (v : Value) (l ys : List UInt8) (n m : Nat) (_hn : l.length = n) (hm : ys.length = m) (hs : a.eval s = v) (hown : w.ownsRow base 5 1 v n (cells8 l))
    (b off c : Nat) (hx : a.eval x = .slice (some ⟨b, off, none⟩) m c) (hr : w.rangeAt b off (cells8 ys)) (h0 : 0 < m) (hl : n + m < 4000000000000) (hB : base ≤ w.heap.size)
    (h : ∀ g cap w', w'.ownsRow base 5 1 (.slice (some ⟨g, 0, none⟩) (n + m) cap) (n + m) (cells8 (l ++ ys)) → w.grownBy w' v.ownBlock → K (a.put o.dst (.slice (some ⟨g, 0, none⟩) (n + m) cap)) w') : o.wp Tryz.prog a w K Q := by
  obtain ⟨i, hi, hz⟩ := Option.map_eq_some_iff.1 infoByteZ
  simp only [Prod.mk.injEq] at hz
  refine wp_append_lies w s x _ ho base _ i (.int .u8 0) 1 1 Tryz.underlying65 hi hz.1 hz.2.1 hz.2.2 rfl (by omega) v n (cells8 l) hs hown ⟨b, off, none⟩ m c (cells8 ys) hx (by rw [length_cells8, hm]; omega) (fun j u hj => by rw [Addr.add_mid]; exact hr j u hj) (oneCell_cells8 ys) h0 (by unfold maxLen; omega) (by omega) hB w.heap.size rfl ?_
  intro g cap w' ho' hg _ _
  refine h g cap w' ?_ hg
  rw [cells8_append]; exact ho'
set_option maxRecDepth 100000 in
set_option maxHeartbeats 1000000 in
theorem rnode_any (l r : Sum) (w : World) : Calls Tryz.prog 104 #[sv l, sv r] w fun e w' => e = .returned (sv (nd l r)) ∧ Below w.heap.size w w' := by
  obtain ⟨s, hs⟩ : ∃ s, s = nd l r := ⟨_, rfl⟩
  rw [← hs]
  rw [nd_eq, node] at hs
  have HS := Lib.hid hs
  clear hs
  obtain ⟨w1, hw1⟩ : ∃ x, x = w.alloc (.cells (cellsOf l).toArray 24) := ⟨_, rfl⟩
  obtain ⟨w2, hw2⟩ : ∃ x, x = w1.alloc (.cells (cellsOf r).toArray 24) := ⟨_, rfl⟩
  obtain ⟨w3, hw3⟩ : ∃ x, x = w2.alloc (.cells (cellsOf zeroSum).toArray 24) := ⟨_, rfl⟩
  have r1 : w1.rangeAt w.heap.size 0 (cellsOf l) := by rw [hw1]; exact range_new w _ _ _ rfl
  have r2 : w2.rangeAt w1.heap.size 0 (cellsOf r) := by rw [hw2]; exact range_new w1 _ _ _ rfl
  have t3 : w3.there w2.heap.size 0 32 := by rw [hw3]; exact there_new w2 (cellsOf zeroSum).toArray _
  have b1 : Below w.heap.size w w1 := by rw [hw1]; exact al (Below.refl _ _) _
  have b2 : Below w1.heap.size w1 w2 := by rw [hw2]; exact al (Below.refl _ _) _
  have b3 : Below w2.heap.size w2 w3 := by rw [hw3]; exact al (Below.refl _ _) _
  have r13 := (Keeps.of_below (X := fun _ => False) b3).range ((Keeps.of_below (X := fun _ => False) b2).range r1 (fun h => h)) (fun h => h)
  have r23 := (Keeps.of_below (X := fun _ => False) b3).range r2 (fun h => h)
  have b13 := (b1.trans (b2.mono b1.size)).trans (b3.mono (Nat.le_trans b1.size b2.size))
  have s1 : w1.heap.size = w.heap.size + 1 := by rw [hw1, World.size_alloc]
  have s2 : w2.heap.size = w.heap.size + 2 := by rw [hw2, World.size_alloc, s1]
  have H0 := Lib.hid (And.intro r13 (And.intro r23 (And.intro t3 (And.intro b13 (And.intro s1 s2)))))
  have HW := Lib.hid (And.intro hw1 (And.intro hw2 hw3))
  clear r1 r2 t3 b1 b2 b3 r13 r23 b13 s1 s2 hw1 hw2 hw3
  go_enter Tryz.func104, Tryz.ntmps104
  refine wp_cut 1 ?_
  intro T hT
  dsimp only [cutN]
  replace hT := Lib.hid hT
  go_wp2_with fail
  refine hT.out _ _ ?_
  clear hT
  dsimp only [dropN]
  rw [← HW.out.1]
  rw [← HW.out.2.1]
  change Code.wp _ _ _ _ (w2.alloc (.cells (cellsOf zeroSum).toArray 24))
  rw [← HW.out.2.2]
  have hs3 : w3.heap.size = w.heap.size + 3 := by rw [HW.out.2.2, World.size_alloc, H0.out.2.2.2.2.2]
  have HS3 := Lib.hid hs3
  clear hs3 HW
  obtain ⟨r1, r2, t3, b13, s1, s2⟩ := H0.out
  rw [s1] at r2
  rw [s2] at t3
  rw [show w.heap.size + 1 + 1 = w.heap.size + 2 from rfl]
  have hd := (Below.refl w3.heap.size w3).drew
  have HV := Lib.hid (And.intro ((Keeps.of_below (X := fun _ => False) hd).range r1 (fun h => h)) (And.intro ((Keeps.of_below (X := fun _ => False) hd).range r2 (fun h => h)) (And.intro ((Keeps.of_below (X := fun _ => False) hd).there t3 (by decide) (fun h => h)) (And.intro b13.drew (show w3.drew.heap.size = w.heap.size + 3 from HS3.out)))))
  clear r1 r2 t3 b13 s1 s2 hd H0 HS3
  go_wp2_with fail
  refine wp_region_sched (fun V => Below w3.drew.heap.size w3.drew V) [.t 1, .t 3, .e 0 false, .e 2 false, .e 4 false, .e 5 false, .e 6 false] (by kernel_rfl) (by kernel_rfl) (by intro c a d v w h; cases d <;> exact h) ?_
  generalize w3.drew = V at *
  iterate 2
    refine wpS_t rfl (v := ?_) (by rfl) (fun W => ?_) ?_
    rotate_left
    · go_simp
      try rfl
    try simp only [Act.put, List.setIfInBounds_toArray, List.set_cons_zero, List.set_cons_succ]
  refine wpS_e rfl (by rfl) (fun K hK => ?_)
  go_simp
  have ho := own_one (w := V) 1 #[.int .u8 1] rfl
  have hba := al (Below.refl V.heap.size V) (.cells #[.int .u8 1] 5)
  have HO := Lib.hid (And.intro ho hba)
  clear ho hba
  refine hK _ _ ?_; clear hK K
  try simp only [Act.put, List.setIfInBounds_toArray, List.set_cons_zero, List.set_cons_succ]
  generalize V.alloc (.cells #[.int .u8 1] 5) = V1 at *
  refine wpS_e rfl (by rfl) (fun K hK => ?_)
  have hr1 := (Keeps.of_below (X := fun _ => False) HO.out.2).range HV.out.1 (fun h => h)
  refine wp_append_b8 _ _ rfl V.heap.size _ [1] l.toList 1 32 rfl (length_sum l) (by rfl) HO.out.1 w.heap.size 0 32 (by rfl) hr1 (by omega) (by omega) HO.out.2.size ?_
  intro g2 c2 V2 ho2 hg2
  have hb2 := own_grown HO.out.2 HO.out.1 hg2 HO.out.2.size
  have H2 := Lib.hid (And.intro ho2 hb2)
  clear ho2 hb2 hg2 hr1
  refine hK _ _ ?_; clear hK K
  try simp only [Act.put, List.setIfInBounds_toArray, List.set_cons_zero, List.set_cons_succ]
  refine wpS_e rfl (by rfl) (fun K hK => ?_)
  have hr2 := (Keeps.of_below (X := fun _ => False) H2.out.2).range HV.out.2.1 (fun h => h)
  refine wp_append_b8 _ _ rfl V.heap.size _ ([1] ++ l.toList) r.toList 33 32 (by simp) (length_sum r) (by rfl) H2.out.1 (w.heap.size + 1) 0 32 (by rfl) hr2 (by omega) (by omega) H2.out.2.size ?_
  intro g3 c3 V3 ho3 hg3
  have hb3 := own_grown H2.out.2 H2.out.1 hg3 H2.out.2.size
  have hby : BytesAt V3 (.slice (some ⟨g3, 0, none⟩) (33 + 32) c3) ([1] ++ l.toList ++ r.toList) := by
    have hlen : ([1] ++ l.toList ++ r.toList : List UInt8).length = 33 + 32 := by simp
    have := bytes_own (l := [1] ++ l.toList ++ r.toList) (by rw [hlen]; exact ho3) (by rw [hlen]; omega)
    exact this
  have HC := Lib.hid (refof_any _ _ V3 hby (by simp))
  have H3 := Lib.hid hb3
  clear ho3 hb3 hg3 hby hr2
  refine hK _ _ ?_; clear hK K
  try simp only [Act.put, List.setIfInBounds_toArray, List.set_cons_zero, List.set_cons_succ]
  refine wpS_e rfl (by rfl) (fun K hK => ?_)
  go_simp
  refine HC.out.mono ?_
  rintro e V4 ⟨rfl, hb4⟩
  have hb4' := H3.out.trans (hb4.mono H3.out.size)
  have H4 := Lib.hid (And.intro ((Keeps.of_below (X := fun _ => False) hb4').there HV.out.2.2.1 (by decide) (fun h => h)) (HV.out.2.2.2.1.trans (hb4'.mono HV.out.2.2.2.1.size)))
  rw [show ([1] ++ l.toList ++ r.toList : List UInt8) = 1 :: (l.toList ++ r.toList) from rfl, ← HS.out]
  clear hb4 hb4' HC H3
  refine hK _ _ ?_; clear hK K
  try simp only [Act.put, List.setIfInBounds_toArray, List.set_cons_zero, List.set_cons_succ]
  refine wpS_e rfl (by rfl) (fun K hK => ?_)
  refine wp_store_sum _ _ rfl (w.heap.size + 2) 0 s (by rfl) (by rfl) H4.out.1 ?_
  refine hK _ _ ?_; clear hK K
  try simp only [Act.put]
  refine wpS_done ?_
  go_wp2_with fail
  exact bodyPost_ret (results_sum Tryz.results104 _ _ _ _ rfl (World.there_setCells H4.out.1 _ _ _)) rfl ⟨rfl, setCells_below _ (by omega) _ _ _ _ H4.out.2⟩
end Go.Proofs.YtdkcndgehgmadaaGreatDoor
-- Walks: the document's trees over leaves: Root.
open Go Go.RowKit Alm
namespace Go.Proofs.YtdkcndgehgmadaaGreatDoor
theorem sums_form8 {w : World} {v : Value} {l : List Sum} (h : SumsAt w v l) (h0 : l ≠ []) : ∃ b o cap, v = .slice (some ⟨b, o, none⟩) l.length cap ∧ l.length ≤ cap ∧ cap ≤ maxLen ∧ w.rangeAt b o (cellsAll l) := by
  obtain ⟨a, cap, rfl, h1, h2, h3⟩ := h
  obtain ⟨b, o, rfl, hr⟩ := h3.resolve_left h0
  exact ⟨b, o, cap, rfl, h1, h2, hr⟩
theorem root_nums {n k cap : Nat} (h2 : 2 ≤ n) (hk : k < n) (hk0 : 0 < k) (hc : n ≤ cap) (hm : cap ≤ maxLen) : ¬ (n : Int) = 0 ∧ ¬ (n : Int) = 1 ∧ decide ((n : Int) = 0) = false ∧ decide ((n : Int) = 1) = false ∧ (n : Int) % 18446744073709551616 = (n : Int) ∧ IntKind.u64.wrap (n : Int) = (n : Int) ∧ n < 18446744073709551616 ∧ (0 : Int) ≤ (k : Int) ∧ (k : Int) ≤ (cap : Int) ∧ (k : Int) ≤ (n : Int) ∧ ¬ cap = k ∧ ((n : Int) == 0) = false ∧ ((n : Int) == 1) = false := by
  unfold maxLen at hm
  refine ⟨by omega, by omega, by simp; omega, by simp; omega, by omega, by rw [IntKind.wrap_u64]; omega, by omega, by omega, by omega, by omega, by omega, by simp; omega, by simp; omega⟩
set_option maxRecDepth 100000 in
set_option maxHeartbeats 1000000 in
theorem rroot_go : ∀ (d : Nat) (l : List Sum) (v : Value) (w : World), l.length ≤ d → SumsAt w v l → Calls Tryz.prog 21 #[v] w fun e w' => e = .returned (sv (rt l)) ∧ Below w.heap.size w w' := by
  intro d
  induction d with
  | zero =>
    intro l v w hl hv
    have h0 : l = [] := List.eq_nil_of_length_eq_zero (by omega)
    subst h0
    obtain ⟨va, vc, rfl, _, _, _⟩ := hv
    have hth : (w.alloc (.cells (cellsOf zeroSum).toArray 24)).there w.heap.size 0 32 := there_new w (cellsOf zeroSum).toArray 24
    have hb0 := al (Below.refl w.heap.size w) (.cells (cellsOf zeroSum).toArray 24)
    have hc := refof_any [] (.slice none 0 0) (w.alloc (.cells (cellsOf zeroSum).toArray 24)) ⟨none, 0, rfl, Nat.le_refl _, by unfold maxLen; omega, .inl rfl⟩ (by simp)
    rw [← e0_eq] at hc
    have hr : rt [] = e0 := by rw [rt_eq, root_nil]
    rw [hr]
    have H0 := Lib.hid (And.intro hth (And.intro hb0 hc))
    clear hth hb0 hc hr hl
    go_enter Tryz.func21, Tryz.ntmps21
    refine wp_cut 1 ?_
    intro T hT
    dsimp only [cutN]
    replace hT := Lib.hid hT
    go_wp2_with fail
    refine hT.out _ _ ?_
    clear hT
    dsimp only [dropN]
    change Code.wp _ _ _ _ (w.alloc (.cells (cellsOf zeroSum).toArray 24))
    generalize w.alloc (.cells (cellsOf zeroSum).toArray 24) = w0 at *
    go_wp2_with (first
      | (go_at_call 102; refine H0.out.2.2.mono ?_; rintro e w2 ⟨rfl, hb2⟩; have H2 := Lib.hid (And.intro ((Keeps.of_below (X := fun _ => False) hb2).there H0.out.1 (by decide) (fun h => h)) (H0.out.2.1.trans (hb2.mono H0.out.2.1.size))); clear hb2)
      | (refine wpList_store_sum rfl _ _ rfl w.heap.size 0 e0 rfl rfl H2.out.1 ?_))
    exact bodyPost_ret (results_sum Tryz.results21 _ _ _ _ rfl (World.there_setCells H2.out.1 _ _ _)) rfl ⟨rfl, setCells_below _ (Nat.le_refl _) _ _ _ _ H2.out.2⟩
  | succ d ih =>
    intro l v w hl hv
    by_cases h0 : l = []
    · exact ih l v w (by rw [h0]; simp) hv
    by_cases h1 : l.length = 1
    · obtain ⟨b, o, cap, rfl, hc1, hc2, hr⟩ := sums_form8 hv h0
      have hth : (w.alloc (.cells (cellsOf zeroSum).toArray 24)).there w.heap.size 0 32 := there_new w (cellsOf zeroSum).toArray 24
      have hb0 := al (Below.refl w.heap.size w) (.cells (cellsOf zeroSum).toArray 24)
      have hx : rt l = l[0] := by rw [rt_eq]; exact root_len1 nd e0 h1 (by simp)
      have hr0 := range_at hr (i := 0) (by omega)
      rw [Nat.zero_mul, Nat.add_zero] at hr0
      have hr1 := (Keeps.of_below (X := fun _ => False) hb0).range hr0 (fun h => h)
      rw [hx]
      generalize l[0] = s at *
      rw [h1]
      have H0 := Lib.hid (And.intro hth (And.intro hb0 hr1))
      clear hth hb0 hr0 hr1 hx hl hv hr
      go_enter Tryz.func21, Tryz.ntmps21
      refine wp_cut 1 ?_
      intro T hT
      dsimp only [cutN]
      replace hT := Lib.hid hT
      go_wp2_with fail
      refine hT.out _ _ ?_
      clear hT
      dsimp only [dropN]
      change Code.wp _ _ _ _ (w.alloc (.cells (cellsOf zeroSum).toArray 24))
      generalize w.alloc (.cells (cellsOf zeroSum).toArray 24) = w0 at *
      go_wp2_with (first
        | (refine wpList_load_sum rfl _ rfl b o rfl s H0.out.2.2 ?_)
        | (refine wpList_store_sum rfl _ _ rfl w.heap.size 0 s rfl rfl H0.out.1 ?_))
      exact bodyPost_ret (results_sum Tryz.results21 _ _ _ _ rfl (World.there_setCells H0.out.1 _ _ _)) rfl ⟨rfl, setCells_below _ (Nat.le_refl _) _ _ _ _ H0.out.2.1⟩
    · have hl2 : 2 ≤ l.length := by have := List.length_pos_iff.2 h0; omega
      obtain ⟨b, o, cap, rfl, hc1, hc2, hr⟩ := sums_form8 hv h0
      obtain ⟨s, hs⟩ : ∃ s, s = rt l := ⟨_, rfl⟩
      have hsp : s = nd (rt (l.take (cut l.length))) (rt (l.drop (cut l.length))) := by rw [hs, rt_eq, root_split nd e0 hl2]
      rw [← hs]
      obtain ⟨n, hn⟩ : ∃ n, n = l.length := ⟨_, rfl⟩
      rw [← hn] at hl2 hc1 hsp hl h1 ⊢
      obtain ⟨k, hkk⟩ : ∃ k, k = cut n := ⟨_, rfl⟩
      have hk : k < n := by rw [hkk]; exact cut_lt hl2
      have hk0 : 0 < k := by rw [hkk]; exact cut_pos n
      rw [← hkk] at hsp
      obtain ⟨n1, n2, n3, n4, n5, n6, n7, n8, n9, n10, n11, n12, n13⟩ := root_nums hl2 hk hk0 hc1 hc2
      have hcut := fun W => rcut_any n W hl2 n7
      rw [← hkk] at hcut
      have hth : (w.alloc (.cells (cellsOf zeroSum).toArray 24)).there w.heap.size 0 32 := there_new w (cellsOf zeroSum).toArray 24
      have hb0 := al (Below.refl w.heap.size w) (.cells (cellsOf zeroSum).toArray 24)
      have hr0 := (Keeps.of_below (X := fun _ => False) hb0).range hr (fun h => h)
      have H0 := Lib.hid (And.intro hth (And.intro hb0 (And.intro hr0 (And.intro hc1 (And.intro hc2 (And.intro hn (And.intro hk (And.intro hk0 (And.intro hl hsp)))))))))
      have HC := Lib.hid hcut
      have HI := Lib.hid ih
      clear hth hb0 hr0 hcut ih hs hsp hr hv hc1 hc2 hn hk hk0 hl hl2 h0 h1 hkk n7
      go_enter Tryz.func21, Tryz.ntmps21
      refine wp_cut 1 ?_
      intro T hT
      dsimp only [cutN]
      replace hT := Lib.hid hT
      go_wp2_with fail
      refine hT.out _ _ ?_
      clear hT
      dsimp only [dropN]
      change Code.wp _ _ _ _ (w.alloc (.cells (cellsOf zeroSum).toArray 24))
      generalize w.alloc (.cells (cellsOf zeroSum).toArray 24) = w0 at *
      go_wp2_with (go_at_call 103; refine Hid.out ?_)
      refine Lib.hid ?_
      first | rw [n6] | rw [n5] | skip
      refine (HC.out _).mono ?_
      rintro e w2 ⟨rfl, rfl⟩
      go_wp2_with fail
      have hd := (Below.refl w0.heap.size w0).drew
      have HV := Lib.hid (And.intro ((Keeps.of_below (X := fun _ => False) hd).there H0.out.1 (by decide) (fun h => h)) (And.intro H0.out.2.1.drew ((Keeps.of_below (X := fun _ => False) hd).range H0.out.2.2.1 (fun h => h))))
      have HM := Lib.hid H0.out.2.2.2
      clear hd H0 HC n1 n2 n3 n4 n5 n6 n12 n13
      refine wp_region_sched (fun V => Below w0.drew.heap.size w0.drew V) [.t 0, .t 1, .t 2, .t 4, .t 5, .t 6, .e 3 false, .e 7 false, .e 8 false, .e 9 false] (by kernel_rfl) (by kernel_rfl) (by intro c a d v w h; cases d <;> exact h) ?_
      generalize w0.drew = V at *
      iterate 6
        refine wpS_t rfl (v := ?_) (by rfl) (fun W => ?_) ?_
        rotate_left
        · go_simp
          try rfl
        try simp only [Act.put, List.setIfInBounds_toArray, List.set_cons_zero, List.set_cons_succ]
      have hs1 : SumsAt V (.slice (some ⟨b, o, none⟩) k cap) (l.take k) := sums_take HV.out.2.2 (by have := HM.out; omega) (by have := HM.out; omega) HM.out.2.1
      have hs2 : SumsAt V (.slice (some ⟨b, o + k * 32, none⟩) (n - k) (cap - k)) (l.drop k) := by
        have := sums_drop (cap := cap - k) HV.out.2.2 (k := k) (by have := HM.out; omega) (by have := HM.out; omega) (by have := HM.out.2.1; omega)
        rwa [← HM.out.2.2.1] at this
      have HS := Lib.hid (And.intro hs1 hs2)
      clear hs1 hs2
      refine wpS_e rfl (by rfl) (fun K hK => ?_)
      go_simp
      refine (HI.out (l.take k) _ V (by rw [List.length_take]; have := HM.out; omega) HS.out.1).mono ?_
      rintro e V1 ⟨rfl, hb1⟩
      have H1 := Lib.hid hb1
      clear hb1
      refine hK _ _ ?_; clear hK K
      try simp only [Act.put, List.setIfInBounds_toArray, List.set_cons_zero, List.set_cons_succ]
      refine wpS_e rfl (by rfl) (fun K hK => ?_)
      go_simp
      refine (HI.out (l.drop k) _ V1 (by rw [List.length_drop]; have := HM.out; omega) (HS.out.2.below H1.out (Nat.le_refl _))).mono ?_
      rintro e V2 ⟨rfl, hb2⟩
      have H2 := Lib.hid (H1.out.trans (hb2.mono H1.out.size))
      clear hb2
      refine hK _ _ ?_; clear hK K
      try simp only [Act.put, List.setIfInBounds_toArray, List.set_cons_zero, List.set_cons_succ]
      refine wpS_e rfl (by rfl) (fun K hK => ?_)
      go_simp
      refine (rnode_any (rt (l.take k)) (rt (l.drop k)) V2).mono ?_
      rintro e V3 ⟨rfl, hb3⟩
      have hb3' := H2.out.trans (hb3.mono H2.out.size)
      have H3 := Lib.hid (And.intro ((Keeps.of_below (X := fun _ => False) hb3').there HV.out.1 (by decide) (fun h => h)) (HV.out.2.1.trans (hb3'.mono HV.out.2.1.size)))
      rw [← HM.out.2.2.2.2.2.2]
      clear hb3 hb3'
      refine hK _ _ ?_; clear hK K
      try simp only [Act.put, List.setIfInBounds_toArray, List.set_cons_zero, List.set_cons_succ]
      refine wpS_e rfl (by rfl) (fun K hK => ?_)
      refine wp_store_sum _ _ rfl w.heap.size 0 s (by rfl) (by rfl) H3.out.1 ?_
      refine hK _ _ ?_; clear hK K
      try simp only [Act.put]
      refine wpS_done ?_
      go_wp2_with fail
      exact bodyPost_ret (results_sum Tryz.results21 _ _ _ _ rfl (World.there_setCells H3.out.1 _ _ _)) rfl ⟨rfl, setCells_below _ (Nat.le_refl _) _ _ _ _ H3.out.2⟩
theorem rroot_any (l : List Sum) (v : Value) (w : World) (hv : SumsAt w v l) : Calls Tryz.prog 21 #[v] w fun e w' => e = .returned (sv (rt l)) ∧ Below w.heap.size w w' := rroot_go l.length l v w (Nat.le_refl _) hv
end Go.Proofs.YtdkcndgehgmadaaGreatDoor
-- Plain: what the document says of whole trees is what a front holds.
namespace Alm
section
variable {α : Type} (nd : α → α → α) (e0 : α)
theorem stk_up : ∀ (d a : Nat) (l : List α), l.length < 2 ^ a → stk nd e0 (a + d) l = stk nd e0 a l
  | 0, _, _, _ => rfl
  | d + 1, a, l, h => by
    have h2 : 2 ^ a ≤ 2 ^ (a + d) := Nat.pow_le_pow_right (by omega) (by omega)
    rw [← Nat.add_assoc, stk, if_neg (by omega), stk_up d a l h]
/-- The greatest whole tree first. -/
theorem stk_big {j : Nat} {l : List α} (h1 : 2 ^ j ≤ l.length) (h2 : l.length < 2 ^ (j + 1)) (hj : j < 64) : stk nd e0 64 l = root nd e0 (l.take (2 ^ j)) :: stk nd e0 64 (l.drop (2 ^ j)) := by
  obtain ⟨d, hd⟩ : ∃ d, 64 = (j + 1) + d := ⟨63 - j, by omega⟩
  have hdl : (l.drop (2 ^ j)).length < 2 ^ j := by rw [List.length_drop, Nat.pow_succ] at *; omega
  conv => lhs; rw [hd, stk_up nd e0 d (j + 1) l h2, stk, if_pos h1]
  congr 1
  rw [show 64 = j + (d + 1) by omega, stk_up nd e0 (d + 1) j _ hdl]
end
end Alm
