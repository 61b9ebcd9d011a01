/-
  Joined: CR3, CR4, CB9.
-/
import Derived.Test.YtdkcndgehgmadaaGreatDoorZBR
import Derived.Test.YtdkcndgehgmadaaGreatDoorZAQ
-- Walk: the document's mark of entries (almonerref12.Mark).
open Go Go.RowKit Alm
namespace Go.Proofs.YtdkcndgehgmadaaGreatDoor
/-- What stands in the mark's loop. -/
structure MarkI (w W : World) (M : Nat) (s : Sum) : Prop where
  r : W.rangeAt M 0 (cellsOf s)
  t : W.there M 0 32
  t0 : W.there w.heap.size 0 32
  b : Below w.heap.size w W
  m : M = w.heap.size + 1
theorem MarkI.mem {w W W' : World} {M : Nat} {s : Sum} (h : MarkI w W M s) (hb : Below W.heap.size W W') : MarkI w W' M s :=
  have k := Keeps.of_below (X := fun _ => False) hb
  ⟨k.range h.r (fun h => h), k.there h.t (by decide) (fun h => h), k.there h.t0 (by decide) (fun h => h), h.b.trans (hb.mono h.b.size), h.m⟩
theorem MarkI.store {w W : World} {M : Nat} {s : Sum} (h : MarkI w W M s) (x : Sum) : MarkI w (W.setCells M 0 (cellsOf x)) M x :=
  ⟨range_stored _ _ _ _ (World.there_setCells (by rw [length_cellsOf]; exact h.t) _ _ _), World.there_setCells h.t _ _ _, World.there_setCells h.t0 _ _ _, setCells_below _ (by rw [h.m]; omega) _ _ _ _ h.b, h.m⟩
set_option maxRecDepth 100000 in
set_option maxHeartbeats 1000000 in
theorem rmark_any (l : List (List UInt8)) (v : Value) (w : World) (hv : ListsAt w v l) (hn : l.length < 1000000) (hs : ∀ x ∈ l, x.length < 900000) : Calls Tryz.prog 43 #[v] w fun e w' => e = .returned (sv (mk l)) ∧ Below w.heap.size w w' := by
  have HV := Lib.hid hv
  obtain ⟨aa, ca, rfl, a1, a2, a3⟩ := hv
  clear a3
  obtain ⟨n, hna⟩ : ∃ n, n = l.length := ⟨_, rfl⟩
  rw [← hna] at HV a1 hn ⊢
  have HN := Lib.hid (And.intro hna (And.intro hn hs))
  clear hna hs
  unfold maxLen at a2
  obtain ⟨w1, hw1⟩ : ∃ x, x = w.alloc (.cells (cellsOf zeroSum).toArray 24) := ⟨_, rfl⟩
  obtain ⟨w2, hw2⟩ : ∃ x, x = w1.alloc (.cells (cellsOf zeroSum).toArray 24) := ⟨_, rfl⟩
  have t1 : w1.there w.heap.size 0 32 := by rw [hw1]; exact there_new w (cellsOf zeroSum).toArray _
  have b1 : Below w.heap.size w w1 := by rw [hw1]; exact al (Below.refl _ _) _
  have t2 : w2.there w1.heap.size 0 32 := by rw [hw2]; exact there_new w1 (cellsOf zeroSum).toArray _
  have r2 : w2.rangeAt w1.heap.size 0 (cellsOf zeroSum) := by rw [hw2]; exact range_new w1 _ _ _ rfl
  have b2 : Below w1.heap.size w1 w2 := by rw [hw2]; exact al (Below.refl _ _) _
  have s1 : w1.heap.size = w.heap.size + 1 := by rw [hw1, World.size_alloc]
  have hI : MarkI w w2 w1.heap.size (mk (l.take 0)) := by
    rw [List.take_zero, mk_nil]
    exact ⟨r2, t2, (Keeps.of_below (X := fun _ => False) b2).there t1 (by decide) (fun h => h), b1.trans (b2.mono b1.size), s1⟩
  have H0 := Lib.hid (And.intro hI (And.intro hw1 (And.intro hw2 s1)))
  clear t1 b1 t2 r2 b2 hI hw1 hw2 s1
  go_enter Tryz.func43, Tryz.ntmps43
  refine wp_cut 2 ?_
  intro T hT
  dsimp only [cutN]
  replace hT := Lib.hid hT
  go_wp2_with fail
  refine hT.out _ _ ?_
  clear hT
  dsimp only [dropN]
  change Code.wp _ _ _ _ ((w.alloc (.cells (cellsOf zeroSum).toArray 24)).alloc (.cells (cellsOf zeroSum).toArray 24))
  rw [← H0.out.2.1, ← H0.out.2.2.1]
  obtain ⟨M, hM⟩ : ∃ M, M = w.heap.size + 1 := ⟨_, rfl⟩
  have hMI := H0.out.1
  rw [H0.out.2.2.2, ← hM] at hMI
  rw [← hM]
  clear H0 hM
  have HI := Lib.hid hMI
  clear hMI
  go_wp2_with fail
  go_loopw [4] (fun i W => ∃ j : Nat, j ≤ n ∧ i = .int .i64 (j : Int) ∧ MarkI w W M (mk (l.take j))) (fun i _ => n - (intOf i).toNat)
  case atStart => exact ⟨0, by omega, rfl, HI.out⟩
  case round =>
    obtain ⟨j, hj, rfl, hI⟩ := hrel
    have HJ := Lib.hid hI; clear hI HI
    by_cases hlt : j < n
    · have hlt' : (j : Int) < (n : Int) := by omega
      have h0 : l ≠ [] := by intro h; have := HN.out.1; rw [h] at this; simp at this; omega
      have HW := Lib.hid (HV.out.below HJ.out.b)
      obtain ⟨b1', o1', c1', he1, _, _⟩ := HV.out.form h0
      simp only [Value.slice.injEq] at he1
      obtain ⟨rfl, h9, rfl⟩ := he1
      clear h9
      obtain ⟨u1, hc1, hu1⟩ := HW.out.cell (sp := none) (j := j) (by have := HN.out.1; omega)
      have hjl : j < l.length := by have := HN.out.1; omega
      have hstep : mk (l.take (j + 1)) = sh ((mk (l.take j)).toList ++ (lf l[j]).toList) := by rw [List.take_succ_eq_append_getElem hjl, mk_snoc]
      rw [sh_eq] at hstep
      have HST := Lib.hid hstep
      have HU := Lib.hid (And.intro hu1 (HN.out.2.2 _ (List.getElem_mem hjl)))
      clear hu1 hstep h0
      generalize l[j] = x at *
      clear hjl
      generalize mk (l.take j) = m at *
      obtain ⟨y, hy⟩ : ∃ y, y = lf x := ⟨_, rfl⟩
      have HL := Lib.hid (rleaf_any x u1 wr HU.out.1 HU.out.2)
      rw [← hy] at HST HL
      clear hy
      have hj0 : (0 : Int) ≤ (j : Int) := by omega
      go_wp2_with (go_at_call 128; refine HL.out.mono ?_; rintro e w2 ⟨rfl, hb2⟩; refine Hid.out ?_)
      refine Lib.hid ?_
      have HJ2 := Lib.hid (HJ.out.mem hb2)
      clear hb2 hc1 HL HJ
      go_wp2_with (refine wpList_var_sum (by rfl) rfl _ _ rfl y rfl rfl ?_; intro W3 hb3 hr3 _ hlt3; refine Hid.out ?_)
      refine Lib.hid ?_
      have HJ3 := Lib.hid (HJ2.out.mem hb3)
      have HR3 := Lib.hid (And.intro hr3 hlt3)
      obtain ⟨X, hX⟩ : ∃ X, X = w2.heap.size := ⟨_, rfl⟩
      rw [← hX] at HR3 ⊢
      clear hX hb3 hr3 hlt3 HJ2
      go_wp2_with fail
      refine wp_region_sched (fun _ => True) [.t 0, .t 2, .e 1 false, .e 3 false, .e 4 false, .e 5 false] (by kernel_rfl) (by kernel_rfl) (by intro c a d v w h; cases d <;> exact h) ?_
      have hd := (Below.refl W3.heap.size W3).drew
      have HJ4 := Lib.hid (HJ3.out.mem hd)
      have HR4 := Lib.hid ((Keeps.of_below (X := fun _ => False) hd).range HR3.out.1 (fun h => h))
      clear hd HJ3 HR3
      generalize W3.drew = V at *
      iterate 2
        refine wpS_t rfl (v := ?_) (by rfl) (fun W => ?_) ?_
        rotate_left
        · go_simp
          try rfl
        try simp only [Act.put, List.setIfInBounds_toArray, List.set_cons_zero, List.set_cons_succ]
      refine wpS_e rfl (by rfl) (fun K hK => ?_)
      refine wp_append_b8 _ _ rfl V.heap.size (.slice none 0 0) [] m.toList 0 32 rfl (length_sum m) (by rfl) (World.ownsRow_nil _ _ _ _) M 0 32 (by rfl) HJ4.out.r (by omega) (by omega) (Nat.le_refl _) ?_
      intro g2 c2 V2 ho2 hg2
      have hb2 := own_grown (Below.refl V.heap.size V) (World.ownsRow_nil V V.heap.size 5 1) hg2 (Nat.le_refl _)
      have H5 := Lib.hid (And.intro ho2 (And.intro hb2 (HJ4.out.mem hb2)))
      have HR5 := Lib.hid ((Keeps.of_below (X := fun _ => False) hb2).range HR4.out (fun h => h))
      clear ho2 hg2 hb2 HR4
      refine hK _ _ ?_; clear hK K
      try simp only [Act.put, List.setIfInBounds_toArray, List.set_cons_zero, List.set_cons_succ]
      refine wpS_e rfl (by rfl) (fun K hK => ?_)
      refine wp_append_b8 _ _ rfl V.heap.size _ ([] ++ m.toList) y.toList (0 + 32) 32 (by simp) (length_sum y) (by rfl) H5.out.1 X 0 32 (by rfl) HR5.out (by omega) (by omega) H5.out.2.1.size ?_
      intro g3 c3 V3 ho3 hg3
      have hb3 := own_grown H5.out.2.1 H5.out.1 hg3 H5.out.2.1.size
      have hby : BytesAt V3 (.slice (some ⟨g3, 0, none⟩) (0 + 32 + 32) c3) (m.toList ++ y.toList) := by
        have hlen : (m.toList ++ y.toList : List UInt8).length = 0 + 32 + 32 := by simp
        have := bytes_own (l := m.toList ++ y.toList) (by rw [hlen]; exact ho3) (by rw [hlen]; omega)
        exact this
      have HC := Lib.hid (refof_any _ _ V3 hby (by simp))
      rw [← HST.out] at HC
      have HJ6 := Lib.hid (HJ4.out.mem hb3)
      clear ho3 hb3 hg3 hby
      refine hK _ _ ?_; clear hK K
      try simp only [Act.put, List.setIfInBounds_toArray, List.set_cons_zero, List.set_cons_succ]
      obtain ⟨m2, hm2⟩ : ∃ m2, m2 = mk (l.take (j + 1)) := ⟨_, rfl⟩
      rw [← hm2] at HC
      have HM2 := Lib.hid hm2
      clear hm2
      refine wpS_e rfl (by rfl) (fun K hK => ?_)
      go_simp
      refine HC.out.mono ?_
      rintro e V4 ⟨rfl, hb4⟩
      have HJ7 := Lib.hid (HJ6.out.mem hb4)
      clear hb4 HC HJ6
      refine hK _ _ ?_; clear hK K
      try simp only [Act.put, List.setIfInBounds_toArray, List.set_cons_zero, List.set_cons_succ]
      refine wpS_e rfl (by rfl) (fun K hK => ?_)
      refine wp_store_sum _ _ (by rfl) M 0 m2 (by rfl) (by rfl) HJ7.out.t ?_
      refine hK _ _ ?_; clear hK K
      try simp only [Act.put]
      refine wpS_done ?_
      have HJ8 := Lib.hid (HJ7.out.store m2)
      generalize V4.setCells M 0 (cellsOf m2) = V5 at *
      clear HJ7
      go_wp2_with fail
      exact ⟨⟨j + 1, by omega, by simp, by rw [← HM2.out]; exact HJ8.out⟩, by simp [intOf]; omega⟩
    · have hjn : j = n := by omega
      subst hjn
      have htk : l.take j = l := List.take_of_length_le (by rw [HN.out.1]; exact Nat.le_refl _)
      rw [htk] at HJ
      clear htk
      obtain ⟨m, hm⟩ : ∃ m, m = mk l := ⟨_, rfl⟩
      rw [← hm] at HJ
      have HM2 := Lib.hid hm
      clear hm
      go_wp2_with (first
        | (refine wpList_load_sum rfl _ rfl M 0 rfl m HJ.out.r ?_)
        | (refine wpList_store_sum rfl _ _ rfl w.heap.size 0 m rfl rfl HJ.out.t0 ?_))
      exact bodyPost_ret (results_sum Tryz.results43 _ _ _ _ rfl (World.there_setCells HJ.out.t0 _ _ _)) rfl ⟨by rw [HM2.out], setCells_below _ (Nat.le_refl _) _ _ _ _ HJ.out.b⟩
end Go.Proofs.YtdkcndgehgmadaaGreatDoor
-- Walks: the document's path and link of entries (almonerref12.Path, Link).
open Go Go.RowKit Alm
namespace Go.Proofs.YtdkcndgehgmadaaGreatDoor
/-- A list of entries that is nothing, or lies from a block's start on. -/
def AllAt (w : World) (v : Value) (l : List (List UInt8)) : Prop := ListsAt w v l ∧ (v = .slice none 0 0 ∨ ∃ g ca, v = .slice (some ⟨g, 0, none⟩) l.length ca)
theorem AllAt.below {w w' : World} {v : Value} {l : List (List UInt8)} (h : AllAt w v l) (hb : Below w.heap.size w w') : AllAt w' v l := ⟨h.1.below hb, h.2⟩
theorem lists_take {w : World} {g n ca : Nat} {l : List (List UInt8)} (h : ListsAt w (.slice (some ⟨g, 0, none⟩) n ca) l) (k : Nat) (hk : k ≤ l.length) : ListsAt w (.slice (some ⟨g, 0, none⟩) k ca) (l.take k) := by
  obtain ⟨a, cap, he, h1, h2, h3⟩ := h
  simp only [Value.slice.injEq] at he
  obtain ⟨rfl, -, rfl⟩ := he
  have hl : (l.take k).length = k := by rw [List.length_take]; omega
  refine ⟨_, ca, by rw [hl], by rw [hl]; omega, h2, ?_⟩
  rcases h3 with rfl | ⟨b, o, e, hr⟩
  · exact .inl (by simp)
  · refine .inr ⟨b, o, e, fun j hj => ?_⟩
    rw [hl] at hj
    obtain ⟨u, hu, hb⟩ := hr j (by omega)
    exact ⟨u, hu, by rw [List.getElem_take]; exact hb⟩
theorem rfirst_any (w : World) (v : Value) (l : List (List UInt8)) (h : AllAt w v l) (k : Nat) (hk : k ≤ l.length) (hn : l.length < 1000000) : ∃ v', AllAt w v' (l.take k) ∧ Calls Tryz.prog 126 #[v, .int .u64 (k : Int)] w fun e w' => e = .returned (.tuple #[v', .bool true]) ∧ w = w' := by
  rcases h.2 with rfl | ⟨g, ca, rfl⟩
  · have hl : l = [] := by
      obtain ⟨a, cap, he, _⟩ := h.1
      simp only [Value.slice.injEq] at he
      exact List.length_eq_zero_iff.1 he.2.1.symm
    subst hl
    obtain rfl : k = 0 := by simpa using hk
    exact ⟨_, h, rfirst_nil w⟩
  · have hh := h.1
    obtain ⟨a, cap, he, h1, h2, h3⟩ := hh
    simp only [Value.slice.injEq, true_and] at he
    obtain ⟨-, rfl⟩ := he
    exact ⟨_, ⟨lists_take h.1 k hk, .inr ⟨g, ca, by rw [List.length_take, Nat.min_eq_left hk]⟩⟩, rfirst_in w g 0 ca _ k hk h1 h2⟩
theorem all_form {w : World} {v : Value} {l : List (List UInt8)} (h : AllAt w v l) : ∃ a ca, v = .slice a l.length ca := by
  obtain ⟨a, cap, he, _⟩ := h.1
  exact ⟨a, cap, he⟩
theorem take_map (l : List (List UInt8)) (k : Nat) : ((l.take k).map lf).length = min k l.length := by rw [List.length_map, List.length_take]
set_option maxRecDepth 100000 in
theorem rpath12_any (l : List (List UInt8)) (v : Value) (p k : Nat) (w : World) (hv : AllAt w v l) (hn : l.length < 1000000) (hs : ∀ x ∈ l, x.length < 900000) (hp : p < 18446744073709551616) : Calls Tryz.prog 40 #[v, .int .u64 (p : Int), .int .u64 (k : Int)] w fun e w' => ∃ x, e = .returned (.tuple #[x, .int .i64 (cpathE l p k)]) ∧ SumsAt w' x (cpathOf l p k) ∧ Below w.heap.size w w' := by
  have hnil : ∀ W : World, SumsAt W (.slice none 0 0) [] := fun W => ⟨none, 0, rfl, Nat.le_refl _, by decide, .inl rfl⟩
  have HNIL := Lib.hid hnil
  clear hnil
  by_cases h1 : k ≤ l.length
  · obtain ⟨v1, hv1, hc1⟩ := rfirst_any w v l hv k h1 hn
    by_cases h2 : p < k
    · have hif : k ≤ l.length ∧ p ≤ k := ⟨h1, by omega⟩
      rw [show cpathE l p k = errOf ((l.take k).map lf) p from if_pos hif, show cpathOf l p k = pathOf ((l.take k).map lf) p from if_pos hif]
      have d1 : decide (k ≤ p) = false := decide_eq_false (by omega)
      have d2 : ¬ (((k : Int) ≤ (p : Int))) := by omega
      have k4 : IntKind.i64.wrap (p : Int) = (p : Int) := by rw [IntKind.wrap_i64]; omega
      have k5 : wrap64 (p : Int) = (p : Int) := by unfold wrap64; omega
      have HC := Lib.hid hc1
      have hlt : (l.take k).length < 1000000 := by rw [List.length_take]; omega
      have HS := Lib.hid (rsums12_any (l.take k) v1 w hv1.1 hlt (fun x hx => hs x (List.mem_of_mem_take hx)))
      have hml : ((l.take k).map lf).length < 1000000 := by rw [List.length_map]; exact hlt
      obtain ⟨a1, ca1, rfl⟩ := all_form hv1
      obtain ⟨a0, ca0, rfl⟩ := all_form hv
      generalize (l.take k).map lf = y at *
      generalize (l.take k).length = n1 at *
      generalize l.length = n at *
      have HML := Lib.hid hml
      clear hc1 h2 hif hv1 hv hs hlt hml h1 hn
      have HP := Lib.hid hp
      clear hp
      obtain ⟨E, hE⟩ : ∃ E, E = errOf y (p : Int) := ⟨_, rfl⟩
      obtain ⟨R, hR⟩ : ∃ R, R = pathOf y (p : Int) := ⟨_, rfl⟩
      rw [← hE, ← hR]
      have HER := Lib.hid (And.intro hE hR)
      clear hE hR
      go_enter Tryz.func40, Tryz.ntmps40
      go_wp2_with (first
        | (go_at_call 126; refine HC.out.mono ?_; rintro e w1 ⟨rfl, rfl⟩)
        | (go_at_call 127; refine HS.out.mono ?_; rintro e w1 ⟨v2, rfl, hs2, hb2⟩; refine Hid.out ?_))
      refine Lib.hid ?_
      have H2 := Lib.hid (And.intro hs2 hb2)
      have HO := Lib.hid (rof_any y v2 (p : Int) w1 hs2 HML.out)
      clear hs2 hb2 HS HC
      rw [← HER.out.1, ← HER.out.2] at HO
      go_wp2_with (go_at_call 10; refine HO.out.mono ?_; rintro e w2 ⟨x, rfl, hs3, hb3⟩; refine Hid.out ?_)
      refine Lib.hid ?_
      have H3 := Lib.hid (And.intro hs3 (H2.out.2.trans (hb3.mono H2.out.2.size)))
      clear hs3 hb3 HO
      go_wp2_with fail
      refine bodyPost_ret (results_tmp2 rfl _ _ _) rfl ?_
      exact ⟨_, rfl, H3.out⟩
    · have hr : cpathE l p k = 1 ∧ cpathOf l p k = [] := by
        unfold cpathE cpathOf
        by_cases hif : k ≤ l.length ∧ p ≤ k
        · rw [if_pos hif, if_pos hif]
          unfold errOf pathOf
          have hm := take_map l k
          rw [if_neg (by rw [hm]; omega), if_neg (by rw [hm]; omega)]
          exact ⟨rfl, rfl⟩
        · rw [if_neg hif, if_neg hif]
          exact ⟨rfl, rfl⟩
      rw [hr.1, hr.2]
      have d1 : decide (k ≤ p) = true := decide_eq_true (by omega)
      have d2 : ((k : Int) ≤ (p : Int)) := by omega
      have HC := Lib.hid hc1
      obtain ⟨a1, ca1, rfl⟩ := all_form hv1
      obtain ⟨a0, ca0, rfl⟩ := all_form hv
      generalize (l.take k).length = n1 at *
      generalize l.length = n at *
      clear hc1 h2 hv1 hv hs h1 hn hr
      go_enter Tryz.func40, Tryz.ntmps40
      go_wp2_with (go_at_call 126; refine HC.out.mono ?_; rintro e w1 ⟨rfl, rfl⟩)
      exact bodyPost_ret (results_tmp2 rfl _ _ _) rfl ⟨_, rfl, HNIL.out _, Below.refl _ _⟩
  · have hif : ¬ (k ≤ l.length ∧ p ≤ k) := fun h => h1 h.1
    rw [show cpathE l p k = 1 from if_neg hif, show cpathOf l p k = [] from if_neg hif]
    obtain ⟨a0, ca0, rfl⟩ := all_form hv
    have HC := Lib.hid (rfirst_out w a0 ca0 l.length k (by omega) hn)
    generalize l.length = n at *
    clear hif hv hs h1 hn
    go_enter Tryz.func40, Tryz.ntmps40
    go_wp2_with (go_at_call 126; refine HC.out.mono ?_; rintro e w1 ⟨rfl, rfl⟩)
    exact bodyPost_ret (results_tmp2 rfl _ _ _) rfl ⟨_, rfl, HNIL.out _, Below.refl _ _⟩
set_option maxRecDepth 100000 in
theorem rlink12_any (l : List (List UInt8)) (v : Value) (p k : Nat) (w : World) (hv : AllAt w v l) (hn : l.length < 1000000) (hs : ∀ x ∈ l, x.length < 900000) (hp : p < 18446744073709551616) : Calls Tryz.prog 41 #[v, .int .u64 (p : Int), .int .u64 (k : Int)] w fun e w' => ∃ x, e = .returned (.tuple #[x, .int .i64 (clinkE l p k)]) ∧ SumsAt w' x (clinkOf l p k) ∧ Below w.heap.size w w' := by
  have hnil : ∀ W : World, SumsAt W (.slice none 0 0) [] := fun W => ⟨none, 0, rfl, Nat.le_refl _, by decide, .inl rfl⟩
  have HNIL := Lib.hid hnil
  clear hnil
  by_cases h1 : k ≤ l.length
  · obtain ⟨v1, hv1, hc1⟩ := rfirst_any w v l hv k h1 hn
    by_cases h2 : p ≤ k
    · have hif : k ≤ l.length ∧ p ≤ k := ⟨h1, by omega⟩
      rw [show clinkE l p k = errOfL ((l.take k).map lf) p from if_pos hif, show clinkOf l p k = linkOf ((l.take k).map lf) p from if_pos hif]
      have d1 : decide (k < p) = false := decide_eq_false (by omega)
      have d2 : ¬ (((k : Int) < (p : Int))) := by omega
      have k4 : IntKind.i64.wrap (p : Int) = (p : Int) := by rw [IntKind.wrap_i64]; omega
      have k5 : wrap64 (p : Int) = (p : Int) := by unfold wrap64; omega
      have HC := Lib.hid hc1
      have hlt : (l.take k).length < 1000000 := by rw [List.length_take]; omega
      have HS := Lib.hid (rsums12_any (l.take k) v1 w hv1.1 hlt (fun x hx => hs x (List.mem_of_mem_take hx)))
      have hml : ((l.take k).map lf).length < 1000000 := by rw [List.length_map]; exact hlt
      obtain ⟨a1, ca1, rfl⟩ := all_form hv1
      obtain ⟨a0, ca0, rfl⟩ := all_form hv
      generalize (l.take k).map lf = y at *
      generalize (l.take k).length = n1 at *
      generalize l.length = n at *
      have HML := Lib.hid hml
      clear hc1 h2 hif hv1 hv hs hlt hml h1 hn
      have HP := Lib.hid hp
      clear hp
      obtain ⟨E, hE⟩ : ∃ E, E = errOfL y (p : Int) := ⟨_, rfl⟩
      obtain ⟨R, hR⟩ : ∃ R, R = linkOf y (p : Int) := ⟨_, rfl⟩
      rw [← hE, ← hR]
      have HER := Lib.hid (And.intro hE hR)
      clear hE hR
      go_enter Tryz.func41, Tryz.ntmps41
      go_wp2_with (first
        | (go_at_call 126; refine HC.out.mono ?_; rintro e w1 ⟨rfl, rfl⟩)
        | (go_at_call 127; refine HS.out.mono ?_; rintro e w1 ⟨v2, rfl, hs2, hb2⟩; refine Hid.out ?_))
      refine Lib.hid ?_
      have H2 := Lib.hid (And.intro hs2 hb2)
      have HO := Lib.hid (rlof_any y v2 (p : Int) w1 hs2 HML.out)
      clear hs2 hb2 HS HC
      rw [← HER.out.1, ← HER.out.2] at HO
      go_wp2_with (go_at_call 25; refine HO.out.mono ?_; rintro e w2 ⟨x, rfl, hs3, hb3⟩; refine Hid.out ?_)
      refine Lib.hid ?_
      have H3 := Lib.hid (And.intro hs3 (H2.out.2.trans (hb3.mono H2.out.2.size)))
      clear hs3 hb3 HO
      go_wp2_with fail
      refine bodyPost_ret (results_tmp2 rfl _ _ _) rfl ?_
      exact ⟨_, rfl, H3.out⟩
    · have hr : clinkE l p k = 1 ∧ clinkOf l p k = [] := by
        unfold clinkE clinkOf
        by_cases hif : k ≤ l.length ∧ p ≤ k
        · rw [if_pos hif, if_pos hif]
          unfold errOfL linkOf
          have hm := take_map l k
          rw [if_neg (by rw [hm]; omega), if_neg (by rw [hm]; omega)]
          exact ⟨rfl, rfl⟩
        · rw [if_neg hif, if_neg hif]
          exact ⟨rfl, rfl⟩
      rw [hr.1, hr.2]
      have d1 : decide (k < p) = true := decide_eq_true (by omega)
      have d2 : ((k : Int) < (p : Int)) := by omega
      have HC := Lib.hid hc1
      obtain ⟨a1, ca1, rfl⟩ := all_form hv1
      obtain ⟨a0, ca0, rfl⟩ := all_form hv
      generalize (l.take k).length = n1 at *
      generalize l.length = n at *
      clear hc1 h2 hv1 hv hs h1 hn hr
      go_enter Tryz.func41, Tryz.ntmps41
      go_wp2_with (go_at_call 126; refine HC.out.mono ?_; rintro e w1 ⟨rfl, rfl⟩)
      exact bodyPost_ret (results_tmp2 rfl _ _ _) rfl ⟨_, rfl, HNIL.out _, Below.refl _ _⟩
  · have hif : ¬ (k ≤ l.length ∧ p ≤ k) := fun h => h1 h.1
    rw [show clinkE l p k = 1 from if_neg hif, show clinkOf l p k = [] from if_neg hif]
    obtain ⟨a0, ca0, rfl⟩ := all_form hv
    have HC := Lib.hid (rfirst_out w a0 ca0 l.length k (by omega) hn)
    generalize l.length = n at *
    clear hif hv hs h1 hn
    go_enter Tryz.func41, Tryz.ntmps41
    go_wp2_with (go_at_call 126; refine HC.out.mono ?_; rintro e w1 ⟨rfl, rfl⟩)
    exact bodyPost_ret (results_tmp2 rfl _ _ _) rfl ⟨_, rfl, HNIL.out _, Below.refl _ _⟩
end Go.Proofs.YtdkcndgehgmadaaGreatDoor
-- Walk: almonerlaw01.ByteListsSize.
open Go Go.RowKit Alm
namespace Go.Proofs.YtdkcndgehgmadaaGreatDoor
/-- How much that is, as far as it is counted. -/
def bszGo : Nat → List (List UInt8) → Nat
  | n, [] => n
  | n, x :: r => if n ≤ 1048576 then bszGo (n + x.length) r else n
def bsz (ls : List (List UInt8)) : Nat := bszGo ls.length ls
theorem bszGo_ge : ∀ (l : List (List UInt8)) (n : Nat), n ≤ bszGo n l
  | [], n => Nat.le_refl _
  | x :: r, n => by
    unfold bszGo
    split
    · have := bszGo_ge r (n + x.length); omega
    · exact Nat.le_refl _
theorem bszGo_le (M : Nat) (hM : M ≤ 1048576) : ∀ (l : List (List UInt8)) (n : Nat), bszGo n l ≤ M → n ≤ M ∧ ∀ x ∈ l, x.length ≤ M
  | [], n, h => ⟨h, fun x hx => by cases hx⟩
  | x :: r, n, h => by
    unfold bszGo at h
    split at h
    · have h1 := bszGo_le M hM r _ h
      refine ⟨by omega, fun y hy => ?_⟩
      rcases List.mem_cons.1 hy with rfl | hy
      · omega
      · exact h1.2 y hy
    · exact ⟨h, by omega⟩
theorem bsz_le (M : Nat) (hM : M ≤ 1048576) (l : List (List UInt8)) (h : bsz l ≤ M) : l.length ≤ M ∧ ∀ x ∈ l, x.length ≤ M := bszGo_le M hM l _ h
/-- The greatest length that comes in. -/
abbrev LIM : Nat := 140737488355328
theorem bszGo_lt : ∀ (l : List (List UInt8)) (n : Nat), (∀ x ∈ l, x.length ≤ LIM) → n ≤ 1048576 + LIM → bszGo n l ≤ 1048576 + LIM
  | [], n, _, h => h
  | x :: r, n, hx, h => by
    unfold bszGo
    split
    · exact bszGo_lt r _ (fun y hy => hx y (List.mem_cons_of_mem _ hy)) (by have := hx x (List.mem_cons_self ..); omega)
    · exact h
theorem bs_any (a : Option Addr) (n c : Nat) (w : World) : Calls Tryz.prog 111 #[.slice a n c] w fun e w' => e = .returned (.int .i64 (n : Int)) ∧ w = w' := by
  go_enter Tryz.func111, Tryz.ntmps111
  go_wp2_with fail
  exact bodyPost_ret (results_tmp rfl _ _ _) rfl ⟨rfl, rfl⟩
set_option maxRecDepth 100000 in
set_option maxHeartbeats 1000000 in
theorem blsz_any (ls : List (List UInt8)) (v : Value) (w : World) (hv : ListsAt w v ls) (hn : ls.length ≤ LIM) (hs : ∀ x ∈ ls, x.length ≤ LIM) : Calls Tryz.prog 28 #[v] w fun e w' => e = .returned (.int .i64 (bsz ls : Int)) ∧ w = w' := by
  have HV := Lib.hid hv
  obtain ⟨aa, ca, rfl, a1, a2, a3⟩ := hv
  clear a3
  obtain ⟨n, hna⟩ : ∃ n, n = ls.length := ⟨_, rfl⟩
  rw [← hna] at HV a1 hn ⊢
  obtain ⟨T, hT⟩ : ∃ T, T = bsz ls := ⟨_, rfl⟩
  have hT0 : bszGo n ls = T := by rw [hT, bsz, hna]
  rw [← hT]
  have HN := Lib.hid (And.intro hna hs)
  have HT0 := Lib.hid hT0
  unfold LIM at hn
  clear hna hs hT hT0
  go_enter Tryz.func28, Tryz.ntmps28
  go_wp2_with fail
  go_loopw [3, 4] (fun cv i W => ∃ j c : Nat, j ≤ n ∧ i = .int .i64 (j : Int) ∧ cv = .int .i64 (c : Int) ∧ c ≤ 1048576 + LIM ∧ bszGo c (ls.drop j) = T ∧ W = w) (fun _ i _ => n - (intOf i).toNat)
  case atStart => exact ⟨0, n, by omega, rfl, rfl, by unfold LIM; omega, by simpa using HT0.out, rfl⟩
  case round =>
    obtain ⟨j, c, hj, rfl, rfl, hc, hd, hW⟩ := hrel
    have hW := hW.symm
    subst hW
    have HD := Lib.hid hd; clear hd
    unfold LIM at hc
    by_cases hlt : j < n
    · have hlt' : (j : Int) < (n : Int) := by omega
      have h0 : ls ≠ [] := by intro h; have := HN.out.1; rw [h] at this; simp at this; omega
      obtain ⟨b1', o1', c1', he1, _, _⟩ := HV.out.form h0
      simp only [Value.slice.injEq] at he1
      obtain ⟨rfl, h9, rfl⟩ := he1
      clear h9
      have hjl : j < ls.length := by have := HN.out.1; omega
      have hdr : ls.drop j = ls[j] :: ls.drop (j + 1) := List.drop_eq_getElem_cons hjl
      have hx9 : ls[j].length ≤ LIM := HN.out.2 _ (List.getElem_mem hjl)
      unfold LIM at hx9
      obtain ⟨u1, hc1, hu1⟩ := HV.out.cell (sp := none) (j := j) hjl
      have hD := HD.out
      rw [hdr] at hD
      generalize ls[j] = x at *
      obtain ⟨ax, cx, rfl, _, _, hor⟩ := hu1
      clear hor hdr h0
      obtain ⟨k, hk⟩ : ∃ k, k = x.length := ⟨_, rfl⟩
      rw [← hk] at hc1 hx9
      have HK := Lib.hid hk
      have HDD := Lib.hid hD
      clear hk hD hjl
      have hj0 : (0 : Int) ≤ (j : Int) := by omega
      by_cases hm : c ≤ 1048576
      · have hm' : (c : Int) ≤ 1048576 := by omega
        go_wp2_with fail
        have hDD := HDD.out
        unfold bszGo at hDD
        rw [if_pos hm, ← HK.out] at hDD
        have HE := Lib.hid hDD
        clear hDD
        refine (bs_any ax k cx w).mono ?_
        rintro e w1 ⟨rfl, rfl⟩
        go_wp2_with fail
        exact ⟨⟨j + 1, c + k, by omega, by simp, by simp, by unfold LIM; omega, HE.out, trivial⟩, by simp [intOf]; omega⟩
      · have hm' : ¬ (c : Int) ≤ 1048576 := by omega
        have hcT : c = T := by
          have := HDD.out
          unfold bszGo at this
          rw [if_neg hm] at this
          exact this
        go_wp2_with fail
        exact bodyPost_ret (results_tmp rfl _ _ _) rfl ⟨rfl, rfl⟩
    · have hjn : j = n := by omega
      have hcT : c = T := by
        have := HD.out
        rw [List.drop_eq_nil_of_le (by have := HN.out.1; omega)] at this
        exact this
      subst hjn
      go_wp2_with fail
      exact bodyPost_ret (results_tmp rfl _ _ _) rfl ⟨rfl, rfl⟩
/-- More than is gone through. -/
def grB (L M : List (List UInt8)) (B : List UInt8) (S : List Sum) : Bool := decide (40 < L.length) || decide (40 < M.length) || decide (100 < S.length) || decide (20000 < bsz L + bsz M + B.length)
abbrev said13 (vL vM : Value) (at_ : Int) (vB vS : Value) : Value := .agg #[vL, vM, .int .i64 at_, vB, vS]
end Go.Proofs.YtdkcndgehgmadaaGreatDoor
