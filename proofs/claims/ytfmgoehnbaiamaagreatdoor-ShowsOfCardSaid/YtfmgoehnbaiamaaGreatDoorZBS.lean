/-
  Joined: VTW1, VTW2, SO12.
-/
import Derived.Test.YtfmgoehnbaiamaaGreatDoorZBF
import Derived.Test.YtfmgoehnbaiamaaGreatDoorZBR
-- Walk: a copy of sums, with a mark behind it (TwinSums).
open Go Go.RowKit Alm
namespace Go.Proofs.YtfmgoehnbaiamaaGreatDoor
theorem build_77 (w : World) : (Instr.build 24 #[(0, .int .u8 77)]).run Tryz.prog w = .ok (.agg (cellsOf (mkS 77)).toArray) w := by rw [mkS_eq]; kernel_rfl
set_option maxRecDepth 100000 in
theorem wpList_build_77 {ops : Array Oper} {rest : List Oper} {op : Oper} {a : Act} {w : World} {Q : Exit → Act → World → Prop} (hgd : op.guard = none) (ho : op.op = .build 24 #[(0, .const (.int .u8 77))])
    (h : wpList Tryz.prog ops Q rest (a.put op.dst (sv (mkS 77))) w) : wpList Tryz.prog ops Q (op :: rest) a w :=
  wpList_build_by hgd 24 _ ho _ (fun W => by
    have e : ((#[(0, Operand.const (.int .u8 77))] : Array (Nat × Operand)).map fun (i, x) => (i, a.eval x)) = #[(0, .int .u8 77)] := by simp [Act.eval]
    rw [e]
    exact build_77 W) h
/-- A copy of sums: they lie with a mark behind them. -/
def TwinS (W : World) (base : Nat) (v : Value) (l : List Sum) : Prop := ∃ g cap, v = .slice (some ⟨g, 0, none⟩) l.length cap ∧ Lie W base 32 (.slice (some ⟨g, 0, none⟩) (l.length + 1) cap) ((l ++ [mkS 77]).map cellsOf)
theorem TwinS.lie {W : World} {base : Nat} {v : Value} {l : List Sum} (h : TwinS W base v l) : Lie W base 32 v (l.map cellsOf) := by
  obtain ⟨g, cap, rfl, h⟩ := h
  rw [List.map_append] at h
  exact h.front (by rw [List.length_map])
theorem TwinS.sums {W : World} {base : Nat} {v : Value} {l : List Sum} (h : TwinS W base v l) : SumsAt W v l := lie_sums h.lie
theorem TwinS.keep {X : Nat → Prop} {W W' : World} {base : Nat} {v : Value} {l : List Sum} (h : TwinS W base v l) (hk : Keeps X W W') (hx : ∀ k, v.ownBlock = some k → ¬ X k) : TwinS W' base v l := by
  obtain ⟨g, cap, rfl, h⟩ := h
  exact ⟨g, cap, rfl, h.keep hk (fun k hk2 => hx k hk2)⟩
theorem TwinS.below {W W' : World} {base : Nat} {v : Value} {l : List Sum} (h : TwinS W base v l) (hb : Below W.heap.size W W') : TwinS W' base v l := h.keep (Keeps.of_below (X := fun _ => False) hb) (fun _ _ h => h)
theorem twin_nums {n : Nat} (h : n < 900000) : wrap64 ((n : Int) + 1) = ((n + 1 : Nat) : Int) := by unfold wrap64; omega
set_option maxRecDepth 100000 in
set_option maxHeartbeats 1000000 in
theorem twin_sums (l : List Sum) (v : Value) (w : World) (hv : SumsAt w v l) (hl : l.length < 900000) : Calls Tryz.prog 94 #[v] w fun e w' => ∃ v', e = .returned v' ∧ TwinS w' w.heap.size v' l ∧ Below w.heap.size w w' := by
  have hv0 := hv
  obtain ⟨va, vc, rfl, hc1, hc2, h3⟩ := hv
  obtain ⟨n, hn⟩ : ∃ n, n = l.length := ⟨_, rfl⟩
  rw [← hn] at hc1 hv0 hl ⊢
  obtain ⟨n1, hn1⟩ : ∃ m, m = n + 1 := ⟨_, rfl⟩
  have hw1 := twin_nums hl
  rw [← hn1] at hw1
  obtain ⟨i0, z0, hi0, hz0, hs0, hb0, hzs0⟩ := info_sumB
  have HI := Lib.hid (And.intro hi0 (And.intro hz0 (And.intro hs0 hb0)))
  have HV := Lib.hid (And.intro hv0 (And.intro hn (And.intro hc1 (And.intro hc2 (And.intro hl hn1)))))
  clear hv0 hn hc1 hc2 hl hn1 hi0 hz0 hs0 hb0 hzs0 h3
  go_enter Tryz.func94, Tryz.ntmps94
  go_wp2_with (at_make; refine Hid.out ?_)
  refine Lib.hid ?_
  try rw [hw1]
  refine wpList_make_own _ rfl _ _ _ rfl w.heap.size 24 i0 z0 32 Tryz.underlying61 HI.out.1 HI.out.2.1 HI.out.2.2.1 .i64 .i64 (n1 : Int) n1 rfl (by rfl) rfl (by rw [HI.out.2.2.2]; have := HV.out; omega) (by unfold maxLen; have := HV.out; omega) (Nat.le_refl _) ?_
  intro w2 ho2 hg2
  have hb2 : Below w.heap.size w w2 := Keeps.below (B := w.heap.size) (Keeps.of_grown (X := fun _ => False) hg2 (fun k hk => by cases hk)) (Nat.le_refl _) (fun _ h => h.elim)
  have hlie : Lie w2 w.heap.size 32 (.slice (some ⟨w.heap.size, 0, none⟩) 0 n1) [] := lie_own (xs := []) ho2 rfl (fun x hx => by cases hx)
  have H2 := Lib.hid (And.intro (Grown.start (B := w2.heap.size) hlie (Nat.le_refl _)) (And.intro hb2 hg2.size))
  clear ho2 hg2 hb2 hlie
  go_wp2_with fail
  go_loopw [3, 4] (fun tv iv W => ∃ i : Nat, i ≤ n ∧ iv = .int .i64 (i : Int) ∧ (∃ a c, tv = .slice a i c) ∧ Grown W w.heap.size 32 w2.heap.size (.slice (some ⟨w.heap.size, 0, none⟩) 0 n1) [] tv ((l.take i).map cellsOf) ∧ Below w.heap.size w W ∧ w2.heap.size ≤ W.heap.size) (fun _ iv _ => n - (intOf iv).toNat)
  case atStart => exact ⟨0, Nat.zero_le _, rfl, ⟨_, _, rfl⟩, H2.out.1, H2.out.2.1, Nat.le_refl _⟩
  case round =>
    obtain ⟨i, hi, rfl, ⟨ta, tc, rfl⟩, hG, hB, hS⟩ := hrel
    have HG := Lib.hid (And.intro hG (And.intro hB hS))
    clear hG hB hS
    by_cases hlt : i < n
    · obtain ⟨d1, d2, d3, d4⟩ := dec_lt hlt
      have hil : i < l.length := by rw [← HV.out.2.1]; exact hlt
      have hne : l ≠ [] := by intro h; rw [h] at hil; simp at hil
      obtain ⟨b, o, cap', hvf, _, _, hr⟩ := sums_form8 HV.out.1 hne
      simp only [Value.slice.injEq] at hvf
      obtain ⟨rfl, -, rfl⟩ := hvf
      have hx := range_below HG.out.2.1 (range_at hr hil) (range_lt (range_at hr hil) (by intro h; have := length_cellsOf l[i]; rw [h] at this; cases this))
      have htk := List.take_succ_eq_append_getElem hil
      generalize l[i] = s at *
      have HX := Lib.hid (And.intro hx htk)
      clear hx htk hr hne hil
      go_wp2_with (first
        | (refine wpList_load_sum rfl _ rfl b (o + i * 32) rfl s HX.out.1 ?_)
        | (refine wpList_lit_sum rfl _ rfl s rfl ?_; refine Hid.out ?_))
      refine Lib.hid ?_
      try simp only [Act.put, List.setIfInBounds_toArray, List.set_cons_zero, List.set_cons_succ]
      have hba := Alm.al (Below.refl wr.heap.size wr) (.cells (cellsOf s).toArray 24)
      refine wpList_append_sumG (base := w.heap.size) (B := w2.heap.size) (v0 := .slice (some ⟨w.heap.size, 0, none⟩) 0 n1) (xs := []) (ys := (l.take i).map cellsOf) rfl _ _ rfl rfl (HG.out.1.below hba) H2.out.2.1.size (Nat.le_trans HG.out.2.2 hba.size) ⟨wr.heap.size, 0, none⟩ 1 s rfl (fun j u hj => by rw [Addr.add_mid]; exact range_new wr (cellsOf s).toArray 24 _ rfl j u hj) (by rw [List.length_map, List.length_take]; have := HV.out; simp; omega) ?_
      intro v4 V4 hg4 hk4 hf4
      obtain ⟨a4, c4, rfl⟩ := hf4
      have hb4 := hk4.below (B := w.heap.size) (Nat.le_trans HG.out.2.1.size hba.size) (fun k h => by
        rcases h with h | h
        · simp only [Value.ownBlock, Option.some.injEq] at h; omega
        · exact Nat.le_trans H2.out.2.1.size h)
      rw [← List.map_singleton (f := cellsOf), ← List.map_append, ← HX.out.2] at hg4
      have hln : ([] : List (List Value)).length + ((l.take i).map cellsOf).length + 1 = i + 1 := by rw [List.length_map, List.length_take, List.length_nil]; have := HV.out; omega
      rw [hln] at hg4 ⊢
      have H4 := Lib.hid (And.intro hg4 (And.intro ((HG.out.2.1.trans (hba.mono HG.out.2.1.size)).trans hb4) (Nat.le_trans HG.out.2.2 (Nat.le_trans hba.size hk4.size))))
      clear hg4 hb4 hk4 hba hln
      go_wp2_with fail
      have h4 := H4.out
      have hwi := wrapn (k := i) (by have := HV.out; omega)
      try rw [hwi]
      clear hwi
      clear H4 HG HX HV H2 HI d1 d2 d3 d4
      refine ⟨⟨i + 1, hlt, rfl, ⟨_, _, rfl⟩, h4⟩, ?_⟩
      clear h4
      simp only [intOf, Int.toNat_natCast]
      omega
    · obtain rfl : i = n := by omega
      have htk : l.take i = l := List.take_of_length_le (by rw [← HV.out.2.1]; exact Nat.le_refl _)
      rw [htk] at HG
      clear htk
      have hne : HG = HG := rfl
      clear hne
      go_wp2_with (first
        | (refine wpList_build_77 rfl rfl ?_)
        | (refine wpList_lit_sum rfl _ rfl (mkS 77) rfl ?_; refine Hid.out ?_))
      refine Lib.hid ?_
      try simp only [Act.put, List.setIfInBounds_toArray, List.set_cons_zero, List.set_cons_succ]
      have hba := Alm.al (Below.refl wr.heap.size wr) (.cells (cellsOf (mkS 77)).toArray 24)
      refine wpList_append_sumG (base := w.heap.size) (B := w2.heap.size) (v0 := .slice (some ⟨w.heap.size, 0, none⟩) 0 n1) (xs := []) (ys := l.map cellsOf) rfl _ _ rfl rfl (HG.out.1.below hba) H2.out.2.1.size (Nat.le_trans HG.out.2.2 hba.size) ⟨wr.heap.size, 0, none⟩ 1 (mkS 77) rfl (fun j u hj => by rw [Addr.add_mid]; exact range_new wr (cellsOf (mkS 77)).toArray 24 _ rfl j u hj) (by rw [List.length_map]; have := HV.out; simp; omega) ?_
      intro v4 V4 hg4 hk4 hf4
      have hb4 := hk4.below (B := w.heap.size) (Nat.le_trans HG.out.2.1.size hba.size) (fun k h => by
        rcases h with h | h
        · simp only [Value.ownBlock, Option.some.injEq] at h; omega
        · exact Nat.le_trans H2.out.2.1.size h)
      rw [← List.map_singleton (f := cellsOf), ← List.map_append] at hg4
      have hlie := hg4.now
      rw [List.nil_append] at hlie
      have hcap : ∃ g cap, v4 = .slice (some ⟨g, 0, none⟩) (i + 1) cap ∧ i + 1 ≤ cap := by
        rcases hlie with ⟨_, h0⟩ | ⟨g, cap, hv4, _, _, hnc, _⟩
        · simp at h0
        · have e : ((l ++ [mkS 77]).map cellsOf).length = i + 1 := by rw [List.length_map, List.length_append, List.length_singleton, ← HV.out.2.1]
          rw [e] at hv4 hnc
          exact ⟨g, cap, hv4, hnc⟩
      obtain ⟨g, cap, rfl, hcp⟩ := hcap
      have hi3 : (i : Int) ≤ (cap : Int) := by omega
      have hi4 : i ≤ cap := by omega
      have HF := Lib.hid (show TwinS V4 w.heap.size (.slice (some ⟨g, 0, none⟩) i cap) l from ⟨g, cap, by rw [← HV.out.2.1], by rw [← HV.out.2.1]; exact hlie⟩)
      have HB4 := Lib.hid ((HG.out.2.1.trans (hba.mono HG.out.2.1.size)).trans hb4)
      clear hg4 hb4 hk4 hba hlie hf4
      go_wp2_with fail
      refine bodyPost_ret (results_tmp rfl _ _ _) rfl ?_
      exact ⟨_, rfl, HF.out, HB4.out⟩
end Go.Proofs.YtfmgoehnbaiamaaGreatDoor
-- Walk: a copy of sums is what it was made of (LeftSums).
namespace Go.Proofs.YtfmgoehnbaiamaaGreatDoor
theorem left_nums {n cap : Nat} (h : n < 900000) (hc : n + 1 ≤ cap) : wrap64 ((n : Int) + 1) = ((n + 1 : Nat) : Int) ∧ (n : Int) < (cap : Int) ∧ ¬ (cap : Int) ≤ (n : Int) ∧ decide ((cap : Int) ≤ (n : Int)) = false ∧ decide (cap ≤ n) = false ∧ ((n + 1 : Nat) : Int) ≤ (cap : Int) ∧ (0 : Int) ≤ (n : Int) ∧ (n : Int) < ((n + 1 : Nat) : Int) ∧ ¬ cap ≤ n ∧ n + 1 ≤ cap := by
  refine ⟨by unfold wrap64; omega, by omega, by omega, by simp; omega, by simp; omega, by omega, by omega, by omega, by omega, hc⟩
set_option maxRecDepth 100000 in
set_option maxHeartbeats 1000000 in
theorem left_sums (l : List Sum) (vt v : Value) (base : Nat) (w : World) (ht : TwinS w base vt l) (hv : SumsAt w v l) (hl : l.length < 900000) : Calls Tryz.prog 104 #[vt, v] w fun e w' => e = .returned (.bool true) ∧ Below w.heap.size w w' := by
  have hv0 := hv
  obtain ⟨va, vc, rfl, hc1, hc2, h3⟩ := hv
  have ht0 := ht
  obtain ⟨g, cap, rfl, hlie⟩ := ht
  have hcp : l.length + 1 ≤ cap ∧ w.rangeAt g 0 (cellsAll (l ++ [mkS 77])) := by
    rcases hlie with ⟨h0, _⟩ | ⟨g', cap', hv4, _, _, hnc, _, hr, _⟩
    · cases h0
    · simp only [Value.slice.injEq, Option.some.injEq, Addr.mk.injEq, and_true] at hv4
      obtain ⟨rfl, _, rfl⟩ := hv4
      rw [List.length_map, List.length_append, List.length_singleton] at hnc
      rw [flat_cells] at hr
      exact ⟨hnc, hr⟩
  obtain ⟨n, hn⟩ : ∃ n, n = l.length := ⟨_, rfl⟩
  rw [← hn] at hc1 hv0 hl hcp ⊢
  obtain ⟨k1, k2, k3, k4, k5, k6, k7, k8, k9, k10⟩ := left_nums hl hcp.1
  obtain ⟨n1, hn1⟩ : ∃ m, m = n + 1 := ⟨_, rfl⟩
  rw [← hn1] at k1 k6 k8 k10
  have HV := Lib.hid (And.intro hv0 (And.intro hn (And.intro hc1 (And.intro hc2 (And.intro hl (And.intro hn1 hcp.2))))))
  clear hv0 hn hc1 hc2 hl hn1 hcp hlie ht0 h3
  have hes := eq_sums_same
  go_enter Tryz.func104, Tryz.ntmps104
  go_wp2_with fail
  go_loopw [5] (fun iv W => ∃ i : Nat, i ≤ n ∧ iv = .int .i64 (i : Int) ∧ Below w.heap.size w W) (fun iv _ => n - (intOf iv).toNat)
  case atStart => exact ⟨0, Nat.zero_le _, rfl, Below.refl _ _⟩
  case round =>
    obtain ⟨i, hi, rfl, hB⟩ := hrel
    by_cases hlt : i < n
    · obtain ⟨d1, d2, d3, d4⟩ := dec_lt hlt
      have hil : i < l.length := by rw [← HV.out.2.1]; exact hlt
      have hne : l ≠ [] := by intro h; rw [h] at hil; simp at hil
      obtain ⟨b, o, cap', hvf, _, _, hr⟩ := sums_form8 HV.out.1 hne
      simp only [Value.slice.injEq] at hvf
      obtain ⟨rfl, -, rfl⟩ := hvf
      have hx := range_below hB (range_at hr hil) (range_lt (range_at hr hil) (by intro h; have := length_cellsOf l[i]; rw [h] at this; cases this))
      have hr2 := range_at HV.out.2.2.2.2.2.2 (i := i) (by rw [List.length_append, List.length_singleton]; omega)
      rw [List.getElem_append_left hil, Nat.zero_add] at hr2
      have hx2 := range_below hB hr2 (range_lt hr2 (by intro h; have := length_cellsOf l[i]; rw [h] at this; cases this))
      have hd := (Below.refl wr.heap.size wr).drew
      generalize l[i] = s at *
      have HX := Lib.hid (And.intro ((Keeps.of_below (X := fun _ => False) hd).range hx (fun h => h)) (And.intro ((Keeps.of_below (X := fun _ => False) hd).range hx2 (fun h => h)) hB.drew))
      clear hx hx2 hr hr2 hne hil hd hB
      go_wp2_with fail
      refine wp_region_sched (fun V => V = wr.drew) [.t 0, .t 1, .t 2, .t 4, .t 5, .t 6, .s 3, .s 7, .t 8] (by kernel_rfl) (by kernel_rfl) (by intro c a d v w h; cases d <;> exact h) ?_
      generalize wr.drew = V at *
      iterate 6
        refine wpS_t rfl (v := ?_) (by rfl) (fun W => ?_) ?_
        rotate_left
        · go_simp
          try rfl
        try simp only [Act.put, List.setIfInBounds_toArray, List.set_cons_zero, List.set_cons_succ]
      refine wpS_load_mid rfl rfl (by rfl) _ _ rfl g (i * 32) (by rfl) (cellsOf s) _ (fun W hW => by rw [hW]; exact HX.out.2.1) Tryz.underlying24 rfl (by rw [length_cellsOf]; exact infoSum) ?_
      try simp only [Act.put, List.setIfInBounds_toArray, List.set_cons_zero, List.set_cons_succ]
      refine wpS_load_mid rfl rfl (by rfl) _ _ rfl b (o + i * 32) (by rfl) (cellsOf s) _ (fun W hW => by rw [hW]; exact HX.out.1) Tryz.underlying24 rfl (by rw [length_cellsOf]; exact infoSum) ?_
      try simp only [Act.put, List.setIfInBounds_toArray, List.set_cons_zero, List.set_cons_succ]
      iterate 1
        refine wpS_t rfl (v := ?_) (by rfl) (fun W => ?_) ?_
        rotate_left
        · go_simp
          try rfl
        try simp only [Act.put, List.setIfInBounds_toArray, List.set_cons_zero, List.set_cons_succ]
      refine wpS_done ?_
      go_wp2_with fail
      have hwi := wrapn (k := i) (by have := HV.out; omega)
      try rw [hwi]
      have h9 := HX.out.2.2
      clear hwi HX HV hes k1 k2 k3 k4 k5 k6 k7 k8 k9 k10 d1 d2 d3 d4
      refine ⟨⟨i + 1, hlt, rfl, h9⟩, ?_⟩
      clear h9
      simp only [intOf, Int.toNat_natCast]
      omega
    · obtain rfl : i = n := by omega
      have hr2 := range_at HV.out.2.2.2.2.2.2 (i := i) (by rw [List.length_append, List.length_singleton, ← HV.out.2.1]; omega)
      rw [List.getElem_append_right (by rw [← HV.out.2.1]; omega), Nat.zero_add] at hr2
      simp only [List.getElem_singleton] at hr2
      have hx2 := range_below hB hr2 (range_lt hr2 (by intro h; have := length_cellsOf (mkS 77); rw [h] at this; cases this))
      have HX := Lib.hid (And.intro hx2 hB)
      clear hx2 hr2 hB
      go_wp2_with (first
        | (refine wpList_load_sum rfl _ rfl g (i * 32) rfl (mkS 77) HX.out.1 ?_)
        | (refine wpList_var_sum (by rfl) rfl _ _ rfl (mkS 77) rfl rfl ?_; refine Hid.out ?_))
      refine Lib.hid ?_
      intro W2 hb hr2 ht2
      have H2 := Lib.hid (And.intro hr2 (HX.out.2.trans (hb.mono HX.out.2.size)))
      clear hb hr2 ht2
      go_wp2_with (first
        | (refine wpList_load_sum rfl _ rfl wr.heap.size 0 rfl (mkS 77) H2.out.1 ?_)
        | (refine wpList_build_77 rfl rfl ?_))
      exact bodyPost_ret (results_tmp rfl _ _ _) rfl ⟨rfl, H2.out.2⟩
end Go.Proofs.YtfmgoehnbaiamaaGreatDoor
-- Walks: almonerlaw01: SameShow, LeftShow, TwinShow.
namespace Go.Proofs.YtfmgoehnbaiamaaGreatDoor
set_option maxRecDepth 100000 in
set_option maxHeartbeats 1000000 in
theorem same_show (which : Sum) (va vb : Value) (A : List Sum) (w : World) (ha : SumsAt w va A) (hb : SumsAt w vb A) (_hl : A.length < 900000) :
    Calls Tryz.prog 28 #[shV which va, shV which vb] w fun e w' => e = .returned (.bool true) ∧ Below w.heap.size w w' := by
  obtain ⟨w1, hw1⟩ : ∃ x, x = w.alloc (.cells (cellsShow which va).toArray 63) := ⟨_, rfl⟩
  obtain ⟨w2, hw2⟩ : ∃ x, x = w1.alloc (.cells (cellsShow which vb).toArray 63) := ⟨_, rfl⟩
  have r1 : w1.rangeAt w.heap.size 0 (cellsShow which va) := by rw [hw1]; exact range_new w _ _ _ rfl
  have r2 : w2.rangeAt w1.heap.size 0 (cellsShow which vb) := by rw [hw2]; exact range_new w1 _ _ _ rfl
  have b1 : Below w.heap.size w w1 := by rw [hw1]; exact al (Below.refl _ _) _
  have b2 : Below w1.heap.size w1 w2 := by rw [hw2]; exact al (Below.refl _ _) _
  have r12 := (Keeps.of_below (X := fun _ => False) b2).range r1 (fun h => h)
  have b12 := b1.trans (b2.mono b1.size)
  have s1 : w1.heap.size = w.heap.size + 1 := by rw [hw1, World.size_alloc]
  rw [s1] at r2
  have hcall := same_sums A A va vb w2 (ha.below b12 (Nat.le_refl _)) (hb.below b12 (Nat.le_refl _))
  rw [decide_eq_true (rfl : A = A)] at hcall
  have H0 := Lib.hid (And.intro (which_at r12) (And.intro (which_at r2) (And.intro hcall b12)))
  have HW := Lib.hid (And.intro hw1 hw2)
  have g1 := slice_at r12
  have g2 := slice_at r2
  have heq := eq_sums which which
  rw [decide_eq_true rfl] at heq
  clear r1 r2 b1 b2 r12 b12 s1 hw1 hw2 ha hb _hl hcall
  unfold shV
  go_enter Tryz.func28, Tryz.ntmps28
  refine Alm.wp_cut 1 ?_
  intro T hT
  dsimp only [cutN]
  replace hT := Lib.hid hT
  go_wp2_with fail
  refine hT.out _ _ ?_
  clear hT
  dsimp only [dropN]
  change Code.wp _ _ _ _ ((w.alloc (.cells (cellsShow which va).toArray 63)).alloc (.cells (cellsShow which vb).toArray 63))
  rw [← HW.out.1, ← HW.out.2]
  clear HW
  go_wp2_with (first
    | (refine wpList_load_sum rfl _ rfl w.heap.size 0 rfl which H0.out.1 ?_)
    | (refine wpList_load_sum rfl _ rfl (w.heap.size + 1) 0 rfl which H0.out.2.1 ?_))
  refine H0.out.2.2.1.mono ?_
  rintro e w3 ⟨rfl, hb⟩
  have HB := Lib.hid (H0.out.2.2.2.trans (hb.mono H0.out.2.2.2.size))
  clear hb
  go_wp2_with fail
  exact bodyPost_ret (results_tmp rfl _ _ _) rfl ⟨rfl, HB.out⟩
set_option maxRecDepth 100000 in
set_option maxHeartbeats 1000000 in
theorem left_show (which : Sum) (va vb : Value) (A : List Sum) (base : Nat) (w : World) (ha : TwinS w base va A) (hb : SumsAt w vb A) (hl : A.length < 900000) :
    Calls Tryz.prog 32 #[shV which va, shV which vb] w fun e w' => e = .returned (.bool true) ∧ Below w.heap.size w w' := by
  obtain ⟨w1, hw1⟩ : ∃ x, x = w.alloc (.cells (cellsShow which va).toArray 63) := ⟨_, rfl⟩
  obtain ⟨w2, hw2⟩ : ∃ x, x = w1.alloc (.cells (cellsShow which vb).toArray 63) := ⟨_, rfl⟩
  have r1 : w1.rangeAt w.heap.size 0 (cellsShow which va) := by rw [hw1]; exact range_new w _ _ _ rfl
  have r2 : w2.rangeAt w1.heap.size 0 (cellsShow which vb) := by rw [hw2]; exact range_new w1 _ _ _ rfl
  have b1 : Below w.heap.size w w1 := by rw [hw1]; exact al (Below.refl _ _) _
  have b2 : Below w1.heap.size w1 w2 := by rw [hw2]; exact al (Below.refl _ _) _
  have r12 := (Keeps.of_below (X := fun _ => False) b2).range r1 (fun h => h)
  have b12 := b1.trans (b2.mono b1.size)
  have s1 : w1.heap.size = w.heap.size + 1 := by rw [hw1, World.size_alloc]
  rw [s1] at r2
  have hcall := left_sums A va vb base w2 ((ha.below b1).below b2) (hb.below b12 (Nat.le_refl _)) hl
  have H0 := Lib.hid (And.intro (which_at r12) (And.intro (which_at r2) (And.intro hcall b12)))
  have HW := Lib.hid (And.intro hw1 hw2)
  have g1 := slice_at r12
  have g2 := slice_at r2
  have heq := eq_sums which which
  rw [decide_eq_true rfl] at heq
  clear r1 r2 b1 b2 r12 b12 s1 hw1 hw2 ha hb hl hcall
  unfold shV
  go_enter Tryz.func32, Tryz.ntmps32
  refine Alm.wp_cut 1 ?_
  intro T hT
  dsimp only [cutN]
  replace hT := Lib.hid hT
  go_wp2_with fail
  refine hT.out _ _ ?_
  clear hT
  dsimp only [dropN]
  change Code.wp _ _ _ _ ((w.alloc (.cells (cellsShow which va).toArray 63)).alloc (.cells (cellsShow which vb).toArray 63))
  rw [← HW.out.1, ← HW.out.2]
  clear HW
  go_wp2_with (first
    | (refine wpList_load_sum rfl _ rfl w.heap.size 0 rfl which H0.out.1 ?_)
    | (refine wpList_load_sum rfl _ rfl (w.heap.size + 1) 0 rfl which H0.out.2.1 ?_))
  refine H0.out.2.2.1.mono ?_
  rintro e w3 ⟨rfl, hb⟩
  have HB := Lib.hid (H0.out.2.2.2.trans (hb.mono H0.out.2.2.2.size))
  clear hb
  go_wp2_with fail
  exact bodyPost_ret (results_tmp rfl _ _ _) rfl ⟨rfl, HB.out⟩
set_option maxRecDepth 100000 in
theorem build_she (b0 b1 b2 b3 b4 b5 b6 b7 b8 b9 b10 b11 b12 b13 b14 b15 b16 b17 b18 b19 b20 b21 b22 b23 b24 b25 b26 b27 b28 b29 b30 b31 : UInt8) (a : Option Addr) (n c : Nat) (w : World) : (Instr.build 63 #[(0, .agg #[.int .u8 ((b0.toNat : Nat) : Int), .int .u8 ((b1.toNat : Nat) : Int), .int .u8 ((b2.toNat : Nat) : Int), .int .u8 ((b3.toNat : Nat) : Int), .int .u8 ((b4.toNat : Nat) : Int), .int .u8 ((b5.toNat : Nat) : Int), .int .u8 ((b6.toNat : Nat) : Int), .int .u8 ((b7.toNat : Nat) : Int), .int .u8 ((b8.toNat : Nat) : Int), .int .u8 ((b9.toNat : Nat) : Int), .int .u8 ((b10.toNat : Nat) : Int), .int .u8 ((b11.toNat : Nat) : Int), .int .u8 ((b12.toNat : Nat) : Int), .int .u8 ((b13.toNat : Nat) : Int), .int .u8 ((b14.toNat : Nat) : Int), .int .u8 ((b15.toNat : Nat) : Int), .int .u8 ((b16.toNat : Nat) : Int), .int .u8 ((b17.toNat : Nat) : Int), .int .u8 ((b18.toNat : Nat) : Int), .int .u8 ((b19.toNat : Nat) : Int), .int .u8 ((b20.toNat : Nat) : Int), .int .u8 ((b21.toNat : Nat) : Int), .int .u8 ((b22.toNat : Nat) : Int), .int .u8 ((b23.toNat : Nat) : Int), .int .u8 ((b24.toNat : Nat) : Int), .int .u8 ((b25.toNat : Nat) : Int), .int .u8 ((b26.toNat : Nat) : Int), .int .u8 ((b27.toNat : Nat) : Int), .int .u8 ((b28.toNat : Nat) : Int), .int .u8 ((b29.toNat : Nat) : Int), .int .u8 ((b30.toNat : Nat) : Int), .int .u8 ((b31.toNat : Nat) : Int)]), (1, .slice a n c)]).run Tryz.prog w = .ok (.agg #[.int .u8 ((b0.toNat : Nat) : Int), .int .u8 ((b1.toNat : Nat) : Int), .int .u8 ((b2.toNat : Nat) : Int), .int .u8 ((b3.toNat : Nat) : Int), .int .u8 ((b4.toNat : Nat) : Int), .int .u8 ((b5.toNat : Nat) : Int), .int .u8 ((b6.toNat : Nat) : Int), .int .u8 ((b7.toNat : Nat) : Int), .int .u8 ((b8.toNat : Nat) : Int), .int .u8 ((b9.toNat : Nat) : Int), .int .u8 ((b10.toNat : Nat) : Int), .int .u8 ((b11.toNat : Nat) : Int), .int .u8 ((b12.toNat : Nat) : Int), .int .u8 ((b13.toNat : Nat) : Int), .int .u8 ((b14.toNat : Nat) : Int), .int .u8 ((b15.toNat : Nat) : Int), .int .u8 ((b16.toNat : Nat) : Int), .int .u8 ((b17.toNat : Nat) : Int), .int .u8 ((b18.toNat : Nat) : Int), .int .u8 ((b19.toNat : Nat) : Int), .int .u8 ((b20.toNat : Nat) : Int), .int .u8 ((b21.toNat : Nat) : Int), .int .u8 ((b22.toNat : Nat) : Int), .int .u8 ((b23.toNat : Nat) : Int), .int .u8 ((b24.toNat : Nat) : Int), .int .u8 ((b25.toNat : Nat) : Int), .int .u8 ((b26.toNat : Nat) : Int), .int .u8 ((b27.toNat : Nat) : Int), .int .u8 ((b28.toNat : Nat) : Int), .int .u8 ((b29.toNat : Nat) : Int), .int .u8 ((b30.toNat : Nat) : Int), .int .u8 ((b31.toNat : Nat) : Int), .slice a n c]) w := by kernel_rfl
theorem build_show (x : PE) (w : World) : (Instr.build 63 #[(0, sv x.1), (1, peV x)]).run Tryz.prog w = .ok (shV x.1 (peV x)) w := by
  obtain ⟨b0, b1, b2, b3, b4, b5, b6, b7, b8, b9, b10, b11, b12, b13, b14, b15, b16, b17, b18, b19, b20, b21, b22, b23, b24, b25, b26, b27, b28, b29, b30, b31, h⟩ := list32x x.1.toList (by simp)
  have h1 : cellsOf x.1 = [.int .u8 ((b0.toNat : Nat) : Int), .int .u8 ((b1.toNat : Nat) : Int), .int .u8 ((b2.toNat : Nat) : Int), .int .u8 ((b3.toNat : Nat) : Int), .int .u8 ((b4.toNat : Nat) : Int), .int .u8 ((b5.toNat : Nat) : Int), .int .u8 ((b6.toNat : Nat) : Int), .int .u8 ((b7.toNat : Nat) : Int), .int .u8 ((b8.toNat : Nat) : Int), .int .u8 ((b9.toNat : Nat) : Int), .int .u8 ((b10.toNat : Nat) : Int), .int .u8 ((b11.toNat : Nat) : Int), .int .u8 ((b12.toNat : Nat) : Int), .int .u8 ((b13.toNat : Nat) : Int), .int .u8 ((b14.toNat : Nat) : Int), .int .u8 ((b15.toNat : Nat) : Int), .int .u8 ((b16.toNat : Nat) : Int), .int .u8 ((b17.toNat : Nat) : Int), .int .u8 ((b18.toNat : Nat) : Int), .int .u8 ((b19.toNat : Nat) : Int), .int .u8 ((b20.toNat : Nat) : Int), .int .u8 ((b21.toNat : Nat) : Int), .int .u8 ((b22.toNat : Nat) : Int), .int .u8 ((b23.toNat : Nat) : Int), .int .u8 ((b24.toNat : Nat) : Int), .int .u8 ((b25.toNat : Nat) : Int), .int .u8 ((b26.toNat : Nat) : Int), .int .u8 ((b27.toNat : Nat) : Int), .int .u8 ((b28.toNat : Nat) : Int), .int .u8 ((b29.toNat : Nat) : Int), .int .u8 ((b30.toNat : Nat) : Int), .int .u8 ((b31.toNat : Nat) : Int)] := by unfold cellsOf; rw [h]; rfl
  show (Instr.build 63 #[(0, .agg (cellsOf x.1).toArray), (1, .slice x.2.1 x.2.2.1 x.2.2.2)]).run Tryz.prog w = .ok (.agg (cellsOf x.1 ++ [Value.slice x.2.1 x.2.2.1 x.2.2.2]).toArray) w
  rw [h1]
  exact build_she b0 b1 b2 b3 b4 b5 b6 b7 b8 b9 b10 b11 b12 b13 b14 b15 b16 b17 b18 b19 b20 b21 b22 b23 b24 b25 b26 b27 b28 b29 b30 b31 _ _ _ w
theorem exec_build_show {f : Operand → Value} {o : Oper} (parts : Array (Nat × Operand)) (ho : o.op = .build 63 parts) (x : PE) (hp : (parts.toList.map fun (i, y) => (i, f y)) = [(0, sv x.1), (1, peV x)]) (W : World) :
    (execOp f o).run Tryz.prog W = .ok (.value (shV x.1 (peV x))) W := by
  have : (parts.map fun (i, y) => (i, f y)) = #[(0, sv x.1), (1, peV x)] := by
    apply Array.toList_inj.1
    rw [Array.toList_map]; exact hp
  unfold execOp
  simp only [ho, Sem.run_bind, Sem.run_pure, Result.andThen_ok, this, build_show]
theorem lie_base {W : World} {b b' size : Nat} {v : Value} {xs : List (List Value)} (h : Lie W b size v xs) (hb : b' ≤ b) : Lie W b' size v xs := by
  rcases h with h | ⟨g, cap, rfl, h1, h2⟩
  · exact .inl h
  · exact .inr ⟨g, cap, rfl, Nat.le_trans hb h1, h2⟩
set_option maxRecDepth 100000 in
set_option maxHeartbeats 1000000 in
theorem twin_show (which : Sum) (v : Value) (l : List Sum) (w : World) (hs : SumsAt w v l) (hl : l.length < 900000) :
    Calls Tryz.prog 25 #[shV which v] w fun e w' => ∃ v', e = .returned (shV which v') ∧ TwinS w' w.heap.size v' l ∧ Below w.heap.size w w' := by
  obtain ⟨w1, hw1⟩ : ∃ x, x = w.alloc (.cells (cellsShow which v).toArray 63) := ⟨_, rfl⟩
  obtain ⟨w2, hw2⟩ : ∃ x, x = w1.alloc (.cells (cellsShow zeroSum (.slice none 0 0)).toArray 63) := ⟨_, rfl⟩
  have r1 : w1.rangeAt w.heap.size 0 (cellsShow which v) := by rw [hw1]; exact range_new w _ _ _ rfl
  have t2 : w2.there w1.heap.size 0 33 := by
    have hsz : (cellsShow zeroSum (.slice none 0 0)).toArray.size = 33 := by rw [List.size_toArray, length_cellsShow]
    have := there_new w1 (cellsShow zeroSum (.slice none 0 0)).toArray 63
    rw [hsz] at this
    rw [hw2]; exact this
  have b1 : Below w.heap.size w w1 := by rw [hw1]; exact al (Below.refl _ _) _
  have b2 : Below w1.heap.size w1 w2 := by rw [hw2]; exact al (Below.refl _ _) _
  have r12 := (Keeps.of_below (X := fun _ => False) b2).range r1 (fun h => h)
  have b12 := b1.trans (b2.mono b1.size)
  have s1 : w1.heap.size = w.heap.size + 1 := by rw [hw1, World.size_alloc]
  rw [s1] at t2
  have H0 := Lib.hid (And.intro r12 (And.intro t2 (And.intro b12 (hs.below b12 (Nat.le_refl _)))))
  have HW := Lib.hid (And.intro hw1 hw2)
  clear r1 t2 b1 b2 r12 b12 s1 hw1 hw2 hs
  unfold shV
  go_enter Tryz.func25, Tryz.ntmps25
  refine Alm.wp_cut 1 ?_
  intro T hT
  dsimp only [cutN]
  replace hT := Lib.hid hT
  go_wp2_with fail
  refine hT.out _ _ ?_
  clear hT
  dsimp only [dropN]
  change Code.wp _ _ _ _ ((w.alloc (.cells (cellsShow which v).toArray 63)).alloc (.cells (cellsShow zeroSum (.slice none 0 0)).toArray 63))
  rw [← HW.out.1, ← HW.out.2]
  clear HW
  go_wp2_with fail
  refine wp_region_sched (fun V => V.rangeAt w.heap.size 0 (cellsShow which v)) [.t 0, .t 2, .s 1, .e 3 true, .e 4 true, .t 5, .e 6 false] (by kernel_rfl) (by kernel_rfl) (by intro c a d v w h; cases d <;> exact h) ?_
  have H1 := Lib.hid (And.intro (show w2.drew.rangeAt w.heap.size 0 (cellsShow which v) from H0.out.1) (And.intro ((Keeps.of_below (X := fun _ => False) (Below.refl w2.heap.size w2).drew).there H0.out.2.1 (by decide) (fun h => h)) (And.intro H0.out.2.2.1.drew (H0.out.2.2.2.below (Below.refl _ _).drew (Nat.le_refl _)))))
  clear H0
  generalize w2.drew = V at *
  iterate 2
    refine wpS_t rfl (v := ?_) (by rfl) (fun W => ?_) ?_
    rotate_left
    · go_simp
      try rfl
    try simp only [Act.put, List.setIfInBounds_toArray, List.set_cons_zero, List.set_cons_succ]
  refine wpS_load_sum (by exact H1.out.1) rfl (by rfl) _ (by rfl) w.heap.size 0 (by rfl) which (fun W hW => which_at hW) ?_
  try simp only [Act.put, List.setIfInBounds_toArray, List.set_cons_zero, List.set_cons_succ]
  refine wpS_k rfl (by rfl) (fun K hK => ?_)
  have g := slice_at H1.out.1
  go_simp
  refine hK _ _ ⟨by exact H1.out.1, ?_⟩; clear hK K
  try simp only [Act.put, List.setIfInBounds_toArray, List.set_cons_zero, List.set_cons_succ]
  clear g
  refine wpS_k rfl (by rfl) (fun K hK => ?_)
  go_simp
  refine (twin_sums l v V H1.out.2.2.2 hl).mono ?_
  rintro e V1 ⟨v', rfl, ht, hb⟩
  have kk := Keeps.of_below (X := fun _ => False) hb
  obtain ⟨g, cap, rfl, ht'⟩ := id ht
  have h1c : (Value.slice (some ⟨g, 0, none⟩) l.length cap).oneCell' = true := rfl
  have hgt : ∀ i, (Value.slice (some ⟨g, 0, none⟩) l.length cap).ownBlock = some i → V.heap.size ≤ i := fun i hi => ((TwinS.lie ht).lt i hi).1
  have H2 := Lib.hid (And.intro (kk.range H1.out.1 (fun h => h)) (And.intro (kk.there H1.out.2.1 (by decide) (fun h => h)) (And.intro (H1.out.2.2.1.trans (hb.mono H1.out.2.2.1.size)) (And.intro ht (And.intro hgt (there_lt H1.out.2.1 (by decide)))))))
  clear kk hb ht hgt ht'
  refine hK _ _ ⟨by exact H2.out.1, ?_⟩; clear hK K
  try simp only [Act.put, List.setIfInBounds_toArray, List.set_cons_zero, List.set_cons_succ]
  refine wpS_t rfl (v := shV which (.slice (some ⟨g, 0, none⟩) l.length cap)) (by rfl) (fun W => exec_build_show _ rfl (which, some ⟨g, 0, none⟩, l.length, cap) (by rfl) W) ?_
  try simp only [Act.put, List.setIfInBounds_toArray, List.set_cons_zero, List.set_cons_succ]
  have hsz' : (cellsShow which (.slice (some ⟨g, 0, none⟩) l.length cap)).toArray.size = 33 := by rw [List.size_toArray, length_cellsShow]
  refine wpS_e rfl (by rfl) (fun K hK => ?_)
  refine wp_store_mid 63 _ _ rfl (w.heap.size + 1) 0 (cellsShow which (.slice (some ⟨g, 0, none⟩) l.length cap)).toArray (by rfl) (by rfl) (by rw [hsz']; exact H2.out.2.1) (by rw [hsz']; exact infoShow) (one_cellsShow which h1c) ?_
  refine hK _ _ ?_; clear hK K
  try simp only [Act.put]
  refine wpS_done ?_
  go_wp2_with fail
  have k2 := keeps_setCells_ (w.heap.size + 1) (cellsShow which (.slice (some ⟨g, 0, none⟩) l.length cap)) 0 V1
  have ht9 := H2.out.2.2.2.1.keep k2 (fun x hx e => by have h1 := H2.out.2.2.2.2.1 x hx; have h2 := H2.out.2.2.2.2.2; omega)
  have hVs : w.heap.size ≤ V.heap.size := by have := H2.out.2.2.2.2.2; omega
  have ht8 : TwinS (V1.setCells (w.heap.size + 1) 0 (cellsShow which (.slice (some ⟨g, 0, none⟩) l.length cap))) w.heap.size (.slice (some ⟨g, 0, none⟩) l.length cap) l := by
    obtain ⟨g', cap', he, hl⟩ := ht9
    exact ⟨g', cap', he, lie_base hl hVs⟩
  exact bodyPost_ret (results_mid Tryz.results25 _ _ (w.heap.size + 1) 0 (cellsShow which (.slice (some ⟨g, 0, none⟩) l.length cap)) _ rfl (range_stored _ _ _ _ (by rw [length_cellsShow]; exact World.there_setCells H2.out.2.1 _ _ _)) Tryz.underlying63 rfl (by rw [length_cellsShow]; exact infoShow)) rfl
    ⟨_, rfl, ht8, setCells_below _ (by omega) _ _ _ _ H2.out.2.2.1⟩
end Go.Proofs.YtfmgoehnbaiamaaGreatDoor
