/-
  Joined: TW1, TW2.
-/
import Derived.Test.YtdkcndgehgmadaaGreatDoorZHA
import Derived.Test.YtdkcndgehgmadaaGreatDoorE0
import Derived.Test.YtdkcndgehgmadaaGreatDoorBL8
-- Walk: a copy of sums, with a mark behind it (TwinSums).
open Go Go.RowKit Alm
namespace Go.Proofs.YtdkcndgehgmadaaGreatDoor
theorem build_77 (w : World) : (Instr.build 24 #[(0, .int .u8 77)]).run Tryz.prog w = .ok (.agg (cellsOf (mkS 77)).toArray) w := by rw [mkS_eq]; kernel_rfl
set_option maxRecDepth 100000 in
theorem wpList_build_77 {ops : Array Oper} {rest : List Oper} {op : Oper} {a : Act} {w : World} {Q : Exit → Act → World → Prop} (hgd : op.guard = none) (ho : op.op = .build 24 #[(0, .const (.int .u8 77))])
    (h : wpList Tryz.prog ops Q rest (a.put op.dst (sv (mkS 77))) w) : wpList Tryz.prog ops Q (op :: rest) a w :=
  wpList_build_by hgd 24 _ ho _ (fun W => by
    have e : ((#[(0, Operand.const (.int .u8 77))] : Array (Nat × Operand)).map fun (i, x) => (i, a.eval x)) = #[(0, .int .u8 77)] := by simp [Act.eval]
    rw [e]
    exact build_77 W) h
/-- A copy of sums: they lie with a mark behind them. -/
def TwinS (W : World) (base : Nat) (v : Value) (l : List Sum) : Prop := ∃ g cap, v = .slice (some ⟨g, 0, none⟩) l.length cap ∧ Lie W base 32 (.slice (some ⟨g, 0, none⟩) (l.length + 1) cap) ((l ++ [mkS 77]).map cellsOf)
theorem TwinS.lie {W : World} {base : Nat} {v : Value} {l : List Sum} (h : TwinS W base v l) : Lie W base 32 v (l.map cellsOf) := by
  obtain ⟨g, cap, rfl, h⟩ := h
  rw [List.map_append] at h
  exact h.front (by rw [List.length_map])
theorem TwinS.sums {W : World} {base : Nat} {v : Value} {l : List Sum} (h : TwinS W base v l) : SumsAt W v l := lie_sums h.lie
theorem TwinS.keep {X : Nat → Prop} {W W' : World} {base : Nat} {v : Value} {l : List Sum} (h : TwinS W base v l) (hk : Keeps X W W') (hx : ∀ k, v.ownBlock = some k → ¬ X k) : TwinS W' base v l := by
  obtain ⟨g, cap, rfl, h⟩ := h
  exact ⟨g, cap, rfl, h.keep hk (fun k hk2 => hx k hk2)⟩
theorem TwinS.below {W W' : World} {base : Nat} {v : Value} {l : List Sum} (h : TwinS W base v l) (hb : Below W.heap.size W W') : TwinS W' base v l := h.keep (Keeps.of_below (X := fun _ => False) hb) (fun _ _ h => h)
theorem twin_nums {n : Nat} (h : n < 900000) : wrap64 ((n : Int) + 1) = ((n + 1 : Nat) : Int) := by unfold wrap64; omega
set_option maxRecDepth 100000 in
set_option maxHeartbeats 1000000 in
theorem twin_sums (l : List Sum) (v : Value) (w : World) (hv : SumsAt w v l) (hl : l.length < 900000) : Calls Tryz.prog 8 #[v] w fun e w' => ∃ v', e = .returned v' ∧ TwinS w' w.heap.size v' l ∧ Below w.heap.size w w' := by
  have hv0 := hv
  obtain ⟨va, vc, rfl, hc1, hc2, h3⟩ := hv
  obtain ⟨n, hn⟩ : ∃ n, n = l.length := ⟨_, rfl⟩
  rw [← hn] at hc1 hv0 hl ⊢
  obtain ⟨n1, hn1⟩ : ∃ m, m = n + 1 := ⟨_, rfl⟩
  have hw1 := twin_nums hl
  rw [← hn1] at hw1
  obtain ⟨i0, z0, hi0, hz0, hs0, hb0, hzs0⟩ := info_sumB
  have HI := Lib.hid (And.intro hi0 (And.intro hz0 (And.intro hs0 hb0)))
  have HV := Lib.hid (And.intro hv0 (And.intro hn (And.intro hc1 (And.intro hc2 (And.intro hl hn1)))))
  clear hv0 hn hc1 hc2 hl hn1 hi0 hz0 hs0 hb0 hzs0 h3
  go_enter Tryz.func8, Tryz.ntmps8
  go_wp2_with (at_make; refine Hid.out ?_)
  refine Lib.hid ?_
  try rw [hw1]
  refine wpList_make_own _ rfl _ _ _ rfl w.heap.size 24 i0 z0 32 Tryz.underlying22 HI.out.1 HI.out.2.1 HI.out.2.2.1 .i64 .i64 (n1 : Int) n1 rfl (by rfl) rfl (by rw [HI.out.2.2.2]; have := HV.out; omega) (by unfold maxLen; have := HV.out; omega) (Nat.le_refl _) ?_
  intro w2 ho2 hg2
  have hb2 : Below w.heap.size w w2 := Keeps.below (B := w.heap.size) (Keeps.of_grown (X := fun _ => False) hg2 (fun k hk => by cases hk)) (Nat.le_refl _) (fun _ h => h.elim)
  have hlie : Lie w2 w.heap.size 32 (.slice (some ⟨w.heap.size, 0, none⟩) 0 n1) [] := lie_own (xs := []) ho2 rfl (fun x hx => by cases hx)
  have H2 := Lib.hid (And.intro (Grown.start (B := w2.heap.size) hlie (Nat.le_refl _)) (And.intro hb2 hg2.size))
  clear ho2 hg2 hb2 hlie
  go_wp2_with fail
  go_loopw [3, 4] (fun tv iv W => ∃ i : Nat, i ≤ n ∧ iv = .int .i64 (i : Int) ∧ (∃ a c, tv = .slice a i c) ∧ Grown W w.heap.size 32 w2.heap.size (.slice (some ⟨w.heap.size, 0, none⟩) 0 n1) [] tv ((l.take i).map cellsOf) ∧ Below w.heap.size w W ∧ w2.heap.size ≤ W.heap.size) (fun _ iv _ => n - (intOf iv).toNat)
  case atStart => exact ⟨0, Nat.zero_le _, rfl, ⟨_, _, rfl⟩, H2.out.1, H2.out.2.1, Nat.le_refl _⟩
  case round =>
    obtain ⟨i, hi, rfl, ⟨ta, tc, rfl⟩, hG, hB, hS⟩ := hrel
    have HG := Lib.hid (And.intro hG (And.intro hB hS))
    clear hG hB hS
    by_cases hlt : i < n
    · obtain ⟨d1, d2, d3, d4⟩ := dec_lt hlt
      have hil : i < l.length := by rw [← HV.out.2.1]; exact hlt
      have hne : l ≠ [] := by intro h; rw [h] at hil; simp at hil
      obtain ⟨b, o, cap', hvf, _, _, hr⟩ := sums_form8 HV.out.1 hne
      simp only [Value.slice.injEq] at hvf
      obtain ⟨rfl, -, rfl⟩ := hvf
      have hx := range_below HG.out.2.1 (range_at hr hil) (range_lt (range_at hr hil) (by intro h; have := length_cellsOf l[i]; rw [h] at this; cases this))
      have htk := List.take_succ_eq_append_getElem hil
      generalize l[i] = s at *
      have HX := Lib.hid (And.intro hx htk)
      clear hx htk hr hne hil
      go_wp2_with (first
        | (refine wpList_load_sum rfl _ rfl b (o + i * 32) rfl s HX.out.1 ?_)
        | (refine wpList_lit_sum rfl _ rfl s rfl ?_; refine Hid.out ?_))
      refine Lib.hid ?_
      try simp only [Act.put, List.setIfInBounds_toArray, List.set_cons_zero, List.set_cons_succ]
      have hba := Alm.al (Below.refl wr.heap.size wr) (.cells (cellsOf s).toArray 24)
      refine wpList_append_sumG (base := w.heap.size) (B := w2.heap.size) (v0 := .slice (some ⟨w.heap.size, 0, none⟩) 0 n1) (xs := []) (ys := (l.take i).map cellsOf) rfl _ _ rfl rfl (HG.out.1.below hba) H2.out.2.1.size (Nat.le_trans HG.out.2.2 hba.size) ⟨wr.heap.size, 0, none⟩ 1 s rfl (fun j u hj => by rw [Addr.add_mid]; exact range_new wr (cellsOf s).toArray 24 _ rfl j u hj) (by rw [List.length_map, List.length_take]; have := HV.out; simp; omega) ?_
      intro v4 V4 hg4 hk4 hf4
      obtain ⟨a4, c4, rfl⟩ := hf4
      have hb4 := hk4.below (B := w.heap.size) (Nat.le_trans HG.out.2.1.size hba.size) (fun k h => by
        rcases h with h | h
        · simp only [Value.ownBlock, Option.some.injEq] at h; omega
        · exact Nat.le_trans H2.out.2.1.size h)
      rw [← List.map_singleton (f := cellsOf), ← List.map_append, ← HX.out.2] at hg4
      have hln : ([] : List (List Value)).length + ((l.take i).map cellsOf).length + 1 = i + 1 := by rw [List.length_map, List.length_take, List.length_nil]; have := HV.out; omega
      rw [hln] at hg4 ⊢
      have H4 := Lib.hid (And.intro hg4 (And.intro ((HG.out.2.1.trans (hba.mono HG.out.2.1.size)).trans hb4) (Nat.le_trans HG.out.2.2 (Nat.le_trans hba.size hk4.size))))
      clear hg4 hb4 hk4 hba hln
      go_wp2_with fail
      have h4 := H4.out
      have hwi := wrapn (k := i) (by have := HV.out; omega)
      try rw [hwi]
      clear hwi
      clear H4 HG HX HV H2 HI d1 d2 d3 d4
      refine ⟨⟨i + 1, hlt, rfl, ⟨_, _, rfl⟩, h4⟩, ?_⟩
      clear h4
      simp only [intOf, Int.toNat_natCast]
      omega
    · obtain rfl : i = n := by omega
      have htk : l.take i = l := List.take_of_length_le (by rw [← HV.out.2.1]; exact Nat.le_refl _)
      rw [htk] at HG
      clear htk
      have hne : HG = HG := rfl
      clear hne
      go_wp2_with (first
        | (refine wpList_build_77 rfl rfl ?_)
        | (refine wpList_lit_sum rfl _ rfl (mkS 77) rfl ?_; refine Hid.out ?_))
      refine Lib.hid ?_
      try simp only [Act.put, List.setIfInBounds_toArray, List.set_cons_zero, List.set_cons_succ]
      have hba := Alm.al (Below.refl wr.heap.size wr) (.cells (cellsOf (mkS 77)).toArray 24)
      refine wpList_append_sumG (base := w.heap.size) (B := w2.heap.size) (v0 := .slice (some ⟨w.heap.size, 0, none⟩) 0 n1) (xs := []) (ys := l.map cellsOf) rfl _ _ rfl rfl (HG.out.1.below hba) H2.out.2.1.size (Nat.le_trans HG.out.2.2 hba.size) ⟨wr.heap.size, 0, none⟩ 1 (mkS 77) rfl (fun j u hj => by rw [Addr.add_mid]; exact range_new wr (cellsOf (mkS 77)).toArray 24 _ rfl j u hj) (by rw [List.length_map]; have := HV.out; simp; omega) ?_
      intro v4 V4 hg4 hk4 hf4
      have hb4 := hk4.below (B := w.heap.size) (Nat.le_trans HG.out.2.1.size hba.size) (fun k h => by
        rcases h with h | h
        · simp only [Value.ownBlock, Option.some.injEq] at h; omega
        · exact Nat.le_trans H2.out.2.1.size h)
      rw [← List.map_singleton (f := cellsOf), ← List.map_append] at hg4
      have hlie := hg4.now
      rw [List.nil_append] at hlie
      have hcap : ∃ g cap, v4 = .slice (some ⟨g, 0, none⟩) (i + 1) cap ∧ i + 1 ≤ cap := by
        rcases hlie with ⟨_, h0⟩ | ⟨g, cap, hv4, _, _, hnc, _⟩
        · simp at h0
        · have e : ((l ++ [mkS 77]).map cellsOf).length = i + 1 := by rw [List.length_map, List.length_append, List.length_singleton, ← HV.out.2.1]
          rw [e] at hv4 hnc
          exact ⟨g, cap, hv4, hnc⟩
      obtain ⟨g, cap, rfl, hcp⟩ := hcap
      have hi3 : (i : Int) ≤ (cap : Int) := by omega
      have hi4 : i ≤ cap := by omega
      have HF := Lib.hid (show TwinS V4 w.heap.size (.slice (some ⟨g, 0, none⟩) i cap) l from ⟨g, cap, by rw [← HV.out.2.1], by rw [← HV.out.2.1]; exact hlie⟩)
      have HB4 := Lib.hid ((HG.out.2.1.trans (hba.mono HG.out.2.1.size)).trans hb4)
      clear hg4 hb4 hk4 hba hlie hf4
      go_wp2_with fail
      refine bodyPost_ret (results_tmp rfl _ _ _) rfl ?_
      exact ⟨_, rfl, HF.out, HB4.out⟩
end Go.Proofs.YtdkcndgehgmadaaGreatDoor
-- Walk: a copy of sums is what it was made of (LeftSums).
open Go Go.RowKit Alm
namespace Go.Proofs.YtdkcndgehgmadaaGreatDoor
theorem left_nums {n cap : Nat} (h : n < 900000) (hc : n + 1 ≤ cap) : wrap64 ((n : Int) + 1) = ((n + 1 : Nat) : Int) ∧ (n : Int) < (cap : Int) ∧ ¬ (cap : Int) ≤ (n : Int) ∧ decide ((cap : Int) ≤ (n : Int)) = false ∧ decide (cap ≤ n) = false ∧ ((n + 1 : Nat) : Int) ≤ (cap : Int) ∧ (0 : Int) ≤ (n : Int) ∧ (n : Int) < ((n + 1 : Nat) : Int) ∧ ¬ cap ≤ n ∧ n + 1 ≤ cap := by
  refine ⟨by unfold wrap64; omega, by omega, by omega, by simp; omega, by simp; omega, by omega, by omega, by omega, by omega, hc⟩
set_option maxRecDepth 100000 in
set_option maxHeartbeats 1000000 in
theorem left_sums (l : List Sum) (vt v : Value) (base : Nat) (w : World) (ht : TwinS w base vt l) (hv : SumsAt w v l) (hl : l.length < 900000) : Calls Tryz.prog 14 #[vt, v] w fun e w' => e = .returned (.bool true) ∧ Below w.heap.size w w' := by
  have hv0 := hv
  obtain ⟨va, vc, rfl, hc1, hc2, h3⟩ := hv
  have ht0 := ht
  obtain ⟨g, cap, rfl, hlie⟩ := ht
  have hcp : l.length + 1 ≤ cap ∧ w.rangeAt g 0 (cellsAll (l ++ [mkS 77])) := by
    rcases hlie with ⟨h0, _⟩ | ⟨g', cap', hv4, _, _, hnc, _, hr, _⟩
    · cases h0
    · simp only [Value.slice.injEq, Option.some.injEq, Addr.mk.injEq, and_true] at hv4
      obtain ⟨rfl, _, rfl⟩ := hv4
      rw [List.length_map, List.length_append, List.length_singleton] at hnc
      rw [flat_cells] at hr
      exact ⟨hnc, hr⟩
  obtain ⟨n, hn⟩ : ∃ n, n = l.length := ⟨_, rfl⟩
  rw [← hn] at hc1 hv0 hl hcp ⊢
  obtain ⟨k1, k2, k3, k4, k5, k6, k7, k8, k9, k10⟩ := left_nums hl hcp.1
  obtain ⟨n1, hn1⟩ : ∃ m, m = n + 1 := ⟨_, rfl⟩
  rw [← hn1] at k1 k6 k8 k10
  have HV := Lib.hid (And.intro hv0 (And.intro hn (And.intro hc1 (And.intro hc2 (And.intro hl (And.intro hn1 hcp.2))))))
  clear hv0 hn hc1 hc2 hl hn1 hcp hlie ht0 h3
  have hes := eq_sums_same
  go_enter Tryz.func14, Tryz.ntmps14
  go_wp2_with fail
  go_loopw [5] (fun iv W => ∃ i : Nat, i ≤ n ∧ iv = .int .i64 (i : Int) ∧ Below w.heap.size w W) (fun iv _ => n - (intOf iv).toNat)
  case atStart => exact ⟨0, Nat.zero_le _, rfl, Below.refl _ _⟩
  case round =>
    obtain ⟨i, hi, rfl, hB⟩ := hrel
    by_cases hlt : i < n
    · obtain ⟨d1, d2, d3, d4⟩ := dec_lt hlt
      have hil : i < l.length := by rw [← HV.out.2.1]; exact hlt
      have hne : l ≠ [] := by intro h; rw [h] at hil; simp at hil
      obtain ⟨b, o, cap', hvf, _, _, hr⟩ := sums_form8 HV.out.1 hne
      simp only [Value.slice.injEq] at hvf
      obtain ⟨rfl, -, rfl⟩ := hvf
      have hx := range_below hB (range_at hr hil) (range_lt (range_at hr hil) (by intro h; have := length_cellsOf l[i]; rw [h] at this; cases this))
      have hr2 := range_at HV.out.2.2.2.2.2.2 (i := i) (by rw [List.length_append, List.length_singleton]; omega)
      rw [List.getElem_append_left hil, Nat.zero_add] at hr2
      have hx2 := range_below hB hr2 (range_lt hr2 (by intro h; have := length_cellsOf l[i]; rw [h] at this; cases this))
      have hd := (Below.refl wr.heap.size wr).drew
      generalize l[i] = s at *
      have HX := Lib.hid (And.intro ((Keeps.of_below (X := fun _ => False) hd).range hx (fun h => h)) (And.intro ((Keeps.of_below (X := fun _ => False) hd).range hx2 (fun h => h)) hB.drew))
      clear hx hx2 hr hr2 hne hil hd hB
      go_wp2_with fail
      refine wp_region_sched (fun V => V = wr.drew) [.t 0, .t 1, .t 2, .t 4, .t 5, .t 6, .s 3, .s 7, .t 8] (by kernel_rfl) (by kernel_rfl) (by intro c a d v w h; cases d <;> exact h) ?_
      generalize wr.drew = V at *
      iterate 6
        refine wpS_t rfl (v := ?_) (by rfl) (fun W => ?_) ?_
        rotate_left
        · go_simp
          try rfl
        try simp only [Act.put, List.setIfInBounds_toArray, List.set_cons_zero, List.set_cons_succ]
      refine wpS_load_mid rfl rfl (by rfl) _ _ rfl g (i * 32) (by rfl) (cellsOf s) _ (fun W hW => by rw [hW]; exact HX.out.2.1) Tryz.underlying24 rfl (by rw [length_cellsOf]; exact infoSum) ?_
      try simp only [Act.put, List.setIfInBounds_toArray, List.set_cons_zero, List.set_cons_succ]
      refine wpS_load_mid rfl rfl (by rfl) _ _ rfl b (o + i * 32) (by rfl) (cellsOf s) _ (fun W hW => by rw [hW]; exact HX.out.1) Tryz.underlying24 rfl (by rw [length_cellsOf]; exact infoSum) ?_
      try simp only [Act.put, List.setIfInBounds_toArray, List.set_cons_zero, List.set_cons_succ]
      iterate 1
        refine wpS_t rfl (v := ?_) (by rfl) (fun W => ?_) ?_
        rotate_left
        · go_simp
          try rfl
        try simp only [Act.put, List.setIfInBounds_toArray, List.set_cons_zero, List.set_cons_succ]
      refine wpS_done ?_
      go_wp2_with fail
      have hwi := wrapn (k := i) (by have := HV.out; omega)
      try rw [hwi]
      have h9 := HX.out.2.2
      clear hwi HX HV hes k1 k2 k3 k4 k5 k6 k7 k8 k9 k10 d1 d2 d3 d4
      refine ⟨⟨i + 1, hlt, rfl, h9⟩, ?_⟩
      clear h9
      simp only [intOf, Int.toNat_natCast]
      omega
    · obtain rfl : i = n := by omega
      have hr2 := range_at HV.out.2.2.2.2.2.2 (i := i) (by rw [List.length_append, List.length_singleton, ← HV.out.2.1]; omega)
      rw [List.getElem_append_right (by rw [← HV.out.2.1]; omega), Nat.zero_add] at hr2
      simp only [List.getElem_singleton] at hr2
      have hx2 := range_below hB hr2 (range_lt hr2 (by intro h; have := length_cellsOf (mkS 77); rw [h] at this; cases this))
      have HX := Lib.hid (And.intro hx2 hB)
      clear hx2 hr2 hB
      go_wp2_with (first
        | (refine wpList_load_sum rfl _ rfl g (i * 32) rfl (mkS 77) HX.out.1 ?_)
        | (refine wpList_var_sum (by rfl) rfl _ _ rfl (mkS 77) rfl rfl ?_; refine Hid.out ?_))
      refine Lib.hid ?_
      intro W2 hb hr2 ht2 hlt2
      have H2 := Lib.hid (And.intro hr2 (HX.out.2.trans (hb.mono HX.out.2.size)))
      clear hb hr2 ht2 hlt2
      go_wp2_with (first
        | (refine wpList_load_sum rfl _ rfl wr.heap.size 0 rfl (mkS 77) H2.out.1 ?_)
        | (refine wpList_build_77 rfl rfl ?_))
      exact bodyPost_ret (results_tmp rfl _ _ _) rfl ⟨rfl, H2.out.2⟩
end Go.Proofs.YtdkcndgehgmadaaGreatDoor
