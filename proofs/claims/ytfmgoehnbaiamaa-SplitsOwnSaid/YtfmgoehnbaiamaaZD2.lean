/-
  Merged: D7, D8, D9, D10, D11.
-/
import Derived.Test.YtfmgoehnbaiamaaZD1
-- Walk: splits.leads.
open Go Go.RowKit Alm
namespace Go.Proofs.Ytfmgoehnbaiamaa
open Keys (Rise Pr kn)
/-- What leads answers. -/
def LP (w w' : World) (k which : Sum) (bs : List UInt8) (S : List Sum) (r : Ending) : Prop :=
  (∃ T p ve, leadsTo which S = some T ∧ r = .returned (.tuple #[.pointer (some ⟨p, 0, none⟩), .bool true]) ∧ WayAt w' p (wayUp k 256 T (vl k bs)) (boths k 256 T (vl k bs)) ve (endB k bs) ∧ w.heap.size ≤ p) ∨
  (leadsTo which S = none ∧ ∃ x, r = .returned (.tuple #[x, .bool false]))
theorem leads_few {which : Sum} {S : List Sum} {n : Nat} (h : leadsT which n S = none) : ∀ m, leadsT which (n + m) S = none
  | 0 => h
  | m + 1 => by rw [← Nat.add_assoc, leadsT, leads_few h m]
theorem leads_no {which : Sum} {S S' T : List Sum} {n : Nat} (h : leadsT which n S = some (T, S')) (hb : ¬ (kn which).testBit n = true) : leadsT which (n + 1) S = some (em n :: T, S') := by
  rw [leadsT, h]; simp only; rw [if_neg hb]
theorem leads_none {which : Sum} {S T : List Sum} {n : Nat} (h : leadsT which n S = some (T, [])) (hb : (kn which).testBit n = true) : leadsT which (n + 1) S = none := by
  rw [leadsT, h]; simp only; rw [if_pos hb]; simp
theorem leads_yes {which t : Sum} {S T : List Sum} {n m : Nat} (h : leadsT which n S = some (T, S.take (m + 1))) (hb : (kn which).testBit n = true) (ht : S[m]? = some t) : leadsT which (n + 1) S = some (t :: T, S.take m) := by
  obtain ⟨hl, e⟩ := List.getElem?_eq_some_iff.1 ht
  have h1 : S.take (m + 1) = S.take m ++ [t] := by rw [List.take_succ_eq_append_getElem hl, e]
  rw [leadsT, h]; simp only; rw [if_pos hb, h1, if_neg (by simp)]
  simp
theorem leadsTo_end {which : Sum} {S T : List Sum} {m : Nat} (h : leadsT which 256 S = some (T, S.take m)) (hm : m ≤ S.length) : (m = 0 → leadsTo which S = some T) ∧ (m ≠ 0 → leadsTo which S = none) := by
  unfold leadsTo
  rw [h]
  refine ⟨fun e => (by rw [e, List.take_zero]), fun e => ?_⟩
  have : S.take m ≠ [] := fun x => by
    have := congrArg List.length x
    rw [List.length_take, List.length_nil] at this
    omega
  cases hS : S.take m with
  | nil => exact absurd hS this
  | cons a b => rfl
set_option maxRecDepth 100000 in
set_option maxHeartbeats 4000000 in
theorem leads_any (k which : Sum) (v vS : Value) (bs : List UInt8) (S : List Sum) (w : World) (hv : BytesAt w v bs) (hs : SumsAt w vS S) (hS : S.length < 100000) (hbs : bs.length < 140737488355000) :
    Calls Try.prog 71 #[sv k, v, shV which vS] w fun r w' => LP w w' k which bs S r ∧ Below w.heap.size w w' := by
  have hb0 := al (al (Below.refl _ w) (.cells (cellsOf k).toArray 29)) (.cells (cellsShow which vS).toArray 59)
  have hz1 : (w.alloc (.cells (cellsOf k).toArray 29)).heap.size = w.heap.size + 1 := Array.size_push _
  have hr0 := World.rangeAt_alloc (range_new w (cellsOf k).toArray 29 _ rfl) (.cells (cellsShow which vS).toArray 59)
  have hr1 := range_new (w.alloc (.cells (cellsOf k).toArray 29)) (cellsShow which vS).toArray 59 _ rfl
  rw [hz1] at hr1
  obtain ⟨aS, cS, rfl, hf1, hf2⟩ := sums_form hs
  obtain ⟨M, hM⟩ : ∃ M, M = S.length := ⟨_, rfl⟩
  rw [← hM] at hf1 hs hr1 hb0 hr0 ⊢
  have H0 := Lib.hid (And.intro hb0 (And.intro hr0 (And.intro hr1 (bytes_below hv hb0 (Nat.le_refl _)))))
  have HS0 := Lib.hid (And.intro hs (And.intro hM (And.intro hS (And.intro hf2 hbs))))
  have k1 : (M : Int) ≤ (cS : Int) := by omega
  clear hb0 hz1 hr0 hr1 hv hs hM hf1 hf2 hS hbs
  unfold shV
  go_enter Try.func71, Try.ntmps71
  go_wp2_with (refine wpList_load_sum rfl _ rfl w.heap.size 0 rfl k H0.out.2.1 ?_)
  refine (end_any k bs v _ (bytes_below H0.out.2.2.2 (Below.refl _ _) (Nat.le_refl _)) HS0.out.2.2.2.2).mono ?_
  rintro r w1 ⟨ve, rfl, hn, hb⟩
  obtain ⟨p, hp⟩ : ∃ p, p = w1.heap.size := ⟨_, rfl⟩
  have hve : ve.cells = #[ve] := by
    obtain ⟨a1, c1, hve, -⟩ := hn.1
    rw [hve]; rfl
  have HVE := Lib.hid hve
  have hkk := Keeps.of_below (X := fun _ => False) hb
  have hwy := way_new w1 ve (endB k bs) hn.1 (fun i hi => (hn.2 i hi).2)
  have hb2 := al (Below.refl w1.heap.size w1) (.cells (zway.setIfInBounds 16416 ve) 108)
  have hk2 := Keeps.of_below (X := fun _ => False) hb2
  have hsz : w.heap.size + 2 ≤ w1.heap.size := by
    have h2 := hb.size
    rw [World.size_alloc, World.size_alloc] at h2
    omega
  have hbw := (H0.out.1.trans (hb.mono H0.out.1.size))
  have HL := Lib.hid (show LB w (w1.alloc (.cells (zway.setIfInBounds 16416 ve) 108)) w1.heap.size w.heap.size (w.heap.size + 1) 256 k which (.slice aS M cS) S [] ve (endB k bs) from
    ⟨hbw.trans (hb2.mono hbw.size), hwy.1, hwy.2, hk2.range (hkk.range H0.out.2.1 (fun h => h)) (fun h => h), hk2.range (hkk.range H0.out.2.2.1 (fun h => h)) (fun h => h), HS0.out.1, ⟨by omega, by omega, by omega⟩, fun i hi => (hn.2 i hi).2⟩)
  clear hn hb hve hkk hwy hb2 hk2 hbw H0 hsz
  go_wp2_with (first
    | (refine wpList_build_way rfl _ rfl ve HVE.out rfl ?_)
    | (refine wpList_box_agg rfl _ _ rfl (zway.setIfInBounds 16416 ve) rfl ?_))
  rw [← hp] at HL ⊢
  generalize w1.alloc (.cells (zway.setIfInBounds 16416 ve) 108) = W2 at *
  clear hp HVE
  refine wp_region_sched (fun W => LB w W p w.heap.size (w.heap.size + 1) 256 k which (.slice aS M cS) S [] ve (endB k bs)) [.t 1, .s 2, .f 0 3 true, .e 4 true, .t 5] (by kernel_rfl) (by kernel_rfl) (by intro c a d v w h; cases d <;> exact h) ?_
  have HL1 := Lib.hid (HL.out.below (Below.refl _ _).drew)
  clear HL
  generalize W2.drew = W3 at *
  iterate 1
    refine wpS_t rfl (v := ?_) (by rfl) (fun W => ?_) ?_
    rotate_left
    · go_simp
      try rfl
    try simp only [Act.put, List.setIfInBounds_toArray, List.set_cons_zero, List.set_cons_succ]
  refine wpS_s (by exact HL1.out) rfl (v := .slice aS M cS) (by rfl) (fun W hW => ?_) ?_
  · have g := hW.slice
    go_simp
  try simp only [Act.put, List.setIfInBounds_toArray, List.set_cons_zero, List.set_cons_succ]
  have HZ0 := Lib.hid (show em 0 = z0 from rfl)
  refine' Alm.join (fun (q : Nat) (W : World) => LE w W p w.heap.size (w.heap.size + 1) q 256 0 k which (.slice aS M cS) S [] ve (endB k bs)) (fun key => ?_) ?_
  rotate_left
  · refine wpS_fk ?_ ?_
    · refine wpOp_of rfl (by rfl) (fun K hK => ?_)
      go_simp
      refine (empty_0 W3).mono ?_
      rw [← HZ0.out]
      rintro r W4 ⟨rfl, hb⟩
      have h4 := HL1.out.below hb
      have h5 := h4.below (al (Below.refl _ W4) (.cells (cells8 (List.replicate 32 0)).toArray 29))
      refine hK _ _ ⟨by exact h4, ?_⟩; clear hK K hb
      try simp only [Act.put, List.setIfInBounds_toArray, List.set_cons_zero, List.set_cons_succ]
      refine wpOp_of rfl (by rfl) (fun K hK => ?_)
      go_simp
      refine hK _ _ ⟨by exact h5, ?_⟩; clear hK K
      try simp only [Act.put, List.setIfInBounds_toArray, List.set_cons_zero, List.set_cons_succ]
      refine wpS_k rfl (by rfl) (fun K hK => ?_)
      have R4 : Res W4 32 (W4.alloc (.cells (cells8 (List.replicate 32 0)).toArray 29)) := Res.start _ _ _ _ (by rfl)
      refine wp_store_sum _ _ (by rfl) W4.heap.size 0 (em 0) (by rfl) (by rfl) R4.there ?_
      have hf : LE w ((W4.alloc (.cells (cells8 (List.replicate 32 0)).toArray 29)).setCells W4.heap.size 0 (cellsOf (em 0))) p w.heap.size (w.heap.size + 1) W4.heap.size 256 0 k which (.slice aS M cS) S [] ve (endB k bs) :=
        ⟨h4.below (R4.store (cellsOf (em 0))).below, range_stored _ _ _ _ (by rw [length_cellsOf]; exact (R4.store _).there), (R4.store _).there, there_lt h4.rows.th (by decide)⟩
      have HF := Lib.hid hf
      clear hf h4 h5 R4
      change K _ ((W4.alloc (.cells (cells8 (List.replicate 32 0)).toArray 29)).setCells W4.heap.size 0 (cellsOf (em 0)))
      generalize (W4.alloc (.cells (cells8 (List.replicate 32 0)).toArray 29)).setCells W4.heap.size 0 (cellsOf (em 0)) = W5 at *
      generalize W4.heap.size = q at *
      refine hK _ _ ⟨by exact HF.out.lb, ?_⟩; clear hK K
      try simp only [Act.put]
      exact key q W5 HF.out
    · have R3 : Res W3 32 (W3.alloc (.cells (cells8 (List.replicate 32 0)).toArray 29)) := Res.start _ _ _ _ (by rfl)
      have h3 := HL1.out.below R3.below
      refine wpOp_of rfl (by rfl) (fun K hK => ?_)
      go_simp
      refine hK _ _ ⟨by exact h3, ?_⟩; clear hK K
      try simp only [Act.put, List.setIfInBounds_toArray, List.set_cons_zero, List.set_cons_succ]
      refine wpOp_of rfl (by rfl) (fun K hK => ?_)
      go_simp
      refine (empty_0 (W3.alloc (.cells (cells8 (List.replicate 32 0)).toArray 29))).mono ?_
      rw [← HZ0.out]
      rintro r W4 ⟨rfl, hb⟩
      have R4 : Res W3 32 W4 := R3.call (by decide) hb
      refine hK _ _ ⟨by exact h3.below hb, ?_⟩; clear hK K
      try simp only [Act.put, List.setIfInBounds_toArray, List.set_cons_zero, List.set_cons_succ]
      refine wpS_k rfl (by rfl) (fun K hK => ?_)
      refine wp_store_sum _ _ (by rfl) W3.heap.size 0 (em 0) (by rfl) (by rfl) R4.there ?_
      have hf : LE w (W4.setCells W3.heap.size 0 (cellsOf (em 0))) p w.heap.size (w.heap.size + 1) W3.heap.size 256 0 k which (.slice aS M cS) S [] ve (endB k bs) :=
        ⟨HL1.out.below (R4.store (cellsOf (em 0))).below, range_stored _ _ _ _ (by rw [length_cellsOf]; exact (R4.store _).there), (R4.store _).there, there_lt HL1.out.rows.th (by decide)⟩
      have HF := Lib.hid hf
      clear hf h3 R3 R4 hb
      change K _ (W4.setCells W3.heap.size 0 (cellsOf (em 0)))
      generalize W4.setCells W3.heap.size 0 (cellsOf (em 0)) = W5 at *
      generalize W3.heap.size = q at *
      refine hK _ _ ⟨by exact HF.out.lb, ?_⟩; clear hK K
      try simp only [Act.put]
      exact key q W5 HF.out
  intro q W5 hF
  have HE := Lib.hid hF
  clear hF HL1 HZ0
  iterate 1
    refine wpS_t rfl (v := ?_) (by rfl) (fun W => ?_) ?_
    rotate_left
    · go_simp
      try rfl
    try simp only [Act.put, List.setIfInBounds_toArray, List.set_cons_zero, List.set_cons_succ]
  refine wpS_done ?_
  go_wp2_with fail
  go_loopw [10, 11] (fun lv dv W => ∃ (D m : Nat) (T : List Sum), D ≤ 256 ∧ m ≤ M ∧ lv = .slice aS m cS ∧ dv = .int .i64 ((D : Int) - 1) ∧ leadsT which (256 - D) S = some (T, S.take m) ∧ LE w W p w.heap.size (w.heap.size + 1) q D (256 - D) k which (.slice aS M cS) S T ve (endB k bs)) (fun _ dv _ => (intOf dv + 1).toNat)
  case atStart => exact ⟨256, M, [], Nat.le_refl _, Nat.le_refl _, rfl, rfl, by rw [HS0.out.2.1, List.take_length]; rfl, HE.out⟩
  case round =>
    clear HE
    obtain ⟨D, m, T, hD, hm, rfl, rfl, hT, hE⟩ := hrel
    have HE := Lib.hid hE
    have HT := Lib.hid (And.intro hT hm)
    have km : (m : Int) ≤ (cS : Int) := by omega
    clear hE hT hm k1
    cases D with
    | zero =>
      have e0 : ((0 : Nat) : Int) - 1 = -1 := rfl
      rw [e0]
      clear e0 hD
      go_wp2_with (refine wpList_load_sum rfl _ rfl w.heap.size 0 rfl k HE.out.lb.key ?_)
      have hlen : T.length = 256 := ((run_leads zeroSum which zeroSum S 256).1 T _ HT.out.1).2
      refine (up_any k (vl k bs) T p ve (endB k bs) _ hlen HE.out.lb.rows HE.out.lb.en (by rw [sh_eq, sha_end]) (by have := length_endB k bs; have := HS0.out.2.2.2.2; omega) (fun i hi => Nat.lt_trans (HE.out.lb.qv i hi) (there_lt HE.out.lb.rows.th (by decide)))).mono ?_
      rintro r W6 ⟨rfl, hwy, hk⟩
      have HW := Lib.hid (And.intro hwy (HE.out.lb.bw.trans (hk.below HE.out.lb.bw.size (fun i hi => by rw [hi]; exact HE.out.lb.pz.1))))
      clear hwy hk hlen
      have hend := leadsTo_end HT.out.1 (by rw [← HS0.out.2.1]; exact HT.out.2)
      by_cases hm0 : m = 0
      · have HN := Lib.hid (hend.1 hm0)
        subst hm0
        clear hend
        go_wp2_with fail
        refine bodyPost_ret (results_tmp2 rfl _ _ _) rfl ?_
        exact ⟨.inl ⟨T, p, ve, HN.out, rfl, HW.out.1, HE.out.lb.pz.1⟩, HW.out.2⟩
      · have HN := Lib.hid (hend.2 hm0)
        have f1 : decide (m = 0) = false := by simpa using hm0
        have f2 : decide ((m : Int) = 0) = false := by simp; omega
        have f3 : ((m : Int) == 0) = false := by rw [beq_eq_false_iff_ne]; omega
        clear hend
        go_wp2_with fail
        refine bodyPost_ret (results_tmp2 rfl _ _ _) rfl ?_
        exact ⟨.inr ⟨HN.out, _, rfl⟩, HW.out.2⟩
    | succ d =>
      have e0 : ((d + 1 : Nat) : Int) - 1 = (d : Int) := by omega
      rw [e0]
      clear e0
      have hd0 : (0 : Int) ≤ (d : Int) := Int.natCast_nonneg _
      have hd1 : decide ((0 : Int) ≤ (d : Int)) = true := decide_eq_true hd0
      have hd2 : (d : Int) < 256 := by omega
      have HD := Lib.hid hD
      clear hD
      have HG := Lib.hid trivial
      obtain ⟨N, hN⟩ : ∃ N, N = em (256 - (d + 1)) := ⟨_, rfl⟩
      have HN := Lib.hid hN
      clear hN
      have hno := HE.out.no
      rw [← HN.out] at hno
      have HNO := Lib.hid hno
      clear hno
      go_wp2_with (first
        | (have _ := HG; refine wpList_load_sum rfl _ rfl q 0 rfl N HNO.out ?_)
        | (have _ := HG; refine wpList_var_sum (by rfl) rfl _ _ rfl N rfl rfl ?_; intro W6 hb hr ht; obtain ⟨r, hr0⟩ : ∃ r, r = wr.heap.size := ⟨_, rfl⟩; rw [← hr0] at hr ht ⊢; have H6 := Lib.hid (And.intro (HE.out.below hb) (And.intro hr (And.intro ht (show q < r ∧ p < r from ⟨by rw [hr0]; exact there_lt HE.out.tq (by decide), by rw [hr0]; exact there_lt HE.out.lb.rows.th (by decide)⟩)))); clear HG hb hr ht hr0)
        | (have _ := H6; refine wpList_load_sum rfl _ rfl (w.heap.size + 1) 0 rfl which (which_show H6.out.1.lb.sh) ?_))
      obtain ⟨b, hb0⟩ : ∃ b, b = (kn which >>> (255 - d)) % 2 := ⟨_, rfl⟩
      have hc := bit_any which d W6 HD.out
      rw [← hb0] at hc
      have HB := Lib.hid hb0
      clear hb0
      refine hc.mono ?_
      clear hc
      rintro rr W7 ⟨rfl, hb⟩
      have H7 := Lib.hid (And.intro (H6.out.1.below hb) (And.intro ((Keeps.of_below (X := fun _ => False) hb).range H6.out.2.1 (fun h => h)) (And.intro ((Keeps.of_below (X := fun _ => False) hb).there H6.out.2.2.1 (by decide) (fun h => h)) H6.out.2.2.2)))
      clear hb H6
      by_cases hb1 : b = 1
      · have HBT := Lib.hid (show (kn which).testBit (256 - (d + 1)) = true by rw [show 256 - (d + 1) = 255 - d by omega]; exact (bit_ne which (255 - d)).1 (by rw [← HB.out, hb1]))
        subst hb1
        cases m with
        | zero =>
          go_wp2_with fail
          refine bodyPost_ret (results_tmp2 rfl _ _ _) rfl ?_
          have hno := leads_few (leads_none HT.out.1 HBT.out) d
          rw [show 256 - (d + 1) + 1 + d = 256 by have := HD.out; omega] at hno
          exact ⟨.inr ⟨by unfold leadsTo; rw [hno], _, rfl⟩, H7.out.1.lb.bw⟩
        | succ mm =>
          obtain ⟨M1, hM1⟩ : ∃ M1, M1 = mm + 1 := ⟨_, rfl⟩
          have hmm : mm < S.length := by have := HT.out.2; have := HS0.out.2.1; omega
          obtain ⟨t, ht⟩ : ∃ t, S[mm]? = some t := ⟨_, List.getElem?_eq_getElem hmm⟩
          obtain ⟨bS, oS, rfl⟩ := sums_ptr HS0.out.1 ht
          have HMM := Lib.hid (show mm ≤ M by have := HT.out.2; omega)
          have HTT := Lib.hid (And.intro ht hM1)
          have g1 : decide (M1 = 0) = false := by simp; omega
          have g1' : decide ((M1 : Int) = 0) = false := by simp; omega
          have g1'' : ((M1 : Int) == 0) = false := by rw [beq_eq_false_iff_ne]; omega
          have hw : IntKind.i64.wrap ((M1 : Int) - 1) = (mm : Int) := by have := HS0.out.2.2.1; rw [IntKind.wrap_i64]; omega
          have a0 : (0 : Int) ≤ (mm : Int) := Int.natCast_nonneg _
          have a1 : (mm : Int) < (M1 : Int) := by omega
          have a2 : (mm : Int) ≤ (cS : Int) := by omega
          have a3 : mm < M1 := by omega
          have a4 : mm ≤ cS := by omega
          rw [← hM1] at km ⊢
          clear hmm ht hM1
          go_wp2_with fail
          refine wp_region_sched (fun W => True) [.t 0, .t 1, .t 2, .t 3, .t 4, .t 6, .t 7, .t 8, .t 9, .t 10, .e 5 false, .e 11 false, .t 12] (by kernel_rfl) (by kernel_rfl) (by intro c a d v w h; cases d <;> exact h) ?_
          have H8 := Lib.hid (And.intro (H7.out.1.below (Below.refl _ _).drew) (And.intro ((Keeps.of_below (X := fun _ => False) (Below.refl _ _).drew).there H7.out.2.2.1 (by decide) (fun h => h)) H7.out.2.2.2))
          clear H7
          generalize World.drew _ = V at *
          iterate 10
            refine wpS_t rfl (v := ?_) (by rfl) (fun W => ?_) ?_
            rotate_left
            · go_simp
              try rfl
            try simp only [Act.put, List.setIfInBounds_toArray, List.set_cons_zero, List.set_cons_succ]
          refine wpS_e rfl (by rfl) (fun K hK => ?_)
          refine wp_load_sum _ (by rfl) bS (oS + mm * 32) (by rfl) t (sums_elem (HS0.out.1.below H8.out.1.lb.bw (Nat.le_refl _)) HTT.out.1) ?_
          refine hK _ _ ?_; clear hK K
          try simp only [Act.put, List.setIfInBounds_toArray, List.set_cons_zero, List.set_cons_succ]
          refine wpS_e rfl (by rfl) (fun K hK => ?_)
          refine wp_store_sum _ _ (by rfl) r 0 t (by rfl) (by rfl) H8.out.2.1 ?_
          have H9 := Lib.hid (And.intro (H8.out.1.apart (keeps_setCells V r 0 (cellsOf t)) H8.out.2.2.1) (show (V.setCells r 0 (cellsOf t)).rangeAt r 0 (cellsOf t) from range_stored _ _ _ _ (by rw [length_cellsOf]; exact World.there_setCells H8.out.2.1 _ _ _)))
          clear H8
          refine hK _ _ ?_; clear hK K
          try simp only [Act.put]
          change wpS _ _ _ _ _ _ _ (V.setCells r 0 (cellsOf t))
          generalize V.setCells r 0 (cellsOf t) = V2 at *
          iterate 1
            refine wpS_t rfl (v := ?_) (by rfl) (fun W => ?_) ?_
            rotate_left
            · go_simp
              try rfl
            try simp only [Act.put, List.setIfInBounds_toArray, List.set_cons_zero, List.set_cons_succ]
          refine wpS_done ?_
          have HLY := Lib.hid (show leadsT which (256 - d) S = some (t :: T, S.take mm) by
            have h := leads_yes HT.out.1 HBT.out HTT.out.1
            rwa [show 256 - (d + 1) + 1 = 256 - d by have := HD.out; omega] at h)
          clear hw a0 a1 a2 a3 a4 g1 g1' g1'' km
          have HR := Lib.hid H9.out
          clear H9
          go_wp2_with fail
          refine wp_region_sched (fun W => LE w W p w.heap.size (w.heap.size + 1) q (d + 1) (256 - (d + 1)) k which (.slice (some ⟨bS, oS, none⟩) M cS) S T ve (endB k bs) ∧ W.rangeAt r 0 (cellsOf t)) [.t 0, .t 1, .t 8, .t 9, .s 2, .s 3, .t 4, .s 5, .e 6 true, .e 7 true, .t 10, .e 11 false, .e 12 false] (by kernel_rfl) (by kernel_rfl) (by intro c a d v w h; cases d <;> exact h) ?_
          have HS := Lib.hid (And.intro (HR.out.1.below (Below.refl _ _).drew) ((Keeps.of_below (X := fun _ => False) (Below.refl _ _).drew).range HR.out.2 (fun h => h)))
          clear HR
          generalize World.drew _ = V3 at *
          iterate 4
            refine wpS_t rfl (v := ?_) (by rfl) (fun W => ?_) ?_
            rotate_left
            · go_simp
              try rfl
            try simp only [Act.put, List.setIfInBounds_toArray, List.set_cons_zero, List.set_cons_succ]
          refine wpS_load_sum (by exact HS.out) rfl (by rfl) _ (by rfl) r 0 (by rfl) t (fun W hW => hW.2) ?_
          try simp only [Act.put, List.setIfInBounds_toArray, List.set_cons_zero, List.set_cons_succ]
          refine wpS_load_sum (by exact HS.out) rfl (by rfl) _ (by rfl) r 0 (by rfl) t (fun W hW => hW.2) ?_
          try simp only [Act.put, List.setIfInBounds_toArray, List.set_cons_zero, List.set_cons_succ]
          refine wpS_t rfl (v := bv t t) (by rfl) (fun W => exec_build_two _ rfl t t (by rfl) W) ?_
          try simp only [Act.put, List.setIfInBounds_toArray, List.set_cons_zero, List.set_cons_succ]
          refine wpS_load_sum (by exact HS.out) rfl (by rfl) _ (by rfl) q 0 (by rfl) N (fun W hW => by rw [HN.out]; exact hW.1.no) ?_
          try simp only [Act.put, List.setIfInBounds_toArray, List.set_cons_zero, List.set_cons_succ]
          refine wpS_k rfl (by rfl) (fun K hK => ?_)
          refine wp_load_sum _ (by rfl) q 0 (by rfl) N (by rw [HN.out]; exact HS.out.1.no) ?_
          refine hK _ _ ⟨by exact HS.out, ?_⟩; clear hK K
          try simp only [Act.put, List.setIfInBounds_toArray, List.set_cons_zero, List.set_cons_succ]
          refine wpS_k rfl (by rfl) (fun K hK => ?_)
          go_simp
          obtain ⟨E, hE⟩ : ∃ E, E = em (256 - (d + 1) + 1) := ⟨_, rfl⟩
          have hc := sd_any N N V3
          rw [show sd N N = E by rw [hE, HN.out, em_succ]] at hc
          have HEE := Lib.hid hE
          clear hE
          refine hc.mono ?_
          clear hc
          rintro rr V4 ⟨rfl, hb⟩
          have HS4 := Lib.hid (And.intro (HS.out.1.below hb) ((Keeps.of_below (X := fun _ => False) hb).range HS.out.2 (fun h => h)))
          clear hb HS
          refine hK _ _ ⟨by exact HS4.out, ?_⟩; clear hK K
          try simp only [Act.put, List.setIfInBounds_toArray, List.set_cons_zero, List.set_cons_succ]
          iterate 1
            refine wpS_t rfl (v := ?_) (by rfl) (fun W => ?_) ?_
            rotate_left
            · go_simp
              try rfl
            try simp only [Act.put, List.setIfInBounds_toArray, List.set_cons_zero, List.set_cons_succ]
          refine wpS_e rfl (by rfl) (fun K hK => ?_)
          refine wp_store_two _ _ (by rfl) p (32 + d * 64) t t (by rfl) (by rfl) (HS4.out.1.lb.rows.at (by have := HD.out; omega)) ?_
          have HS5 := Lib.hid (HS4.out.1.row (t := t) (by have := HD.out; omega))
          clear HS4
          refine hK _ _ ?_; clear hK K
          try simp only [Act.put]
          change wpS _ _ _ _ _ _ _ (V4.setCells p (32 + d * 64) (cells2 t t))
          generalize V4.setCells p (32 + d * 64) (cells2 t t) = V5 at *
          refine wpS_e rfl (by rfl) (fun K hK => ?_)
          refine wp_store_sum _ _ (by rfl) q 0 E (by rfl) (by rfl) HS5.out.tq ?_
          have hfin := HS5.out.none
          rw [← HEE.out] at hfin
          have HS6 := Lib.hid hfin
          clear hfin HS5
          refine hK _ _ ?_; clear hK K
          try simp only [Act.put]
          change wpS _ _ _ _ _ _ _ (V5.setCells q 0 (cellsOf E))
          generalize V5.setCells q 0 (cellsOf E) = V6 at *
          refine wpS_done ?_
          have hw2 : wrap64 ((d : Int) - 1) = (d : Int) - 1 := by have := HD.out; unfold wrap64; omega
          go_wp2_with fail
          try rw [hw2]
          have hfn := HS6.out
          rw [show 256 - (d + 1) + 1 = 256 - d by have := HD.out; omega] at hfn
          exact ⟨⟨d, mm, t :: T, by have := HD.out; omega, by have := HMM.out; omega, rfl, rfl, HLY.out, hfn⟩, by simp only [intOf]; omega⟩
      · have f1 : decide (b = 1) = false := by simpa using hb1
        have f2 : decide ((b : Int) = 1) = false := by simp; omega
        have f3 : ((b : Int) == 1) = false := by rw [beq_eq_false_iff_ne]; omega
        obtain ⟨mm, hmm⟩ : ∃ mm, mm = m := ⟨_, rfl⟩
        obtain ⟨t, htN⟩ : ∃ t, t = N := ⟨_, rfl⟩
        have HMM := Lib.hid (show mm ≤ M by rw [hmm]; exact HT.out.2)
        have HLN := Lib.hid (show leadsT which (256 - d) S = some (t :: T, S.take mm) by
          have h := leads_no HT.out.1 (show ¬ (kn which).testBit (256 - (d + 1)) = true by rw [show 256 - (d + 1) = 255 - d by omega]; exact fun e => hb1 (by rw [HB.out]; exact (bit_ne which (255 - d)).2 e))
          rw [show 256 - (d + 1) + 1 = 256 - d by have := HD.out; omega] at h
          rw [htN, hmm, HN.out]; exact h)
        have HR := Lib.hid (And.intro H7.out.1 (show W7.rangeAt r 0 (cellsOf t) by rw [htN]; exact H7.out.2.1))
        rw [← hmm]
        clear hb1 H7 htN hmm km
        go_wp2_with fail
        refine wp_region_sched (fun W => LE w W p w.heap.size (w.heap.size + 1) q (d + 1) (256 - (d + 1)) k which (.slice aS M cS) S T ve (endB k bs) ∧ W.rangeAt r 0 (cellsOf t)) [.t 0, .t 1, .t 8, .t 9, .s 2, .s 3, .t 4, .s 5, .e 6 true, .e 7 true, .t 10, .e 11 false, .e 12 false] (by kernel_rfl) (by kernel_rfl) (by intro c a d v w h; cases d <;> exact h) ?_
        have HS := Lib.hid (And.intro (HR.out.1.below (Below.refl _ _).drew) ((Keeps.of_below (X := fun _ => False) (Below.refl _ _).drew).range HR.out.2 (fun h => h)))
        clear HR
        generalize World.drew _ = V3 at *
        iterate 4
          refine wpS_t rfl (v := ?_) (by rfl) (fun W => ?_) ?_
          rotate_left
          · go_simp
            try rfl
          try simp only [Act.put, List.setIfInBounds_toArray, List.set_cons_zero, List.set_cons_succ]
        refine wpS_load_sum (by exact HS.out) rfl (by rfl) _ (by rfl) r 0 (by rfl) t (fun W hW => hW.2) ?_
        try simp only [Act.put, List.setIfInBounds_toArray, List.set_cons_zero, List.set_cons_succ]
        refine wpS_load_sum (by exact HS.out) rfl (by rfl) _ (by rfl) r 0 (by rfl) t (fun W hW => hW.2) ?_
        try simp only [Act.put, List.setIfInBounds_toArray, List.set_cons_zero, List.set_cons_succ]
        refine wpS_t rfl (v := bv t t) (by rfl) (fun W => exec_build_two _ rfl t t (by rfl) W) ?_
        try simp only [Act.put, List.setIfInBounds_toArray, List.set_cons_zero, List.set_cons_succ]
        refine wpS_load_sum (by exact HS.out) rfl (by rfl) _ (by rfl) q 0 (by rfl) N (fun W hW => by rw [HN.out]; exact hW.1.no) ?_
        try simp only [Act.put, List.setIfInBounds_toArray, List.set_cons_zero, List.set_cons_succ]
        refine wpS_k rfl (by rfl) (fun K hK => ?_)
        refine wp_load_sum _ (by rfl) q 0 (by rfl) N (by rw [HN.out]; exact HS.out.1.no) ?_
        refine hK _ _ ⟨by exact HS.out, ?_⟩; clear hK K
        try simp only [Act.put, List.setIfInBounds_toArray, List.set_cons_zero, List.set_cons_succ]
        refine wpS_k rfl (by rfl) (fun K hK => ?_)
        go_simp
        obtain ⟨E, hE⟩ : ∃ E, E = em (256 - (d + 1) + 1) := ⟨_, rfl⟩
        have hc := sd_any N N V3
        rw [show sd N N = E by rw [hE, HN.out, em_succ]] at hc
        have HEE := Lib.hid hE
        clear hE
        refine hc.mono ?_
        clear hc
        rintro rr V4 ⟨rfl, hb⟩
        have HS4 := Lib.hid (And.intro (HS.out.1.below hb) ((Keeps.of_below (X := fun _ => False) hb).range HS.out.2 (fun h => h)))
        clear hb HS
        refine hK _ _ ⟨by exact HS4.out, ?_⟩; clear hK K
        try simp only [Act.put, List.setIfInBounds_toArray, List.set_cons_zero, List.set_cons_succ]
        iterate 1
          refine wpS_t rfl (v := ?_) (by rfl) (fun W => ?_) ?_
          rotate_left
          · go_simp
            try rfl
          try simp only [Act.put, List.setIfInBounds_toArray, List.set_cons_zero, List.set_cons_succ]
        refine wpS_e rfl (by rfl) (fun K hK => ?_)
        refine wp_store_two _ _ (by rfl) p (32 + d * 64) t t (by rfl) (by rfl) (HS4.out.1.lb.rows.at (by have := HD.out; omega)) ?_
        have HS5 := Lib.hid (HS4.out.1.row (t := t) (by have := HD.out; omega))
        clear HS4
        refine hK _ _ ?_; clear hK K
        try simp only [Act.put]
        change wpS _ _ _ _ _ _ _ (V4.setCells p (32 + d * 64) (cells2 t t))
        generalize V4.setCells p (32 + d * 64) (cells2 t t) = V5 at *
        refine wpS_e rfl (by rfl) (fun K hK => ?_)
        refine wp_store_sum _ _ (by rfl) q 0 E (by rfl) (by rfl) HS5.out.tq ?_
        have hfin := HS5.out.none
        rw [← HEE.out] at hfin
        have HS6 := Lib.hid hfin
        clear hfin HS5
        refine hK _ _ ?_; clear hK K
        try simp only [Act.put]
        change wpS _ _ _ _ _ _ _ (V5.setCells q 0 (cellsOf E))
        generalize V5.setCells q 0 (cellsOf E) = V6 at *
        refine wpS_done ?_
        have hw2 : wrap64 ((d : Int) - 1) = (d : Int) - 1 := by have := HD.out; unfold wrap64; omega
        go_wp2_with fail
        try rw [hw2]
        have hfn := HS6.out
        rw [show 256 - (d + 1) + 1 = 256 - d by have := HD.out; omega] at hfn
        exact ⟨⟨d, mm, t :: T, by have := HD.out; omega, by have := HMM.out; omega, rfl, rfl, HLN.out, hfn⟩, by simp only [intOf]; omega⟩
end Go.Proofs.Ytfmgoehnbaiamaa
-- Walks: splits.cut, splits.empty, splits.at.
namespace Go.Proofs.Ytfmgoehnbaiamaa
set_option maxRecDepth 100000 in
set_option maxHeartbeats 1000000 in
theorem pcut_any (P : List Keys.Pr) (v : Value) (d : Nat) (w : World) (hv : PairsAt w v P) (hd : d < 256) (hn : P.length < 100000) (hr : Keys.Rise P) (hs : Keys.Same (255 - d + 1) P) :
    Calls Try.prog 86 #[v, .int .i64 (d : Int)] w fun e w' => e = .returned (.int .i64 ((cutH (255 - d) P : Nat) : Int)) ∧ Below w.heap.size w w' := by
  have HV := Lib.hid hv
  obtain ⟨a, cap, rfl, h1, h2⟩ := pairs_form hv
  obtain ⟨N, hN⟩ : ∃ N, N = P.length := ⟨_, rfl⟩
  rw [← hN] at HV h1 hn ⊢
  have HN := Lib.hid (And.intro hN (And.intro hn (And.intro hd (And.intro hr hs))))
  clear hv hN h2 hn hd hr hs
  have k1 : (N : Int) ≤ (cap : Int) := by omega
  go_enter Try.func86, Try.ntmps86
  go_wp2_with fail
  go_loopw [9] (fun iv W => ∃ j : Nat, j ≤ N ∧ iv = .int .i64 (j : Int) ∧ (∀ i p, P[i]? = some p → i < j → (Keys.kn p.1).testBit (255 - d) = false) ∧ Below w.heap.size w W) (fun iv _ => N - (intOf iv).toNat)
  case atStart => exact ⟨0, by omega, rfl, fun i p _ h => by omega, Below.refl _ _⟩
  case round =>
    obtain ⟨j, hj, rfl, hall, hB⟩ := hrel
    have HB := Lib.hid (And.intro hall hB)
    clear hall hB
    by_cases hlt : j < N
    · have c1 : decide (j < N) = true := by simpa using hlt
      have c1' : decide ((j : Int) < (N : Int)) = true := by simp; omega
      have hj0 : (0 : Int) ≤ (j : Int) := by omega
      have hlt' : (j : Int) < (N : Int) := by omega
      obtain ⟨ba, oa, ca', y, xs, he1, hr1, hy1, hg1⟩ := pairs_one (HV.out.below HB.out.2) (i := j) (by rw [← HN.out.1]; exact hlt)
      simp only [Value.slice.injEq] at he1
      obtain ⟨rfl, -, rfl⟩ := he1
      have HX := Lib.hid (And.intro hr1 hg1)
      have HJ := Lib.hid (And.intro hj hlt)
      clear hr1 hy1 hg1 hj hlt
      have HG := Lib.hid trivial
      go_wp2_with (first
        | (have _ := HG; refine wpList_load_pair rfl _ rfl ba (oa + j * 33) rfl y HX.out.1 ?_)
        | (have _ := HG; refine wpList_var_pair (by rfl) rfl _ _ rfl y rfl rfl ?_; intro W2 hb hr; have H2 := Lib.hid (And.intro (HB.out.2.trans (hb.mono HB.out.2.size)) (encP_key hr)); clear HG hb hr)
        | (have _ := H2; refine wpList_load_sum rfl _ rfl wr.heap.size 0 rfl y.1 H2.out.2 ?_))
      obtain ⟨b, hb0⟩ : ∃ b, b = (Keys.kn y.1 >>> (255 - d)) % 2 := ⟨_, rfl⟩
      have hc := bit_any y.1 d W2 HN.out.2.2.1
      rw [← hb0] at hc
      have HBT := Lib.hid hb0
      clear hb0
      refine hc.mono ?_
      clear hc
      rintro rr W3 ⟨rfl, hb⟩
      have H3 := Lib.hid (H2.out.1.trans (hb.mono H2.out.1.size))
      clear hb H2
      by_cases hb1 : b = 1
      · have hbit : (Keys.kn y.1).testBit (255 - d) = true := (bit_ne y.1 (255 - d)).1 (by rw [← HBT.out, hb1])
        have hcc : j = cutH (255 - d) P := cut_is HN.out.2.2.2.1 HN.out.2.2.2.2 (by rw [← HN.out.1]; exact HJ.out.1) (fun i p hp hi => HB.out.1 i p hp hi) (fun p hp => by
          rw [HX.out.2, Option.some.injEq] at hp
          rw [← hp]; exact hbit)
        have HCC := Lib.hid hcc
        subst hb1
        clear hbit hcc
        go_wp2_with fail
        refine bodyPost_ret (results_tmp rfl _ _ _) rfl ?_
        rw [← HCC.out]
        exact ⟨rfl, H3.out⟩
      · have hbit : (Keys.kn y.1).testBit (255 - d) = false := by
          cases h : (Keys.kn y.1).testBit (255 - d)
          · rfl
          · exact absurd ((bit_ne y.1 (255 - d)).2 h) (by rw [← HBT.out]; exact hb1)
        have HBF := Lib.hid hbit
        have f1 : decide (b = 1) = false := by simpa using hb1
        have f2 : decide ((b : Int) = 1) = false := by simp; omega
        have f3 : ((b : Int) == 1) = false := by rw [beq_eq_false_iff_ne]; omega
        have hwj : wrap64 ((j : Int) + 1) = ((j + 1 : Nat) : Int) := by have := HN.out.2.1; have := HJ.out.1; unfold wrap64; omega
        have HWJ := Lib.hid hwj
        clear hbit hb1 hwj
        go_wp2_with fail
        try rw [HWJ.out]
        refine ⟨⟨j + 1, HJ.out.2, rfl, fun i p hp hi => ?_, H3.out⟩, by simp only [intOf]; have := HJ.out.2; omega⟩
        by_cases hij : i < j
        · exact HB.out.1 i p hp hij
        · have : i = j := by omega
          subst this
          rw [HX.out.2, Option.some.injEq] at hp
          rw [← hp]; exact HBF.out
    · have hjn : j = N := by omega
      subst hjn
      have c1 : decide (j < j) = false := by simp
      have c1' : decide ((j : Int) < (j : Int)) = false := by simp
      have hcc : j = cutH (255 - d) P := cut_is HN.out.2.2.2.1 HN.out.2.2.2.2 (by rw [← HN.out.1]; exact Nat.le_refl _) (fun i p hp hi => HB.out.1 i p hp hi) (fun p hp => by
        have := (List.getElem?_eq_some_iff.1 hp).1
        rw [← HN.out.1] at this
        omega)
      have HCC := Lib.hid hcc
      clear hcc
      go_wp2_with fail
      refine bodyPost_ret (results_tmp rfl _ _ _) rfl ?_
      rw [← HCC.out]
      exact ⟨rfl, HB.out.2⟩
set_option maxRecDepth 100000 in
set_option maxHeartbeats 2000000 in
theorem pempty_any (w : World) : Calls Try.prog 85 #[] w fun e w' => ∃ v, e = .returned v ∧ SumsAt w' v nones ∧ (∃ a c, v = .slice a 257 c) ∧ Below w.heap.size w w' := by
  go_enter Try.func85, Try.ntmps85
  go_wp2_with fail
  have HE := Lib.hid (empty_any 0 w (by omega))
  refine HE.out.mono ?_
  rintro e w1 ⟨rfl, hb1⟩
  have HB1 := Lib.hid hb1
  clear hb1 HE
  go_wp2_with (refine wpList_plain rfl fun K hK => ?_; refine wp_build_sums 1 _ (by rfl) [em 0] rfl (by omega) (by omega) (by rfl) ?_; refine hK _ _ ?_; clear hK K)
  obtain ⟨g0, hg0⟩ : ∃ g, g = w1.heap.size := ⟨_, rfl⟩
  have hw1 := HB1.out.size
  have h0 : EW w (w1.alloc (.cells (cellsAll [em 0]).toArray 29)) g0 0 1 := ⟨al HB1.out _, by
    rw [hg0]
    have e1 : ems (0 + 1) = [em 0] := rfl
    rw [e1]
    have e2 : (cellsAll [em 0]).length = 32 := by simp [cellsAll, length_cellsOf]
    exact ⟨e2, .inr ⟨w1.heap.size, 1, _, rfl, hw1, heap_alloc_new w1 _, Nat.le_refl _, by unfold maxLen; omega, by rw [List.size_toArray, e2], by rw [List.take_of_length_le (by rw [List.toList_toArray, e2]; omega)]⟩⟩⟩
  have H0 := Lib.hid h0
  rw [← hg0]
  clear h0 hw1 hg0 HB1
  generalize w1.alloc (.cells (cellsAll [em 0]).toArray 29) = W1 at *
  clear w1
  go_loopw [1, 4] (fun sv_ iv W => ∃ (j : Nat) (g cap : Nat), j ≤ 256 ∧ sv_ = .slice (some ⟨g, 0, none⟩) (j + 1) cap ∧ iv = .int .i64 (j : Int) ∧ EW w W g j cap) (fun _ iv _ => 256 - (intOf iv).toNat)
  case atStart => exact ⟨0, g0, 1, by omega, rfl, rfl, H0.out⟩
  case round =>
    clear H0
    obtain ⟨j, g, cap, hj, rfl, rfl, hE⟩ := hrel
    have HE := Lib.hid hE
    clear hE
    by_cases hlt : j < 256
    · have c1 : decide (j < 256) = true := by simpa using hlt
      have c1' : decide ((j : Int) < 256) = true := by simp; omega
      obtain ⟨J, hJ⟩ : ∃ J, J = j + 1 := ⟨_, rfl⟩
      have ho := HE.out.own
      have hr := own_sum_range ho
      have hr1 := range_at hr (i := j) (by rw [length_ems]; omega)
      have hg1 : (ems (j + 1))[j]'(by rw [length_ems]; omega) = em j := by
        have := ems_get (n := j + 1) (i := j) (by omega)
        rw [List.getElem?_eq_getElem (by rw [length_ems]; omega), Option.some.injEq] at this
        exact this
      rw [hg1, Nat.zero_add] at hr1
      rw [← hJ] at ho ⊢
      have HJ := Lib.hid (And.intro hJ hlt)
      have HO := Lib.hid ho
      have HR := Lib.hid hr1
      have hw : IntKind.i64.wrap ((J : Int) - 1) = (j : Int) := by rw [IntKind.wrap_i64]; omega
      have hjJ : (j : Int) < (J : Int) := by omega
      have hj0 : (0 : Int) ≤ (j : Int) := by omega
      clear ho hr hr1 hg1 hJ hlt
      go_wp2_with fail
      refine wp_region_sched (fun W => W.rangeAt g (j * 32) (cellsOf (em j))) [.t 0, .t 1, .t 2, .t 3, .t 4, .t 5, .t 7, .t 8, .t 9, .t 10, .t 11, .s 6, .e 12 true, .e 13 false, .e 14 false, .e 15 false, .t 16] (by kernel_rfl) (by kernel_rfl) (by intro c a d v w h; cases d <;> exact h) ?_
      have HB1 := Lib.hid (And.intro HE.out.bw.drew (And.intro (show wr.drew.rangeAt g (j * 32) (cellsOf (em j)) from HR.out) (show wr.drew.ownsRow w.heap.size 29 32 (.slice (some ⟨g, 0, none⟩) J cap) J (cellsAll (ems J)) from HO.out)))
      clear HE HR HO
      generalize wr.drew = V at *
      iterate 11
        refine wpS_t rfl (v := ?_) (by rfl) (fun W => ?_) ?_
        rotate_left
        · go_simp
          try rfl
        try simp only [Act.put, List.setIfInBounds_toArray, List.set_cons_zero, List.set_cons_succ]
      refine wpS_load_sum (by exact HB1.out.2.1) rfl (by rfl) _ (by rfl) g (j * 32) (by rfl) (em j) (fun V hV => hV) ?_
      try simp only [Act.put, List.setIfInBounds_toArray, List.set_cons_zero, List.set_cons_succ]
      refine wpS_k rfl (by rfl) (fun K hK => ?_)
      refine wp_load_sum _ (by rfl) g (j * 32) (by rfl) (em j) HB1.out.2.1 ?_
      refine hK _ _ ⟨by exact HB1.out.2.1, ?_⟩; clear hK K
      try simp only [Act.put, List.setIfInBounds_toArray, List.set_cons_zero, List.set_cons_succ]
      refine wpS_e rfl (by rfl) (fun K hK => ?_)
      go_simp
      refine (sd_any (em j) (em j) V).mono ?_
      rintro e V1 ⟨rfl, hb1⟩
      rw [← em_succ, ← HJ.out.1]
      have HB2 := Lib.hid (And.intro (HB1.out.1.trans (hb1.mono HB1.out.1.size)) ((Keeps.of_below (X := fun _ => False) hb1).owns HB1.out.2.2 (fun _ _ h => h)))
      clear HB1 hb1
      refine hK _ _ ?_; clear hK K
      try simp only [Act.put, List.setIfInBounds_toArray, List.set_cons_zero, List.set_cons_succ]
      refine wpS_e rfl (by rfl) (fun K hK => ?_)
      refine wp_build_sums 1 _ (by rfl) [em J] rfl (by omega) (by omega) (by rfl) ?_
      have hb2 := al (Below.refl V1.heap.size V1) (.cells (cellsAll [em J]).toArray 29)
      have HB3 := Lib.hid (And.intro (HB2.out.1.trans (hb2.mono HB2.out.1.size)) (And.intro ((Keeps.of_below (X := fun _ => False) hb2).owns HB2.out.2 (fun _ _ h => h)) (range_new V1 (cellsAll [em J]).toArray 29 _ rfl)))
      clear HB2 hb2
      refine hK _ _ ?_; clear hK K
      try simp only [Act.put, List.setIfInBounds_toArray, List.set_cons_zero, List.set_cons_succ]
      generalize V1.heap.size = q at *
      generalize V1.alloc (.cells (cellsAll [em J]).toArray 29) = V2 at *
      refine wpS_e rfl (by rfl) (fun K hK => ?_)
      refine wp_append_sums _ _ (by rfl) w.heap.size (.slice (some ⟨g, 0, none⟩) J cap) (ems J) [em J] J 1 (length_ems J) rfl (by rfl) HB3.out.2.1 q 0 1 (by rfl) HB3.out.2.2 (by omega) (by have := HJ.out; omega) HB3.out.1.size ?_
      intro g3 cap3 V3 ho3 hg3 _ _
      rw [← ems_succ] at ho3
      have HE3 := Lib.hid (show EW w V3 g3 J cap3 from ⟨HB3.out.1.grown hg3 HB3.out.1.size (fun k hk => own_base HB3.out.2.1 k hk), ho3⟩)
      clear ho3 hg3 HB3
      refine hK _ _ ?_; clear hK K
      try simp only [Act.put, List.setIfInBounds_toArray, List.set_cons_zero, List.set_cons_succ]
      iterate 1
        refine wpS_t rfl (v := ?_) (by rfl) (fun W => ?_) ?_
        rotate_left
        · go_simp
          try rfl
        try simp only [Act.put, List.setIfInBounds_toArray, List.set_cons_zero, List.set_cons_succ]
      refine wpS_done ?_
      go_wp2_with fail
      refine ⟨⟨J, g3, cap3, by have := HJ.out; omega, rfl, congrArg _ (by have := HJ.out; omega), HE3.out⟩, ?_⟩
      simp only [intOf]
      have := HJ.out
      omega
    · have hj6 : j = 256 := by omega
      subst hj6
      have hne : ems 257 ≠ [] := fun e => by have := length_ems 257; rw [e] at this; cases this
      have hn := own_new (l := ems 257) (by rw [length_ems]; exact HE.out.own) hne
      have HN := Lib.hid hn
      have HB := Lib.hid HE.out.bw
      clear hn hne HE hj hlt
      go_wp2_with fail
      refine (reverse_sums wr w.heap.size _ (ems 257) HN.out (by rw [length_ems]; omega)).mono ?_
      rintro e w2 ⟨rfl, hn2, hk2⟩
      have HN2 := Lib.hid (And.intro hn2.sums (HB.out.trans (hk2.below HB.out.size (fun k hk => HN.out.own k hk))))
      clear hn2 hk2 HN HB
      go_wp2_with fail
      exact bodyPost_ret (results_tmp rfl _ _ _) rfl ⟨.slice (some ⟨g, 0, none⟩) 257 cap, rfl, HN2.out.1, ⟨_, _, rfl⟩, HN2.out.2⟩
set_option maxRecDepth 100000 in
set_option maxHeartbeats 2000000 in
theorem pat_nil (n : Nat) (a : Option Addr) (cap : Nat) (vn : Value) (w : World) (hn : n ≤ 256) (hN : SumsAt w vn nones) :
    Calls Try.prog 87 #[.slice a 0 cap, .int .i64 ((256 - n : Nat) : Int), vn] w fun e w' => e = .returned (sv (atH n [])) ∧ Below w.heap.size w w' := by
  obtain ⟨bn, on, cn, rfl, hcn, hr⟩ := nones_at hN
  have hb0 := al (Below.refl _ w) (.cells (cells8 (List.replicate 32 0)).toArray 29)
  have ht0 := there_new w (cells8 (List.replicate 32 0)).toArray 29
  have HB0 := Lib.hid (And.intro hb0 (And.intro ht0 (hr _ hb0 n hn)))
  obtain ⟨A, hA⟩ : ∃ A, A = em n := ⟨_, rfl⟩
  rw [atH_nil, ← hA]
  rw [← hA] at HB0
  obtain ⟨D, hD⟩ : ∃ D, D = 256 - n := ⟨_, rfl⟩
  rw [← hD] at HB0 ⊢
  have hD0 : (0 : Int) ≤ (D : Int) := by omega
  have hD1 : (D : Int) < 257 := by omega
  clear hb0 ht0 hr hA hD hN
  go_enter Try.func87, Try.ntmps87
  go_wp2_with (first
    | (refine wpList_load_sum rfl _ rfl bn (on + D * 32) rfl A HB0.out.2.2 ?_)
    | (refine wpList_store_sum rfl _ _ rfl w.heap.size 0 A rfl rfl HB0.out.2.1 ?_))
  try rw [Exit.noGoto_ret]
  exact bodyPost_ret (results_sum Try.results87 _ _ _ _ rfl (World.there_setCells HB0.out.2.1 _ _ _)) rfl ⟨rfl, setCells_below _ (Nat.le_refl _) _ _ _ _ HB0.out.1⟩
/-- Bytes that fit. -/
def Small (l : List Keys.Pr) : Prop := ∀ p ∈ l, p.2.length < 140737488355000
set_option maxRecDepth 100000 in
set_option maxHeartbeats 2000000 in
theorem pat_any : ∀ (n : Nat) (P : List Keys.Pr) (v vn : Value) (w : World), n ≤ 256 → PairsAt w v P → SumsAt w vn nones → Keys.Rise P → Keys.Same n P → Small P → P.length < 100000 →
    Calls Try.prog 87 #[v, .int .i64 ((256 - n : Nat) : Int), vn] w fun e w' => e = .returned (sv (atH n P)) ∧ Below w.heap.size w w' := by
  intro n
  induction n with
  | zero =>
    intro P v vn w hn hv hN hR hS hF hl
    by_cases hP : P = []
    · subst hP
      obtain ⟨a, cap, rfl, h1, h2⟩ := pairs_form hv
      exact pat_nil 0 a cap vn w hn hN
    · obtain ⟨ba, oa, ca, y, xs, rfl, hr1, hy1, hg1⟩ := pairs_one hv (i := 0) (List.length_pos_iff.2 hP)
      rw [Nat.zero_mul, Nat.add_zero] at hr1
      obtain ⟨bn, on, cn, rfl, hcn, _⟩ := nones_at hN
      have hxs : xs.length < 140737488355000 := hF (y.1, xs) (List.mem_iff_getElem?.2 ⟨0, hg1⟩)
      have hat : atH 0 P = vl y.1 xs := by
        rw [atH_zero]
        cases P with
        | nil => cases hg1
        | cons p r =>
          simp only [List.getElem?_cons_zero, Option.some.injEq] at hg1
          rw [hg1]
      obtain ⟨N, hNN⟩ : ∃ N, N = P.length := ⟨_, rfl⟩
      have h0 : N ≠ 0 := fun e => hP (List.length_eq_zero_iff.1 (by rw [← hNN, e]))
      rw [← hNN] at hv ⊢
      have hb0 := al (Below.refl _ w) (.cells (cells8 (List.replicate 32 0)).toArray 29)
      have ht0 := there_new w (cells8 (List.replicate 32 0)).toArray 29
      have kk := Keeps.of_below (X := fun _ => False) hb0
      obtain ⟨A, hA⟩ : ∃ A, A = vl y.1 xs := ⟨_, rfl⟩
      rw [hat, ← hA]
      have HB0 := Lib.hid (And.intro hb0 (And.intro ht0 (And.intro (kk.range hr1 (fun h => h)) (And.intro (bytes_below hy1 hb0 (Nat.le_refl _)) (And.intro hxs hA)))))
      clear hb0 ht0 kk hr1 hy1 hg1 hxs hA hat hv hNN hN hR hS hF hl hn
      have f1 : decide (N = 0) = false := by simpa using h0
      have f2 : decide ((N : Int) = 0) = false := by simp; omega
      have f3 : ((N : Int) == 0) = false := by rw [beq_eq_false_iff_ne]; omega
      have f4 : (0 : Int) < (N : Int) := by omega
      have f5 : 0 < N := by omega
      obtain ⟨q, hq⟩ : ∃ q, q = w.heap.size := ⟨_, rfl⟩
      have HQ := Lib.hid hq
      clear hq
      go_enter Try.func87, Try.ntmps87
      go_wp2_with fail
      have hcell : (World.drew (w.alloc (.cells (cells8 (List.replicate 32 0)).toArray 29))).cell? ⟨ba, oa + 32, none⟩ = some (peV y) := HB0.out.2.2.1 32 (peV y) (by rw [encP, List.getElem?_append_right (by rw [length_cellsOf]; omega), length_cellsOf]; rfl)
      have HC := Lib.hid (show (World.drew (w.alloc (.cells (cells8 (List.replicate 32 0)).toArray 29))).rangeAt ba oa (cellsOf y.1) ∧ _ from And.intro (encP_key HB0.out.2.2.1) hcell)
      have HD := Lib.hid (show Below w.heap.size w (World.drew (w.alloc (.cells (cells8 (List.replicate 32 0)).toArray 29))) ∧ (World.drew (w.alloc (.cells (cells8 (List.replicate 32 0)).toArray 29))).there w.heap.size 0 32 ∧ BytesAt (World.drew (w.alloc (.cells (cells8 (List.replicate 32 0)).toArray 29))) (peV y) xs from ⟨HB0.out.1.drew, HB0.out.2.1, bytes_below HB0.out.2.2.2.1 (Below.refl _ _).drew (Nat.le_refl _)⟩)
      have HXA := Lib.hid HB0.out.2.2.2.2
      clear hcell HB0
      refine wp_region_sched (fun W => W.rangeAt ba oa (cellsOf y.1) ∧ W.cell? ⟨ba, oa + 32, none⟩ = some (peV y)) [.t 0, .t 1, .t 2, .t 4, .t 5, .t 6, .s 3, .e 7 true, .e 8 false, .e 9 false, .e 10 false] (by kernel_rfl) (by kernel_rfl) (by intro c a d v w h; cases d <;> exact h) ?_
      change wpS _ _ _ _ _ _ _ (World.drew (w.alloc (.cells (cells8 (List.replicate 32 0)).toArray 29)))
      rw [← HQ.out] at HD ⊢
      generalize World.drew (w.alloc (.cells (cells8 (List.replicate 32 0)).toArray 29)) = V at *
      iterate 6
        refine wpS_t rfl (v := ?_) (by rfl) (fun W => ?_) ?_
        rotate_left
        · go_simp
          try rfl
        try simp only [Act.put, List.setIfInBounds_toArray, List.set_cons_zero, List.set_cons_succ]
      refine wpS_load_sum (by exact HC.out) rfl (by rfl) _ (by rfl) ba oa (by rfl) y.1 (fun V hV => hV.1) ?_
      try simp only [Act.put, List.setIfInBounds_toArray, List.set_cons_zero, List.set_cons_succ]
      refine wpS_k rfl (by rfl) (fun K hK => ?_)
      have g := HC.out.2
      go_simp
      refine hK _ _ ⟨by exact HC.out, ?_⟩; clear hK K
      try simp only [Act.put, List.setIfInBounds_toArray, List.set_cons_zero, List.set_cons_succ]
      clear g
      refine wpS_e rfl (by rfl) (fun K hK => ?_)
      go_simp
      refine (end_any y.1 xs (peV y) V HD.out.2.2 HXA.out.1).mono ?_
      rintro e V0 ⟨ve, rfl, hne, hb⟩
      have H0 := Lib.hid (And.intro (HD.out.1.trans (hb.mono (by rw [HQ.out]; exact HD.out.1.size))) (And.intro ((Keeps.of_below (X := fun _ => False) hb).there HD.out.2.1 (by decide) (fun h => h)) hne.1))
      clear hb hne HD
      refine hK _ _ ?_; clear hK K
      try simp only [Act.put, List.setIfInBounds_toArray, List.set_cons_zero, List.set_cons_succ]
      refine wpS_e rfl (by rfl) (fun K hK => ?_)
      go_simp
      have HX := Lib.hid (sh_any (endB y.1 xs) ve V0 H0.out.2.2 (by have := length_endB y.1 xs; have := HXA.out.1; omega))
      rw [sh_eq, sha_end, ← HXA.out.2] at HX
      refine HX.out.mono ?_
      rintro e V1 ⟨rfl, hb⟩
      have H1 := Lib.hid (And.intro (H0.out.1.trans (hb.mono (by rw [HQ.out]; exact H0.out.1.size))) ((Keeps.of_below (X := fun _ => False) hb).there H0.out.2.1 (by decide) (fun h => h)))
      clear hb HX H0
      refine hK _ _ ?_; clear hK K
      try simp only [Act.put, List.setIfInBounds_toArray, List.set_cons_zero, List.set_cons_succ]
      refine wpS_e rfl (by rfl) (fun K hK => ?_)
      refine wp_store_sum _ _ (by rfl) q 0 A (by rfl) (by rfl) H1.out.2 ?_
      refine hK _ _ ?_; clear hK K
      try simp only [Act.put]
      refine wpS_done ?_
      go_wp2_with fail
      try rw [Exit.noGoto_ret]
      exact bodyPost_ret (results_sum Try.results87 _ _ _ _ rfl (World.there_setCells H1.out.2 _ _ _)) rfl ⟨rfl, setCells_below _ (by rw [HQ.out]; exact Nat.le_refl _) _ _ _ _ (by rw [← HQ.out]; exact H1.out.1)⟩
  | succ n ih =>
    intro P v vn w hn hv hN hR hS hF hl
    by_cases hP : P = []
    · subst hP
      obtain ⟨a, cap, rfl, h1, h2⟩ := pairs_form hv
      exact pat_nil (n + 1) a cap vn w hn hN
    · obtain ⟨ba, oa, ca, _, _, rfl, _, _, _⟩ := pairs_one hv (i := 0) (List.length_pos_iff.2 hP)
      obtain ⟨bn, on, cn, rfl, hcn, _⟩ := nones_at hN
      obtain ⟨c, hc⟩ : ∃ c, c = cutH n P := ⟨_, rfl⟩
      obtain ⟨s1, s2⟩ := cut_split hR hS
      have hcl : c ≤ P.length := by rw [hc]; exact List.length_filter_le _ _
      rw [← hc] at s1 s2
      have hat : atH (n + 1) P = sd (atH n (P.take c)) (atH n (P.drop c)) := by
        rw [s1, s2]
        unfold atH
        rw [Keys.at']
      obtain ⟨A, hA⟩ : ∃ A, A = atH n (P.take c) := ⟨_, rfl⟩
      obtain ⟨B, hB⟩ : ∃ B, B = atH n (P.drop c) := ⟨_, rfl⟩
      rw [hat, ← hA, ← hB]
      have hF1 : Small (P.take c) := fun p hp => hF p (List.mem_of_mem_take hp)
      have hF2 : Small (P.drop c) := fun p hp => hF p (List.mem_of_mem_drop hp)
      have hS1 : Keys.Same n (P.take c) := by rw [s1]; exact same_zero hS
      have hS2 : Keys.Same n (P.drop c) := by rw [s2]; exact same_one hS
      have hR1 : Keys.Rise (P.take c) := hR.sublist (List.take_sublist _ _)
      have hR2 : Keys.Rise (P.drop c) := hR.sublist (List.drop_sublist _ _)
      have i1 := fun (v vn : Value) (w : World) h1 h2 => ih (P.take c) v vn w (by omega) h1 h2 hR1 hS1 hF1 (by rw [List.length_take]; omega)
      have i2 := fun (v vn : Value) (w : World) h1 h2 => ih (P.drop c) v vn w (by omega) h1 h2 hR2 hS2 hF2 (by rw [List.length_drop]; omega)
      rw [← hA] at i1
      rw [← hB] at i2
      obtain ⟨D, hD⟩ : ∃ D, D = 256 - (n + 1) := ⟨_, rfl⟩
      obtain ⟨E, hE⟩ : ∃ E, E = 256 - n := ⟨_, rfl⟩
      have hcut := fun (v : Value) (w : World) (hv : PairsAt w v P) => pcut_any P v D w hv (by omega) hl hR (by rw [show 255 - D + 1 = n + 1 by omega]; exact hS)
      rw [show 255 - D = n by omega, ← hc] at hcut
      have hDE : D + 1 = E ∧ D ≤ 255 := by omega
      rw [← hE] at i1 i2
      rw [← hD]
      have HI := Lib.hid (And.intro i1 (And.intro i2 hcut))
      have hb0 := al (Below.refl _ w) (.cells (cells8 (List.replicate 32 0)).toArray 29)
      have ht0 := there_new w (cells8 (List.replicate 32 0)).toArray 29
      have HB0 := Lib.hid (And.intro hb0 (And.intro ht0 (And.intro (hv.below hb0) (hN.below hb0 (Nat.le_refl _)))))
      obtain ⟨N, hNN⟩ : ∃ N, N = P.length := ⟨_, rfl⟩
      have h0 : N ≠ 0 := fun e => hP (List.length_eq_zero_iff.1 (by rw [← hNN, e]))
      rw [← hNN] at HB0 hcl ⊢
      obtain ⟨_, _, he, hca, _⟩ := pairs_form (HB0.out.2.2.1)
      simp only [Value.slice.injEq] at he
      obtain ⟨-, -, rfl⟩ := he
      rw [← hNN] at hca
      have HNN := Lib.hid hNN
      clear hb0 ht0 hv hNN hN hR hS hF hl hn i1 i2 hcut hA hB hat s1 s2 hF1 hF2 hS1 hS2 hR1 hR2 hc ih
      have f1 : decide (N = 0) = false := by simpa using h0
      have f2 : decide ((N : Int) = 0) = false := by simp; omega
      have f3 : ((N : Int) == 0) = false := by rw [beq_eq_false_iff_ne]; omega
      have f4 : decide (D = 256) = false := by simp; omega
      have f5 : decide ((D : Int) = 256) = false := by simp; omega
      have f6 : ((D : Int) == 256) = false := by rw [beq_eq_false_iff_ne]; omega
      have q1 : (0 : Int) ≤ (c : Int) := by omega
      have q2 : (c : Int) ≤ (N : Int) := by omega
      have q3 : (N : Int) ≤ (ca : Int) := by omega
      have q4 : (c : Int) ≤ (ca : Int) := by omega
      have hw : IntKind.i64.wrap ((D : Int) + 1) = (E : Int) := by rw [IntKind.wrap_i64]; omega
      obtain ⟨q, hq⟩ : ∃ q, q = w.heap.size := ⟨_, rfl⟩
      have HQ := Lib.hid hq
      clear hq hD hE
      go_enter Try.func87, Try.ntmps87
      go_wp2_with fail
      refine (HI.out.2.2 _ (w.alloc (.cells (cells8 (List.replicate 32 0)).toArray 29)) HB0.out.2.2.1).mono ?_
      rintro e W1 ⟨rfl, hb⟩
      have H1 := Lib.hid (And.intro (HB0.out.1.trans (hb.mono HB0.out.1.size)) (And.intro ((Keeps.of_below (X := fun _ => False) hb).there HB0.out.2.1 (by decide) (fun h => h)) (And.intro (HB0.out.2.2.1.below hb) (HB0.out.2.2.2.below hb (Nat.le_refl _)))))
      rw [← HQ.out] at H1 ⊢
      clear hb HB0
      go_wp2_with fail
      refine wp_region_sched (fun W => True) [.t 0, .t 1, .t 2, .t 3, .t 4, .t 5, .t 7, .t 8, .t 9, .t 10, .t 11, .t 12, .e 6 false, .e 13 false, .e 14 false, .e 15 false] (by kernel_rfl) (by kernel_rfl) (by intro c a d v w h; cases d <;> exact h) ?_
      have H2 := Lib.hid (show Below w.heap.size w W1.drew ∧ W1.drew.there q 0 32 ∧ PairsAt W1.drew (.slice (some ⟨ba, oa, none⟩) N ca) P ∧ SumsAt W1.drew (.slice (some ⟨bn, on, none⟩) 257 cn) nones from ⟨by rw [← HQ.out]; exact H1.out.1.drew, H1.out.2.1, H1.out.2.2.1.below (Below.refl _ _).drew, H1.out.2.2.2.below (Below.refl _ _).drew (Nat.le_refl _)⟩)
      clear H1
      generalize W1.drew = V at *
      iterate 12
        refine wpS_t rfl (v := ?_) (by rfl) (fun W => ?_) ?_
        rotate_left
        · go_simp
          try rfl
        try simp only [Act.put, List.setIfInBounds_toArray, List.set_cons_zero, List.set_cons_succ]
      have hPt : PairsAt V (.slice (some ⟨ba, oa, none⟩) c ca) (P.take c) := by
        have h := H2.out.2.2.1
        rw [HNN.out] at h
        exact h.take (by rw [← HNN.out]; exact hcl)
      have hPd : PairsAt V (.slice (if ca = c then some ⟨ba, oa, none⟩ else some ⟨ba, oa + c * 33, none⟩) (N - c) (ca - c)) (P.drop c) := by
        have h := H2.out.2.2.1
        rw [HNN.out] at h
        have h2 := h.drop' (i := c) (by rw [← HNN.out]; exact hcl)
        rw [← HNN.out] at h2
        exact h2
      have HPP := Lib.hid (And.intro hPt hPd)
      clear hPt hPd
      refine wpS_e rfl (by rfl) (fun K hK => ?_)
      go_simp
      refine (HI.out.1 _ _ V HPP.out.1 H2.out.2.2.2).mono ?_
      rintro e V1 ⟨rfl, hb⟩
      have H3 := Lib.hid (And.intro (H2.out.1.trans (hb.mono H2.out.1.size)) (And.intro ((Keeps.of_below (X := fun _ => False) hb).there H2.out.2.1 (by decide) (fun h => h)) (And.intro (HPP.out.2.below hb) (H2.out.2.2.2.below hb (Nat.le_refl _)))))
      clear hb H2 HPP
      refine hK _ _ ?_; clear hK K
      try simp only [Act.put, List.setIfInBounds_toArray, List.set_cons_zero, List.set_cons_succ]
      refine wpS_e rfl (by rfl) (fun K hK => ?_)
      go_simp
      refine (HI.out.2.1 _ _ V1 H3.out.2.2.1 H3.out.2.2.2).mono ?_
      rintro e V2 ⟨rfl, hb⟩
      have H4 := Lib.hid (And.intro (H3.out.1.trans (hb.mono H3.out.1.size)) ((Keeps.of_below (X := fun _ => False) hb).there H3.out.2.1 (by decide) (fun h => h)))
      clear hb H3
      refine hK _ _ ?_; clear hK K
      try simp only [Act.put, List.setIfInBounds_toArray, List.set_cons_zero, List.set_cons_succ]
      refine wpS_e rfl (by rfl) (fun K hK => ?_)
      go_simp
      refine (sd_any A B V2).mono ?_
      rintro e V3 ⟨rfl, hb⟩
      have H5 := Lib.hid (And.intro (H4.out.1.trans (hb.mono H4.out.1.size)) ((Keeps.of_below (X := fun _ => False) hb).there H4.out.2 (by decide) (fun h => h)))
      clear hb H4
      refine hK _ _ ?_; clear hK K
      try simp only [Act.put, List.setIfInBounds_toArray, List.set_cons_zero, List.set_cons_succ]
      refine wpS_e rfl (by rfl) (fun K hK => ?_)
      refine wp_store_sum _ _ (by rfl) q 0 (sd A B) (by rfl) (by rfl) H5.out.2 ?_
      refine hK _ _ ?_; clear hK K
      try simp only [Act.put]
      refine wpS_done ?_
      go_wp2_with fail
      all_goals exact bodyPost_ret (results_sum Try.results87 _ _ _ _ rfl (World.there_setCells H5.out.2 _ _ _)) rfl ⟨rfl, setCells_below _ (by rw [HQ.out]; exact Nat.le_refl _) _ _ _ _ H5.out.1⟩
end Go.Proofs.Ytfmgoehnbaiamaa
-- Walk: splits.to.
namespace Go.Proofs.Ytfmgoehnbaiamaa
/-- Pairs behind a place, wherever they lie. -/
theorem PairsAt.dropG {w : World} {a : Option Addr} {cap i : Nat} {P : List Keys.Pr} (h : PairsAt w (.slice a P.length cap) P) (hi : i ≤ P.length) : PairsAt w (.slice (if cap = i then a else Option.map (fun x => x.add (i * 33)) a) (P.length - i) (cap - i)) (P.drop i) := by
  by_cases hP : P = []
  · subst hP
    obtain ⟨a', cap', cs, he, h1, h2, _⟩ := h
    simp only [Value.slice.injEq, true_and] at he
    obtain ⟨-, rfl⟩ := he
    have hi0 : i = 0 := by simpa using hi
    subst hi0
    exact ⟨if cap = 0 then a else Option.map (fun x => x.add (0 * 33)) a, cap - 0, [], rfl, Nat.zero_le _, by omega, rfl, fun c hc => (List.not_mem_nil hc).elim, .inl rfl⟩
  · obtain ⟨b, o, _, _, _, he, _⟩ := pairs_one h (i := 0) (List.length_pos_iff.2 hP)
    simp only [Value.slice.injEq] at he
    obtain ⟨rfl, -, rfl⟩ := he
    have := h.drop' hi
    rw [Option.map_some, Addr.add_mid]
    exact this
/-- What to has in hand. -/
structure TW (W1 W : World) (p D : Nat) (k : Sum) (P Q : List Keys.Pr) (T : List Sum) (lv : Value) : Prop where
  b1 : Below W1.heap.size W1 W
  rows : WayR W p 0 (dups T)
  len : T.length = D
  bes : besides k 256 P = T ++ besides k (256 - D) Q
  und : under k 256 P = under k (256 - D) Q
  rise : Keys.Rise Q
  near : Near k (256 - D) Q
  small : Small Q
  few : Q.length < 100000
  prs : PairsAt W1 lv Q
theorem TW.below {W1 W W' : World} {p D : Nat} {k : Sum} {P Q : List Keys.Pr} {T : List Sum} {lv : Value} (h : TW W1 W p D k P Q T lv) (hb : Below W.heap.size W W') : TW W1 W' p D k P Q T lv :=
  ⟨h.b1.trans (hb.mono h.b1.size), h.rows.below hb, h.len, h.bes, h.und, h.rise, h.near, h.small, h.few, h.prs⟩
/-- One depth down. -/
theorem TW.next {W1 W : World} {p D n : Nat} {k : Sum} {P Q : List Keys.Pr} {T : List Sum} {lv mv : Value} (h : TW W1 W p D k P Q T lv) (hD : D < 256) (hp : W1.heap.size ≤ p) (hn : n = 255 - D) (hm : PairsAt W1 mv (mine k n Q)) :
    TW W1 (W.setCells p (32 + D * 64) (cells2 (atH n (oth k n Q)) (atH n (oth k n Q)))) p (D + 1) k P (mine k n Q) (T ++ [atH n (oth k n Q)]) mv := by
  have hr := h.rows.behind (atH n (oth k n Q), atH n (oth k n Q)) (by rw [length_dups, h.len]; exact hD)
  rw [length_dups, h.len] at hr
  have hb := h.bes
  have hu := h.und
  have hne := h.near
  rw [show 256 - D = n + 1 by omega] at hb hu hne
  have e : 256 - (D + 1) = n := by omega
  refine ⟨setCells_below _ hp _ _ _ _ h.b1, ?_, by rw [List.length_append, h.len]; rfl, ?_, ?_, rise_mine h.rise, by rw [e]; exact hne.mine, fun q hq => h.small q (mem_mine.1 hq).1, ?_, hm⟩
  · have e2 : dups (T ++ [atH n (oth k n Q)]) = dups T ++ [(atH n (oth k n Q), atH n (oth k n Q))] := by unfold dups; rw [List.map_append]; rfl
    rw [e2]
    exact hr
  · rw [hb, besides, e, List.append_assoc]; rfl
  · rw [hu, under, e]
  · have := h.few
    have h2 : (mine k n Q).length ≤ Q.length := List.length_filter_le _ _
    omega
theorem cell_range {W : World} {p o : Nat} {v : Value} (h : W.cell? ⟨p, o, none⟩ = some v) : W.rangeAt p o [v] := fun j u hj => by
  match j, hj with
  | 0, hj => simp only [List.getElem?_cons_zero, Option.some.injEq] at hj; rw [← hj]; exact h
/-- The end, laid. -/
theorem WayR.end_ {W : World} {p : Nat} {A : List (Sum × Sum)} (h : WayR W p 0 A) (hA : A.length ≤ 256) {v : Value} {e : List UInt8} (hv : BytesAt W v e) (hne : ∀ k, v.ownBlock = some k → k ≠ p) :
    WayR (W.setCell ⟨p, 16416, none⟩ v) p 0 A ∧ EndR (W.setCell ⟨p, 16416, none⟩ v) p v e := by
  have kk : Keeps (fun i => i = p) W (W.setCell ⟨p, 16416, none⟩ v) := (Keeps.refl (fun i => i = p) W).setCell (p := ⟨p, 16416, none⟩) (.inl rfl) _
  obtain ⟨c0, hc0⟩ := Option.isSome_iff_exists.1 (h.th 16416 (by decide)).1
  rw [Nat.zero_add] at hc0
  have hap := World.rangeAt_setCells_apart h.row p 16416 [v] (.inr (.inl (by rw [length_cellsB]; omega)))
  exact ⟨⟨there_setCell h.th _ _ _, hap⟩, ⟨World.cell?_setCell_same _ _ _ hc0, bytes_keep kk hv (fun k hk e => hne k hk e), hne⟩⟩
set_option maxRecDepth 100000 in
set_option maxHeartbeats 4000000 in
theorem to_any (P : List Keys.Pr) (v : Value) (k : Sum) (w : World) (hv : PairsAt w v P) (hr : Keys.Rise P) (hs : Small P) (hl : P.length < 100000) :
    Calls Try.prog 69 #[v, sv k] w fun r w' => ∃ p ve, r = .returned (.pointer (some ⟨p, 0, none⟩)) ∧ WayAt w' p (rootOf P) (boths k 256 (besides k 256 P) (vl k (Keys.get P k))) ve (endB k (Keys.get P k)) ∧ w.heap.size ≤ p ∧ Below w.heap.size w w' := by
  have hb0 := al (Below.refl _ w) (.cells (cellsOf k).toArray 29)
  have H0 := Lib.hid (And.intro hb0 (And.intro (range_new w (cellsOf k).toArray 29 _ rfl) (hv.below hb0)))
  have HP := Lib.hid (And.intro hr (And.intro hs (And.intro hl hv)))
  obtain ⟨z, hz⟩ : ∃ z, z = w.heap.size := ⟨_, rfl⟩
  have HZ := Lib.hid hz
  clear hb0 hv hr hs hl hz
  go_enter Try.func69, Try.ntmps69
  go_wp2_with fail
  refine (pempty_any (w.alloc (.cells (cellsOf k).toArray 29))).mono ?_
  rintro r W1 ⟨vn, rfl, hno, hnf, hb⟩
  have kk1 := Keeps.of_below (X := fun _ => False) hb
  have H1 := Lib.hid (And.intro (H0.out.1.trans (hb.mono H0.out.1.size)) (And.intro (kk1.range H0.out.2.1 (fun h => h)) (And.intro (H0.out.2.2.below hb) hno)))
  have HNF := Lib.hid hnf
  clear hb kk1 hno H0 hnf
  go_wp2_with (first
    | (refine wpList_build_way0 rfl rfl ?_)
    | (refine wpList_box_agg rfl _ _ rfl zway rfl ?_))
  have ht := there_new W1 zway 108
  rw [zway_size] at ht
  obtain ⟨p, hp⟩ : ∃ p, p = W1.heap.size := ⟨_, rfl⟩
  have HT := Lib.hid (show TW W1 (W1.alloc (.cells zway 108)) W1.heap.size 0 k P P [] v from
    ⟨al (Below.refl _ _) _, ⟨ht, range_nil _ _ _⟩, rfl, rfl, rfl, HP.out.1, near_top k P, HP.out.2.1, HP.out.2.2.1, HP.out.2.2.2.below H1.out.1⟩)
  have HPW := Lib.hid (show W1.heap.size ≤ p by rw [hp]; exact Nat.le_refl _)
  have HBW := Lib.hid H1.out.1
  have HWZ := Lib.hid (show w.heap.size ≤ p by rw [hp]; exact H1.out.1.size)
  rw [← hp] at HT ⊢
  rw [← HZ.out] at H1 ⊢
  clear hp ht
  generalize W1.alloc (.cells zway 108) = W2 at *
  go_loopw [0, 15] (fun lv iv W => ∃ (D : Nat) (Q : List Keys.Pr) (T : List Sum), D ≤ 256 ∧ iv = .int .i64 (D : Int) ∧ TW W1 W p D k P Q T lv) (fun _ iv _ => 256 - (intOf iv).toNat)
  case atStart => exact ⟨0, P, [], by omega, rfl, HT.out⟩
  case round =>
    clear HT
    obtain ⟨D, Q, T, hD, rfl, hT⟩ := hrel
    obtain ⟨a, cL, rfl, hc1, hc2⟩ := pairs_form hT.prs
    have HT := Lib.hid hT
    clear hT
    by_cases hlt : D < 256
    · have c1 : decide (D < 256) = true := by simpa using hlt
      have c1' : decide ((D : Int) < 256) = true := by simp; omega
      obtain ⟨n, hn⟩ : ∃ n, n = 255 - D := ⟨_, rfl⟩
      have hnear := HT.out.near
      rw [show 256 - D = n + 1 by omega] at hnear
      have hsame := near_same hnear
      have hcut := pcut_any Q (.slice a Q.length cL) D wr (HT.out.prs.below HT.out.b1) hlt HT.out.few HT.out.rise (by rw [← hn]; exact hsame)
      rw [← hn] at hcut
      have hmi := cut_mine (k := k) HT.out.rise hsame
      have hcl : cutH n Q ≤ Q.length := List.length_filter_le _ _
      obtain ⟨c, hc⟩ : ∃ c, c = cutH n Q := ⟨_, rfl⟩
      rw [← hc] at hcut hmi hcl
      have HC := Lib.hid hcut
      have HM := Lib.hid hmi
      have HNN := Lib.hid (And.intro hn (And.intro hlt hnear))
      have hpd := HT.out.prs.dropG (i := c) hcl
      have hpt := HT.out.prs.take (i := c) hcl
      obtain ⟨N, hN⟩ : ∃ N, N = Q.length := ⟨_, rfl⟩
      rw [← hN] at HC hcl hc1 hpd HT ⊢
      have HPP := Lib.hid (And.intro hpt hpd)
      have q1 : (0 : Int) ≤ (c : Int) := by omega
      have q2 : (c : Int) ≤ (N : Int) := by omega
      have q3 : (N : Int) ≤ (cL : Int) := by omega
      have q4 : (c : Int) ≤ (cL : Int) := by omega
      clear hcut hmi hn hnear hsame hc hN hpd hpt hlt hc2
      go_wp2_with fail
      refine HC.out.mono ?_
      rintro e W5 ⟨rfl, hb⟩
      have H5 := Lib.hid (HT.out.below hb)
      clear hb HT HC
      go_wp2_with fail
      refine wp_region_sched (fun W => True) [.t 0, .t 1, .t 2, .t 3, .t 4, .t 5, .t 6, .t 7] (by kernel_rfl) (by kernel_rfl) (by intro c a d v w h; cases d <;> exact h) ?_
      have H6 := Lib.hid (H5.out.below (Below.refl _ _).drew)
      clear H5
      generalize W5.drew = V at *
      iterate 8
        refine wpS_t rfl (v := ?_) (by rfl) (fun W => ?_) ?_
        rotate_left
        · go_simp
          try rfl
        try simp only [Act.put, List.setIfInBounds_toArray, List.set_cons_zero, List.set_cons_succ]
      obtain ⟨v2, hv2⟩ : ∃ v, v = Value.slice (if cL = c then a else Option.map (fun x => x.add (c * 33)) a) (N - c) (cL - c) := ⟨_, rfl⟩
      rw [← hv2] at HPP ⊢
      obtain ⟨v1, hv1⟩ : ∃ v, v = Value.slice a c cL := ⟨_, rfl⟩
      rw [← hv1] at HPP ⊢
      clear hv1 hv2 q1 q2 q3 q4
      refine wpS_done ?_
      obtain ⟨b, hb0⟩ : ∃ b, b = (Keys.kn k >>> n) % 2 := ⟨_, rfl⟩
      have hcb := bit_any k D V HNN.out.2.1
      rw [← HNN.out.1, ← hb0] at hcb
      have HBT := Lib.hid hb0
      have HCB := Lib.hid hcb
      have hzk := (Keeps.of_below (X := fun _ => False) H6.out.b1).range H1.out.2.1 (fun h => h)
      have HZK := Lib.hid hzk
      clear hb0 hcb hzk
      go_wp2_with (refine wpList_load_sum rfl _ rfl z 0 rfl k HZK.out ?_)
      refine HCB.out.mono ?_
      rintro rr V1 ⟨rfl, hb⟩
      have H7 := Lib.hid (H6.out.below hb)
      clear hb H6 HCB HZK
      have hwE : wrap64 ((D : Int) + 1) = ((256 - n : Nat) : Int) := by have := HNN.out; unfold wrap64; omega
      have hwj : wrap64 ((D : Int) + 1) = ((D + 1 : Nat) : Int) := by have := HNN.out; unfold wrap64; omega
      have HWE := Lib.hid hwE
      have HWJ := Lib.hid hwj
      clear hwE hwj
      by_cases hb1 : b = 1
      · have hbit : (Keys.kn k).testBit n = true := (bit_ne k n).1 (by rw [← HBT.out, hb1])
        have hmo := HM.out.2 hbit
        have HMO := Lib.hid (And.intro (show PairsAt W1 v2 (mine k n Q) by rw [hmo.1]; exact HPP.out.2) (show PairsAt W1 v1 (oth k n Q) by rw [hmo.2]; exact HPP.out.1))
        obtain ⟨mv, hmv⟩ : ∃ x, x = v2 := ⟨_, rfl⟩
        obtain ⟨ov, hov⟩ : ∃ x, x = v1 := ⟨_, rfl⟩
        rw [← hmv, ← hov] at HMO ⊢
        subst hb1
        clear hbit hmo hmv hov HPP
        have hA := pat_any n (oth k n Q) ov vn V1 (by have := HNN.out; omega) (HMO.out.2.below H7.out.b1) (H1.out.2.2.2.below H7.out.b1 (Nat.le_refl _)) (H7.out.rise.sublist List.filter_sublist) (same_oth HNN.out.2.2) (fun q hq => H7.out.small q (mem_oth.1 hq).1) (Nat.lt_of_le_of_lt (List.length_filter_le _ _) H7.out.few)
        rw [show ((256 - n : Nat) : Int) = (D : Int) + 1 by have := HNN.out; omega] at hA
        have HA := Lib.hid hA
        clear hA
        obtain ⟨s, hs⟩ : ∃ s, s = atH n (oth k n Q) := ⟨_, rfl⟩
        rw [← hs] at HA
        have HS := Lib.hid hs
        clear hs
        go_wp2_with fail
        refine HA.out.mono ?_
        rintro e V2 ⟨rfl, hb⟩
        have H8 := Lib.hid (H7.out.below hb)
        clear hb H7 HA
        have HG := Lib.hid trivial
        go_wp2_with (have _ := HG; refine wpList_var_sum (by rfl) rfl _ _ rfl s rfl rfl ?_; intro V3 hb hr _; obtain ⟨r, hr0⟩ : ∃ x, x = V2.heap.size := ⟨_, rfl⟩; rw [← hr0] at hr ⊢; have H9 := Lib.hid (And.intro (H8.out.below hb) hr); clear HG hb hr hr0 H8)
        refine wp_region_sched (fun W => W.rangeAt r 0 (cellsOf s)) [.t 0, .t 1, .t 5, .t 6, .s 2, .e 3 true, .t 4, .t 7, .e 8 false] (by kernel_rfl) (by kernel_rfl) (by intro c a d v w h; cases d <;> exact h) ?_
        have H10 := Lib.hid (And.intro (H9.out.1.below (Below.refl _ _).drew) (show V3.drew.rangeAt r 0 (cellsOf s) from H9.out.2))
        clear H9
        generalize V3.drew = V4 at *
        iterate 4
          refine wpS_t rfl (v := ?_) (by rfl) (fun W => ?_) ?_
          rotate_left
          · go_simp
            try rfl
          try simp only [Act.put, List.setIfInBounds_toArray, List.set_cons_zero, List.set_cons_succ]
        refine wpS_load_sum (by exact H10.out.2) rfl (by rfl) _ (by rfl) r 0 (by rfl) s (fun W hW => hW) ?_
        try simp only [Act.put, List.setIfInBounds_toArray, List.set_cons_zero, List.set_cons_succ]
        refine wpS_k rfl (by rfl) (fun K hK => ?_)
        refine wp_load_sum _ (by rfl) r 0 (by rfl) s H10.out.2 ?_
        refine hK _ _ ⟨by exact H10.out.2, ?_⟩; clear hK K
        try simp only [Act.put, List.setIfInBounds_toArray, List.set_cons_zero, List.set_cons_succ]
        refine wpS_t rfl (v := bv s s) (by rfl) (fun W => exec_build_two _ rfl s s (by rfl) W) ?_
        try simp only [Act.put, List.setIfInBounds_toArray, List.set_cons_zero, List.set_cons_succ]
        have d0 : (0 : Int) ≤ (D : Int) := Int.natCast_nonneg _
        have d1 : (D : Int) < 256 := by have := HNN.out; omega
        iterate 1
          refine wpS_t rfl (v := ?_) (by rfl) (fun W => ?_) ?_
          rotate_left
          · go_simp
            try rfl
          try simp only [Act.put, List.setIfInBounds_toArray, List.set_cons_zero, List.set_cons_succ]
        refine wpS_e rfl (by rfl) (fun K hK => ?_)
        refine wp_store_two _ _ (by rfl) p (32 + D * 64) s s (by rfl) (by rfl) (H10.out.1.rows.at (by have := HNN.out; omega)) ?_
        have hnx := H10.out.1.next (n := n) (mv := mv) HNN.out.2.1 HPW.out HNN.out.1 HMO.out.1
        rw [← HS.out] at hnx
        have HNX := Lib.hid hnx
        clear hnx H10 d0 d1
        refine hK _ _ ?_; clear hK K
        try simp only [Act.put]
        change wpS _ _ _ _ _ _ _ (V4.setCells p (32 + D * 64) (cells2 s s))
        generalize V4.setCells p (32 + D * 64) (cells2 s s) = V5 at *
        refine wpS_done ?_
        go_wp2_with fail
        try rw [HWJ.out]
        exact ⟨⟨D + 1, mine k n Q, T ++ [s], by have := HNN.out; omega, rfl, HNX.out⟩, by simp only [intOf]; have := HNN.out; omega⟩
      · have hbit : (Keys.kn k).testBit n = false := by
          cases h : (Keys.kn k).testBit n
          · rfl
          · exact absurd ((bit_ne k n).2 h) (by rw [← HBT.out]; exact hb1)
        have hmo := HM.out.1 hbit
        have HMO := Lib.hid (And.intro (show PairsAt W1 v1 (mine k n Q) by rw [hmo.1]; exact HPP.out.1) (show PairsAt W1 v2 (oth k n Q) by rw [hmo.2]; exact HPP.out.2))
        obtain ⟨mv, hmv⟩ : ∃ x, x = v1 := ⟨_, rfl⟩
        obtain ⟨ov, hov⟩ : ∃ x, x = v2 := ⟨_, rfl⟩
        rw [← hmv, ← hov] at HMO ⊢
        have f1 : decide (b = 1) = false := by simpa using hb1
        have f2 : decide ((b : Int) = 1) = false := by simp; omega
        have f3 : ((b : Int) == 1) = false := by rw [beq_eq_false_iff_ne]; omega
        clear hbit hmo hmv hov HPP hb1
        have hA := pat_any n (oth k n Q) ov vn V1 (by have := HNN.out; omega) (HMO.out.2.below H7.out.b1) (H1.out.2.2.2.below H7.out.b1 (Nat.le_refl _)) (H7.out.rise.sublist List.filter_sublist) (same_oth HNN.out.2.2) (fun q hq => H7.out.small q (mem_oth.1 hq).1) (Nat.lt_of_le_of_lt (List.length_filter_le _ _) H7.out.few)
        rw [show ((256 - n : Nat) : Int) = (D : Int) + 1 by have := HNN.out; omega] at hA
        have HA := Lib.hid hA
        clear hA
        obtain ⟨s, hs⟩ : ∃ s, s = atH n (oth k n Q) := ⟨_, rfl⟩
        rw [← hs] at HA
        have HS := Lib.hid hs
        clear hs
        go_wp2_with fail
        refine HA.out.mono ?_
        rintro e V2 ⟨rfl, hb⟩
        have H8 := Lib.hid (H7.out.below hb)
        clear hb H7 HA
        have HG := Lib.hid trivial
        go_wp2_with (have _ := HG; refine wpList_var_sum (by rfl) rfl _ _ rfl s rfl rfl ?_; intro V3 hb hr _; obtain ⟨r, hr0⟩ : ∃ x, x = V2.heap.size := ⟨_, rfl⟩; rw [← hr0] at hr ⊢; have H9 := Lib.hid (And.intro (H8.out.below hb) hr); clear HG hb hr hr0 H8)
        refine wp_region_sched (fun W => W.rangeAt r 0 (cellsOf s)) [.t 0, .t 1, .t 5, .t 6, .s 2, .e 3 true, .t 4, .t 7, .e 8 false] (by kernel_rfl) (by kernel_rfl) (by intro c a d v w h; cases d <;> exact h) ?_
        have H10 := Lib.hid (And.intro (H9.out.1.below (Below.refl _ _).drew) (show V3.drew.rangeAt r 0 (cellsOf s) from H9.out.2))
        clear H9
        generalize V3.drew = V4 at *
        iterate 4
          refine wpS_t rfl (v := ?_) (by rfl) (fun W => ?_) ?_
          rotate_left
          · go_simp
            try rfl
          try simp only [Act.put, List.setIfInBounds_toArray, List.set_cons_zero, List.set_cons_succ]
        refine wpS_load_sum (by exact H10.out.2) rfl (by rfl) _ (by rfl) r 0 (by rfl) s (fun W hW => hW) ?_
        try simp only [Act.put, List.setIfInBounds_toArray, List.set_cons_zero, List.set_cons_succ]
        refine wpS_k rfl (by rfl) (fun K hK => ?_)
        refine wp_load_sum _ (by rfl) r 0 (by rfl) s H10.out.2 ?_
        refine hK _ _ ⟨by exact H10.out.2, ?_⟩; clear hK K
        try simp only [Act.put, List.setIfInBounds_toArray, List.set_cons_zero, List.set_cons_succ]
        refine wpS_t rfl (v := bv s s) (by rfl) (fun W => exec_build_two _ rfl s s (by rfl) W) ?_
        try simp only [Act.put, List.setIfInBounds_toArray, List.set_cons_zero, List.set_cons_succ]
        have d0 : (0 : Int) ≤ (D : Int) := Int.natCast_nonneg _
        have d1 : (D : Int) < 256 := by have := HNN.out; omega
        iterate 1
          refine wpS_t rfl (v := ?_) (by rfl) (fun W => ?_) ?_
          rotate_left
          · go_simp
            try rfl
          try simp only [Act.put, List.setIfInBounds_toArray, List.set_cons_zero, List.set_cons_succ]
        refine wpS_e rfl (by rfl) (fun K hK => ?_)
        refine wp_store_two _ _ (by rfl) p (32 + D * 64) s s (by rfl) (by rfl) (H10.out.1.rows.at (by have := HNN.out; omega)) ?_
        have hnx := H10.out.1.next (n := n) (mv := mv) HNN.out.2.1 HPW.out HNN.out.1 HMO.out.1
        rw [← HS.out] at hnx
        have HNX := Lib.hid hnx
        clear hnx H10 d0 d1
        refine hK _ _ ?_; clear hK K
        try simp only [Act.put]
        change wpS _ _ _ _ _ _ _ (V4.setCells p (32 + D * 64) (cells2 s s))
        generalize V4.setCells p (32 + D * 64) (cells2 s s) = V5 at *
        refine wpS_done ?_
        go_wp2_with fail
        try rw [HWJ.out]
        exact ⟨⟨D + 1, mine k n Q, T ++ [s], by have := HNN.out; omega, rfl, HNX.out⟩, by simp only [intOf]; have := HNN.out; omega⟩
    · have hD6 : D = 256 := by omega
      subst hD6
      have c1 : decide (256 < 256) = false := by simp
      have c1' : decide (((256 : Nat) : Int) < 256) = false := by simp
      obtain ⟨N, hN⟩ : ∃ N, N = Q.length := ⟨_, rfl⟩
      have hbe := HT.out.bes
      have hun := HT.out.und
      rw [Nat.sub_self, besides, List.append_nil] at hbe
      rw [Nat.sub_self, under] at hun
      have hget := end_under (k := k) 256 P HP.out.1 (near_top k P)
      rw [hun] at hget
      have hgl : (Keys.get P k).length < 140737488355000 := by
        rw [hget]
        cases Q with
        | nil => simp
        | cons q r => exact HT.out.small q List.mem_cons_self
      have HEND := Lib.hid (And.intro hbe (And.intro hget (And.intro HT.out.len hgl)))
      have HNN := Lib.hid hN
      rw [← hN] at HT hc1 ⊢
      have q3 : (N : Int) ≤ (cL : Int) := by omega
      have hzk := (Keeps.of_below (X := fun _ => False) HT.out.b1).range H1.out.2.1 (fun h => h)
      have HZK := Lib.hid hzk
      clear hbe hun hget hgl hN hzk hD hlt
      go_wp2_with (refine wpList_load_sum rfl _ rfl z 0 rfl k HZK.out ?_)
      refine (end_any k [] (.slice none 0 0) wr ⟨none, 0, rfl, Nat.le_refl _, Nat.zero_le _, .inl rfl⟩ (by decide)).mono ?_
      rintro rr V1 ⟨ve, rfl, hne, hb⟩
      have H2 := Lib.hid (HT.out.below hb)
      have hpl : p < wr.heap.size := there_lt HT.out.rows.th (by decide)
      have hvp : ∀ i, ve.ownBlock = some i → i ≠ p := fun i hi => by have := (hne.2 i hi).1; omega
      have hen := H2.out.rows.end_ (by rw [length_dups, H2.out.len]; exact Nat.le_refl _) hne.1 hvp
      obtain ⟨c0, hc0⟩ := Option.isSome_iff_exists.1 (H2.out.rows.th 16416 (by decide)).1
      have f0 := (H2.out.rows.th 16416 (by decide)).2
      rw [Nat.zero_add] at hc0 f0
      have hkw : Keeps (fun i => i = p) V1 (V1.setCell ⟨p, 16416, none⟩ ve) := (Keeps.refl (fun i => i = p) V1).setCell (p := ⟨p, 16416, none⟩) (.inl rfl) _
      have hbw1 : Below W1.heap.size W1 (V1.setCell ⟨p, 16416, none⟩ ve) := H2.out.b1.trans (hkw.below H2.out.b1.size (fun i hi => by rw [hi]; exact HPW.out))
      have hve1 : ve.cells = #[ve] := by
        obtain ⟨a1, cc1, hve, -⟩ := hne.1
        rw [hve]; rfl
      have HVE := Lib.hid hve1
      have H3 := Lib.hid (And.intro hen (And.intro hbw1 (show ∀ i, ve.ownBlock = some i → i < (V1.setCell ⟨p, 16416, none⟩ ve).heap.size from fun i hi => Nat.lt_of_lt_of_le (hne.2 i hi).2 hkw.size)))
      have HPR := Lib.hid H2.out.prs
      clear hne hb hvp hen hkw hbw1 hve1 HT H2 HZK hpl
      obtain ⟨av, nv, cv, rfl⟩ : ∃ av nv cv, ve = .slice av nv cv := by
        obtain ⟨a1, cc1, hve, -⟩ := H3.out.1.2.bt
        exact ⟨a1, _, cc1, hve⟩
      by_cases hN0 : N = 0
      · have hQ : Q = [] := List.length_eq_zero_iff.1 (by rw [← HNN.out, hN0])
        have HGE := Lib.hid (show Keys.get P k = [] by rw [HEND.out.2.1, hQ])
        subst hN0
        clear hQ
        have hzk := (Keeps.of_below (X := fun _ => False) H3.out.2.1).range H1.out.2.1 (fun h => h)
        have HZK := Lib.hid hzk
        clear hzk
        have H4 := Lib.hid (show WayR (V1.setCell ⟨p, 16416, none⟩ (.slice av nv cv)) p 0 (dups T) ∧ EndR (V1.setCell ⟨p, 16416, none⟩ (.slice av nv cv)) p (.slice av nv cv) (endB k (Keys.get P k)) ∧ (∀ i, Value.ownBlock (.slice av nv cv) = some i → i < (V1.setCell ⟨p, 16416, none⟩ (.slice av nv cv)).heap.size) ∧ Below w.heap.size w (V1.setCell ⟨p, 16416, none⟩ (.slice av nv cv)) from ⟨H3.out.1.1, by rw [HGE.out]; exact H3.out.1.2, H3.out.2.2, HBW.out.trans (H3.out.2.1.mono HBW.out.size)⟩)
        clear H3
        go_wp2_with (refine wpList_load_sum rfl _ rfl z 0 rfl k HZK.out ?_)
        refine (up_any k (vl k (Keys.get P k)) T p (.slice av nv cv) (endB k (Keys.get P k)) _ HEND.out.2.2.1 H4.out.1 H4.out.2.1 (by rw [sh_eq, sha_end]) (by have := length_endB k (Keys.get P k); have := HEND.out.2.2.2; omega) H4.out.2.2.1).mono ?_
        rintro r W9 ⟨rfl, hwy, hk⟩
        have HW := Lib.hid (And.intro hwy ((H4.out.2.2.2.trans (hk.below H4.out.2.2.2.size (fun i hi => by rw [hi]; exact HWZ.out)))))
        clear hwy hk H4
        go_wp2_with fail
        refine bodyPost_ret (results_tmp rfl _ _ _) rfl ?_
        refine ⟨p, (.slice av nv cv), rfl, ?_, HWZ.out, HW.out.2⟩
        have h := HW.out.1
        rw [← HEND.out.1, up_root HP.out.1] at h
        exact h
      · obtain ⟨ba, oa, ca', y, xs, he1, hr1, hy1, hg1⟩ := pairs_one HPR.out (i := 0) (by rw [← HNN.out]; omega)
        simp only [Value.slice.injEq] at he1
        obtain ⟨rfl, -, rfl⟩ := he1
        rw [Nat.zero_mul, Nat.add_zero] at hr1
        have hgx : Keys.get P k = xs := by
          rw [HEND.out.2.1]
          cases Q with
          | nil => cases hg1
          | cons q r =>
            simp only [List.getElem?_cons_zero, Option.some.injEq] at hg1
            rw [hg1]
        have kk := Keeps.of_below (X := fun _ => False) H3.out.2.1
        have HX := Lib.hid (And.intro (kk.range H1.out.2.1 (fun h => h)) (And.intro (kk.range hr1 (fun h => h)) (And.intro (bytes_below hy1 H3.out.2.1 (Nat.le_refl _)) hgx)))
        have f1 : decide (0 < N) = true := by simp; omega
        have f2 : decide ((0 : Int) < (N : Int)) = true := by simp; omega
        have f3 : (0 : Int) < (N : Int) := by omega
        have f4 : 0 < N := by omega
        clear hr1 hy1 hg1 hgx kk hN0
        go_wp2_with fail
        refine wp_region_sched (fun W => W.rangeAt z 0 (cellsOf k)) [.t 0, .t 2, .t 3, .t 4, .s 1, .e 5 true, .e 6 false, .t 7, .t 8, .e 9 false] (by kernel_rfl) (by kernel_rfl) (by intro c a d v w h; cases d <;> exact h) ?_
        have H4 := Lib.hid (show (V1.setCell ⟨p, 16416, none⟩ (.slice av nv cv)).drew.rangeAt z 0 (cellsOf k) ∧ (V1.setCell ⟨p, 16416, none⟩ (.slice av nv cv)).drew.rangeAt ba oa (encP y) ∧ BytesAt (V1.setCell ⟨p, 16416, none⟩ (.slice av nv cv)).drew (peV y) xs ∧ WayR (V1.setCell ⟨p, 16416, none⟩ (.slice av nv cv)).drew p 0 (dups T) ∧ Below W1.heap.size W1 (V1.setCell ⟨p, 16416, none⟩ (.slice av nv cv)).drew from
          ⟨HX.out.1, HX.out.2.1, bytes_below HX.out.2.2.1 (Below.refl _ _).drew (Nat.le_refl _), H3.out.1.1.below (Below.refl _ _).drew, H3.out.2.1.drew⟩)
        have HGX := Lib.hid HX.out.2.2.2
        clear H3 HX hc0 f0
        generalize World.drew _ = V at *
        iterate 4
          refine wpS_t rfl (v := ?_) (by rfl) (fun W => ?_) ?_
          rotate_left
          · go_simp
            try rfl
          try simp only [Act.put, List.setIfInBounds_toArray, List.set_cons_zero, List.set_cons_succ]
        refine wpS_load_sum (by exact H4.out.1) rfl (by rfl) _ (by rfl) z 0 (by rfl) k (fun W hW => hW) ?_
        try simp only [Act.put, List.setIfInBounds_toArray, List.set_cons_zero, List.set_cons_succ]
        refine wpS_k rfl (by rfl) (fun K hK => ?_)
        have g : V.cell? ⟨ba, oa + 32, none⟩ = some (peV y) := H4.out.2.1 32 (peV y) (by rw [encP, List.getElem?_append_right (by rw [length_cellsOf]; omega), length_cellsOf]; rfl)
        go_simp
        refine hK _ _ ⟨by exact H4.out.1, ?_⟩; clear hK K
        try simp only [Act.put, List.setIfInBounds_toArray, List.set_cons_zero, List.set_cons_succ]
        clear g
        refine wpS_e rfl (by rfl) (fun K hK => ?_)
        go_simp
        refine (end_any k xs (peV y) V H4.out.2.2.1 (by have := HEND.out.2.2.2; have e := HGX.out; rw [e] at this; exact this)).mono ?_
        rintro rr V3 ⟨ve, rfl, hne, hb⟩
        have hpl : p < V.heap.size := there_lt H4.out.2.2.2.1.th (by decide)
        have hvp : ∀ i, ve.ownBlock = some i → i ≠ p := fun i hi => by have := (hne.2 i hi).1; omega
        have hr3 := H4.out.2.2.2.1.below hb
        have hen := hr3.end_ (by rw [length_dups, HEND.out.2.2.1]; exact Nat.le_refl _) hne.1 hvp
        have hb3 := H4.out.2.2.2.2.trans (hb.mono H4.out.2.2.2.2.size)
        obtain ⟨c0, hc0⟩ := Option.isSome_iff_exists.1 (hr3.th 16416 (by decide)).1
        have f0 := (hr3.th 16416 (by decide)).2
        rw [Nat.zero_add] at hc0 f0
        have hkw : Keeps (fun i => i = p) V3 (V3.setCell ⟨p, 16416, none⟩ ve) := (Keeps.refl (fun i => i = p) V3).setCell (p := ⟨p, 16416, none⟩) (.inl rfl) _
        have hbw1 : Below W1.heap.size W1 (V3.setCell ⟨p, 16416, none⟩ ve) := hb3.trans (hkw.below hb3.size (fun i hi => by rw [hi]; exact HPW.out))
        have H5 := Lib.hid (show WayR (V3.setCell ⟨p, 16416, none⟩ ve) p 0 (dups T) ∧ EndR (V3.setCell ⟨p, 16416, none⟩ ve) p ve (endB k (Keys.get P k)) ∧ (∀ i, ve.ownBlock = some i → i < (V3.setCell ⟨p, 16416, none⟩ ve).heap.size) ∧ Below w.heap.size w (V3.setCell ⟨p, 16416, none⟩ ve) from
          ⟨hen.1, by rw [HGX.out]; exact hen.2, fun i hi => Nat.lt_of_lt_of_le (hne.2 i hi).2 hkw.size, HBW.out.trans (hbw1.mono HBW.out.size)⟩)
        have HZK := Lib.hid ((Keeps.of_below (X := fun _ => False) hbw1).range H1.out.2.1 (fun h => h))
        obtain ⟨av2, nv2, cv2, rfl⟩ : ∃ av nv cv, ve = .slice av nv cv := by
          obtain ⟨a1, cc1, hve, -⟩ := hne.1
          exact ⟨a1, _, cc1, hve⟩
        clear hpl hvp hr3 hen hb3 hkw hbw1 hne hb H4
        refine hK _ _ ?_; clear hK K
        try simp only [Act.put, List.setIfInBounds_toArray, List.set_cons_zero, List.set_cons_succ]
        iterate 2
          refine wpS_t rfl (v := ?_) (by rfl) (fun W => ?_) ?_
          rotate_left
          · go_simp
            try rfl
          try simp only [Act.put, List.setIfInBounds_toArray, List.set_cons_zero, List.set_cons_succ]
        refine wpS_e rfl (by rfl) (fun K hK => ?_)
        go_simp
        refine hK _ _ ?_; clear hK K
        try simp only [Act.put, List.setIfInBounds_toArray, List.set_cons_zero, List.set_cons_succ]
        refine wpS_done ?_
        clear hc0 f0 f1 f2 f3 f4
        go_wp2_with (refine wpList_load_sum rfl _ rfl z 0 rfl k HZK.out ?_)
        refine (up_any k (vl k (Keys.get P k)) T p (.slice av2 nv2 cv2) (endB k (Keys.get P k)) _ HEND.out.2.2.1 H5.out.1 H5.out.2.1 (by rw [sh_eq, sha_end]) (by have := length_endB k (Keys.get P k); have := HEND.out.2.2.2; omega) H5.out.2.2.1).mono ?_
        rintro r W9 ⟨rfl, hwy, hk⟩
        have HW := Lib.hid (And.intro hwy ((H5.out.2.2.2.trans (hk.below H5.out.2.2.2.size (fun i hi => by rw [hi]; exact HWZ.out)))))
        clear hwy hk H5
        go_wp2_with fail
        refine bodyPost_ret (results_tmp rfl _ _ _) rfl ?_
        refine ⟨p, (.slice av2 nv2 cv2), rfl, ?_, HWZ.out, HW.out.2⟩
        have h := HW.out.1
        rw [← HEND.out.1, up_root HP.out.1] at h
        exact h
end Go.Proofs.Ytfmgoehnbaiamaa
-- Walks: splits.may, splits.other; bytes.Equal.
namespace Go.Proofs.Ytfmgoehnbaiamaa
theorem bytesOf_nums (l : List UInt8) : Lib.bytesOf (l.map fun x => ((x.toNat : Nat) : Int)) = l := by
  unfold Lib.bytesOf
  rw [List.map_map]
  conv => rhs; rw [← List.map_id l]
  apply List.map_congr_left
  intro x _
  simp
theorem bytes_in {w : World} {a : Option Addr} {c : Nat} {l : List UInt8} (h : BytesAt w (.slice a l.length c) l) : Lib.BytesIn w a l.length (l.map fun x => ((x.toNat : Nat) : Int)) := by
  obtain ⟨a', cap, he, h1, h2, h3⟩ := h
  by_cases hl : l = []
  · subst hl; exact Lib.BytesIn.nil _ _ _
  · obtain ⟨b, o, rfl, hr⟩ := h3.resolve_left hl
    simp only [Value.slice.injEq] at he
    rw [he.1]
    refine Lib.BytesIn.of_cells fun i hi => ?_
    rw [Addr.add_mid]
    refine hr i _ ?_
    simp [cells8, u8v, hi]
theorem eqb_any (a b : List UInt8) (va vb : Value) (w : World) (ha : BytesAt w va a) (hb : BytesAt w vb b) : Calls Try.prog 72 #[va, vb] w fun e w' => e = .returned (.bool (decide (a = b))) ∧ w = w' := by
  obtain ⟨aa, ca, rfl, a1, a2, a3⟩ := ha
  obtain ⟨ab, cb, rfl, b1, b2, b3⟩ := hb
  refine (Try.bytes_Equal_all aa ab a.length ca b.length cb _ _ w (by simp) (by simp) (bytes_in ⟨aa, ca, rfl, a1, a2, a3⟩) (bytes_in ⟨ab, cb, rfl, b1, b2, b3⟩)).mono ?_
  rintro e w' ⟨rfl, rfl⟩
  rw [bytesOf_nums, bytesOf_nums]
  have : (a == b) = decide (a = b) := by by_cases h : a = b <;> simp [h]
  rw [this]
  exact ⟨rfl, rfl⟩
/-- So far no pair may not be. -/
def MayTo (P : List Keys.Pr) (j : Nat) : Prop := ∀ i p, P[i]? = some p → i < j → p.2 ≠ [] ∧ ∀ q, P[i + 1]? = some q → i + 1 < j → Keys.kn p.1 < Keys.kn q.1
theorem rise_adj : ∀ {P : List Keys.Pr}, (∀ i p q, P[i]? = some p → P[i + 1]? = some q → Keys.kn p.1 < Keys.kn q.1) → Keys.Rise P
  | [], _ => List.Pairwise.nil
  | [p], _ => List.pairwise_singleton _ _
  | p :: q :: r, h => by
    have ih := rise_adj (P := q :: r) (fun i a b h1 h2 => h (i + 1) a b h1 h2)
    refine List.pairwise_cons.2 ⟨fun x hx => ?_, ih⟩
    have h0 := h 0 p q rfl rfl
    rcases List.mem_cons.1 hx with rfl | hx
    · exact h0
    · have := (List.pairwise_cons.1 ih).1 x hx
      omega
theorem mayTo_all {P : List Keys.Pr} (h : MayTo P P.length) : May P := by
  refine ⟨rise_adj fun i p q h1 h2 => ?_, fun p hp => ?_⟩
  · have l2 := (List.getElem?_eq_some_iff.1 h2).1
    exact (h i p h1 (by omega)).2 q h2 l2
  · obtain ⟨i, hi⟩ := List.mem_iff_getElem?.1 hp
    exact (h i p hi (List.getElem?_eq_some_iff.1 hi).1).1
theorem may_adj {P : List Keys.Pr} (h : May P) {i : Nat} {p q : Keys.Pr} (h1 : P[i]? = some p) (h2 : P[i + 1]? = some q) : Keys.kn p.1 < Keys.kn q.1 := by
  obtain ⟨l1, e1⟩ := List.getElem?_eq_some_iff.1 h1
  obtain ⟨l2, e2⟩ := List.getElem?_eq_some_iff.1 h2
  have := List.pairwise_iff_getElem.1 h.1 i (i + 1) l1 l2 (by omega)
  rwa [e1, e2] at this
theorem mayTo_step {P : List Keys.Pr} {j : Nat} {p : Keys.Pr} (h : MayTo P j) (hp : P[j]? = some p) (h0 : p.2 ≠ []) (h1 : ∀ i q, j = i + 1 → P[i]? = some q → Keys.kn q.1 < Keys.kn p.1) : MayTo P (j + 1) := fun i x hx hi => by
  by_cases hij : i < j
  · refine ⟨(h i x hx hij).1, fun q hq hq1 => ?_⟩
    by_cases hq2 : i + 1 < j
    · exact (h i x hx hij).2 q hq hq2
    · have e : j = i + 1 := by omega
      subst e
      rw [hp, Option.some.injEq] at hq
      rw [← hq]
      exact h1 i x rfl hx
  · have e : i = j := by omega
    subst e
    rw [hp, Option.some.injEq] at hx
    rw [← hx]
    exact ⟨h0, fun q hq hq1 => by omega⟩
set_option maxRecDepth 100000 in
set_option maxHeartbeats 2000000 in
theorem may_any (P : List Keys.Pr) (v : Value) (w : World) (hv : PairsAt w v P) (hn : P.length < 100000) :
    Calls Try.prog 67 #[v] w fun e w' => ∃ r : Bool, e = .returned (.bool r) ∧ (r = true ↔ May P) ∧ Below w.heap.size w w' := by
  have HV := Lib.hid hv
  obtain ⟨a, cap, rfl, h1, h2⟩ := pairs_form hv
  obtain ⟨N, hN⟩ : ∃ N, N = P.length := ⟨_, rfl⟩
  rw [← hN] at HV h1 hn ⊢
  have HN := Lib.hid (And.intro hN hn)
  clear hv hN h2 hn
  have k1 : (N : Int) ≤ (cap : Int) := by omega
  go_enter Try.func67, Try.ntmps67
  go_wp2_with fail
  go_loopw [7] (fun iv W => ∃ j : Nat, j ≤ N ∧ iv = .int .i64 (j : Int) ∧ MayTo P j ∧ Below w.heap.size w W) (fun iv _ => N - (intOf iv).toNat)
  case atStart => exact ⟨0, by omega, rfl, fun i p _ h => by omega, Below.refl _ _⟩
  case round =>
    obtain ⟨j, hj, rfl, hall, hB⟩ := hrel
    have HB := Lib.hid (And.intro hall hB)
    clear hall hB
    by_cases hlt : j < N
    · have c1 : decide (j < N) = true := by simpa using hlt
      have c1' : decide ((j : Int) < (N : Int)) = true := by simp; omega
      have hj0 : (0 : Int) ≤ (j : Int) := by omega
      have hlt' : (j : Int) < (N : Int) := by omega
      obtain ⟨ba, oa, ca', y, xs, he1, hr1, hy1, hg1⟩ := pairs_one (HV.out.below HB.out.2) (i := j) (by rw [← HN.out.1]; exact hlt)
      simp only [Value.slice.injEq] at he1
      obtain ⟨rfl, -, rfl⟩ := he1
      have HX := Lib.hid (And.intro hr1 (And.intro hg1 hy1))
      have HJ := Lib.hid (And.intro hj hlt)
      obtain ⟨yk, ya, yn, yc⟩ := y
      have hyn : yn = xs.length := by
        obtain ⟨a1, c1, he, -⟩ := hy1
        simp only [peV, Value.slice.injEq] at he
        exact he.2.1
      have HYN := Lib.hid hyn
      clear hr1 hy1 hg1 hj hlt hyn
      have HG := Lib.hid trivial
      go_wp2_with (first
        | (have _ := HG; refine wpList_load_pair rfl _ rfl ba (oa + j * 33) rfl (yk, ya, yn, yc) HX.out.1 ?_)
        | (have _ := HG; refine wpList_var_pair (by rfl) rfl _ _ rfl (yk, ya, yn, yc) rfl rfl ?_; intro W2 hb hr; obtain ⟨r, hr0⟩ : ∃ x, x = wr.heap.size := ⟨_, rfl⟩; rw [← hr0] at hr ⊢; have H2 := Lib.hid (And.intro (HB.out.2.trans (hb.mono HB.out.2.size)) (And.intro hr (And.intro ((Keeps.of_below (X := fun _ => False) hb).range HX.out.1 (fun h => h)) (show wr.heap.size ≤ r by rw [hr0]; exact Nat.le_refl _)))); clear HG hb hr hr0))
      have g : W2.drew.cell? ⟨r, 32, none⟩ = some (.slice ya yn yc) := encP_cell (y := (yk, ya, yn, yc)) (range_drew H2.out.2.1)
      have H3 := Lib.hid (show Below w.heap.size w W2.drew ∧ W2.drew.rangeAt r 0 (encP (yk, ya, yn, yc)) ∧ W2.drew.rangeAt ba (oa + j * 33) (encP (yk, ya, yn, yc)) ∧ wr.heap.size ≤ r ∧ PairsAt W2.drew (.slice (some ⟨ba, oa, none⟩) N cap) P from ⟨H2.out.1.drew, H2.out.2.1, H2.out.2.2.1, H2.out.2.2.2, HV.out.below H2.out.1.drew⟩)
      refine wp_region_sched (fun W => True) [.t 0, .e 1 false, .t 2, .t 3, .t 4, .t 5, .t 6, .t 7, .t 8, .t 9, .t 10, .t 11, .t 12, .t 13, .t 14, .t 15, .e 16 false, .t 17, .t 18, .t 19] (by kernel_rfl) (by kernel_rfl) (by intro c a d v w h; cases d <;> exact h) ?_
      clear H2
      generalize W2.drew = V at *
      iterate 1
        refine wpS_t rfl (v := ?_) (by rfl) (fun W => ?_) ?_
        rotate_left
        · go_simp
          try rfl
        try simp only [Act.put, List.setIfInBounds_toArray, List.set_cons_zero, List.set_cons_succ]
      refine wpS_e rfl (by rfl) (fun K hK => ?_)
      go_simp
      refine hK _ _ ?_; clear hK K
      try simp only [Act.put, List.setIfInBounds_toArray, List.set_cons_zero, List.set_cons_succ]
      clear g
      by_cases hy0 : yn = 0
      · have hx0 : xs = [] := List.length_eq_zero_iff.1 (by rw [← HYN.out, hy0])
        have HNM := Lib.hid (show ¬ May P from fun h => h.2 (yk, xs) (List.mem_iff_getElem?.2 ⟨j, HX.out.2.1⟩) hx0)
        subst hy0
        clear hx0
        iterate 3
          refine wpS_t rfl (v := ?_) (by rfl) (fun W => ?_) ?_
          rotate_left
          · go_simp
            try rfl
          try simp only [Act.put, List.setIfInBounds_toArray, List.set_cons_zero, List.set_cons_succ]
        iterate 11
          refine wpS_t_skip rfl (by rfl) ?_
          try simp only [Act.put, List.setIfInBounds_toArray, List.set_cons_zero, List.set_cons_succ]
        refine wpS_e_skip rfl (by rfl) ?_
        try simp only [Act.put, List.setIfInBounds_toArray, List.set_cons_zero, List.set_cons_succ]
        iterate 2
          refine wpS_t_skip rfl (by rfl) ?_
          try simp only [Act.put, List.setIfInBounds_toArray, List.set_cons_zero, List.set_cons_succ]
        iterate 1
          refine wpS_t rfl (v := ?_) (by rfl) (fun W => ?_) ?_
          rotate_left
          · go_simp
            try rfl
          try simp only [Act.put, List.setIfInBounds_toArray, List.set_cons_zero, List.set_cons_succ]
        refine wpS_done ?_
        go_wp2_with fail
        refine bodyPost_ret (results_tmp rfl _ _ _) rfl ?_
        exact ⟨false, rfl, ⟨fun h => (by cases h), fun h => absurd h HNM.out⟩, H3.out.1⟩
      · have hx0 : xs ≠ [] := fun e => hy0 (by rw [HYN.out, e]; rfl)
        have HX0 := Lib.hid hx0
        have f1 : decide (yn = 0) = false := by simpa using hy0
        have f2 : decide ((yn : Int) = 0) = false := by simp; omega
        have f3 : ((yn : Int) == 0) = false := by rw [beq_eq_false_iff_ne]; omega
        have hwj : wrap64 ((j : Int) + 1) = ((j + 1 : Nat) : Int) := by have := HN.out.2; have := HJ.out.1; unfold wrap64; omega
        have HWJ := Lib.hid hwj
        clear hx0 hy0 hwj
        cases j with
        | zero =>
          have HST := Lib.hid (mayTo_step HB.out.1 HX.out.2.1 HX0.out (fun i q h _ => by omega))
          clear HB
          iterate 6
            refine wpS_t rfl (v := ?_) (by rfl) (fun W => ?_) ?_
            rotate_left
            · go_simp
              try rfl
            try simp only [Act.put, List.setIfInBounds_toArray, List.set_cons_zero, List.set_cons_succ]
          iterate 8
            refine wpS_t_skip rfl (by rfl) ?_
            try simp only [Act.put, List.setIfInBounds_toArray, List.set_cons_zero, List.set_cons_succ]
          refine wpS_e_skip rfl (by rfl) ?_
          try simp only [Act.put, List.setIfInBounds_toArray, List.set_cons_zero, List.set_cons_succ]
          iterate 1
            refine wpS_t_skip rfl (by rfl) ?_
            try simp only [Act.put, List.setIfInBounds_toArray, List.set_cons_zero, List.set_cons_succ]
          iterate 2
            refine wpS_t rfl (v := ?_) (by rfl) (fun W => ?_) ?_
            rotate_left
            · go_simp
              try rfl
            try simp only [Act.put, List.setIfInBounds_toArray, List.set_cons_zero, List.set_cons_succ]
          refine wpS_done ?_
          go_wp2_with fail
          exact ⟨⟨1, by have := HJ.out.2; omega, rfl, HST.out, H3.out.1⟩, by simp only [intOf]; have := HJ.out.2; omega⟩
        | succ jj =>
          obtain ⟨ba2, oa2, ca2, x, xs2, he1, hr1, _, hg1⟩ := pairs_one H3.out.2.2.2.2 (i := jj) (by rw [← HN.out.1]; have := HJ.out.2; omega)
          simp only [Value.slice.injEq, Option.some.injEq, Addr.mk.injEq, and_true] at he1
          obtain ⟨⟨rfl, rfl⟩, -, rfl⟩ := he1
          have HC := Lib.hid (And.intro (compare_any x.1 yk ba (oa + jj * 33) 32 r 0 32 V (encP_key hr1) (encP_key H3.out.2.1)) hg1)
          obtain ⟨J, hJ⟩ : ∃ J, J = jj + 1 := ⟨_, rfl⟩
          rw [← hJ] at HX HB HJ HWJ H3 c1 c1' hj0 hlt' ⊢
          have HJJ := Lib.hid hJ
          have hw : IntKind.i64.wrap ((J : Int) - 1) = (jj : Int) := by have := HN.out.2; have := HJ.out.1; rw [IntKind.wrap_i64]; omega
          have q0 : decide ((0 : Int) < (J : Int)) = true := by simp; omega
          have q0' : decide (0 < J) = true := by simp; omega
          have q1 : (0 : Int) ≤ (jj : Int) := Int.natCast_nonneg _
          have q2 : (jj : Int) < (N : Int) := by have := HJ.out.2; omega
          have q3 : jj < N := by have := HJ.out.2; omega
          clear hr1 hg1 hJ
          have hkc := kcmp_lt x.1 yk
          obtain ⟨R, hR⟩ : ∃ R, R = kcmp x.1 yk := ⟨_, rfl⟩
          rw [← hR] at HC hkc
          clear hR
          iterate 14
            refine wpS_t rfl (v := ?_) (by rfl) (fun W => ?_) ?_
            rotate_left
            · go_simp
              try rfl
            try simp only [Act.put, List.setIfInBounds_toArray, List.set_cons_zero, List.set_cons_succ]
          refine wpS_e rfl (by rfl) (fun K hK => ?_)
          go_simp
          refine HC.out.1.mono ?_
          rintro rr V1 ⟨rfl, rfl⟩
          refine hK _ _ ?_; clear hK K
          try simp only [Act.put, List.setIfInBounds_toArray, List.set_cons_zero, List.set_cons_succ]
          by_cases hkk : Keys.kn x.1 < Keys.kn yk
          · rw [decide_eq_true hkk] at hkc
            have hR0 : R < 0 := of_decide_eq_true hkc
            have p1 : decide (0 ≤ R) = false := by simp; omega
            have p2 : decide (R ≥ 0) = false := by simp; omega
            have HST := Lib.hid (mayTo_step HB.out.1 HX.out.2.1 HX0.out (fun i q h hq => by
              have e : i = jj := by have := HJJ.out; omega
              subst e
              rw [HC.out.2, Option.some.injEq] at hq
              rw [← hq]; exact hkk))
            clear hkc hR0 hkk HB
            iterate 3
              refine wpS_t rfl (v := ?_) (by rfl) (fun W => ?_) ?_
              rotate_left
              · go_simp
                try rfl
              try simp only [Act.put, List.setIfInBounds_toArray, List.set_cons_zero, List.set_cons_succ]
            refine wpS_done ?_
            clear hw
            go_wp2_with fail
            try rw [HWJ.out]
            exact ⟨⟨J + 1, HJ.out.2, rfl, HST.out, H3.out.1⟩, by simp only [intOf]; have := HJ.out.2; have := HJJ.out; omega⟩
          · rw [decide_eq_false hkk] at hkc
            have hR0 : ¬ R < 0 := of_decide_eq_false hkc
            have p1 : decide (0 ≤ R) = true := by simp; omega
            have HNM := Lib.hid (show ¬ May P from fun h => hkk (may_adj h HC.out.2 (by rw [← HJJ.out]; exact HX.out.2.1)))
            clear hkc hR0 hkk
            iterate 3
              refine wpS_t rfl (v := ?_) (by rfl) (fun W => ?_) ?_
              rotate_left
              · go_simp
                try rfl
              try simp only [Act.put, List.setIfInBounds_toArray, List.set_cons_zero, List.set_cons_succ]
            refine wpS_done ?_
            clear hw
            go_wp2_with fail
            refine bodyPost_ret (results_tmp rfl _ _ _) rfl ?_
            exact ⟨false, rfl, ⟨fun h => (by cases h), fun h => absurd h HNM.out⟩, H3.out.1⟩
    · have hjn : j = N := by omega
      subst hjn
      have c1 : decide (j < j) = false := by simp
      have c1' : decide ((j : Int) < (j : Int)) = false := by simp
      have HM := Lib.hid (mayTo_all (P := P) (by rw [← HN.out.1]; exact HB.out.1))
      go_wp2_with fail
      refine bodyPost_ret (results_tmp rfl _ _ _) rfl ?_
      exact ⟨true, rfl, ⟨fun _ => HM.out, fun _ => rfl⟩, HB.out.2⟩
end Go.Proofs.Ytfmgoehnbaiamaa
-- Walk: splits.other.
namespace Go.Proofs.Ytfmgoehnbaiamaa
/-- What other answers. -/
def OP (A B : List Keys.Pr) (e : Ending) : Prop := ∃ (x : Sum) (b : Bool), e = .returned (.tuple #[sv x, .bool b]) ∧ (∀ k, otherK A B = some k → x = k ∧ b = true) ∧ (otherK A B = none → b = false)
theorem op_some {A B : List Keys.Pr} {k : Sum} (h : otherK A B = some k) : OP A B (.returned (.tuple #[sv k, .bool true])) := ⟨k, true, rfl, fun k' h' => (by rw [h, Option.some.injEq] at h'; exact ⟨h', rfl⟩), fun h' => (by rw [h] at h'; cases h')⟩
theorem op_none {A B : List Keys.Pr} {x : Sum} (h : otherK A B = none) : OP A B (.returned (.tuple #[sv x, .bool false])) := ⟨x, false, rfl, fun k' h' => (by rw [h] at h'; cases h'), fun _ => rfl⟩
theorem pe_cell {W : World} {b o : Nat} {y : PE} (h : W.rangeAt b o (encP y)) : W.cell? ⟨b, o + 32, none⟩ = some (peV y) := h 32 (peV y) (by rw [encP, List.getElem?_append_right (by rw [length_cellsOf]; omega), length_cellsOf]; rfl)
theorem drop_get {α : Type} {l : List α} {j : Nat} {x : α} (h : l[j]? = some x) : l.drop j = x :: l.drop (j + 1) := by
  obtain ⟨hl, e⟩ := List.getElem?_eq_some_iff.1 h
  rw [List.drop_eq_getElem_cons hl, e]
theorem drop_end {α : Type} {l : List α} {j : Nat} (h : j = l.length) : l.drop j = [] := List.drop_eq_nil_of_le (by omega)
set_option maxRecDepth 100000 in
set_option maxHeartbeats 4000000 in
theorem other_any (A B : List Keys.Pr) (va vb : Value) (w : World) (ha : PairsAt w va A) (hb : PairsAt w vb B) (hA : A.length < 100000) (hB : B.length < 100000) :
    Calls Try.prog 68 #[va, vb] w fun e w' => OP A B e ∧ Below w.heap.size w w' := by
  have HV := Lib.hid (And.intro ha hb)
  obtain ⟨aa, ca, rfl, a1, a2⟩ := pairs_form ha
  obtain ⟨ab, cb, rfl, b1, b2⟩ := pairs_form hb
  obtain ⟨NA, hNA⟩ : ∃ N, N = A.length := ⟨_, rfl⟩
  obtain ⟨NB, hNB⟩ : ∃ N, N = B.length := ⟨_, rfl⟩
  rw [← hNA] at HV a1 hA ⊢
  rw [← hNB] at HV b1 hB ⊢
  have HN := Lib.hid (And.intro hNA (And.intro hNB (And.intro hA hB)))
  clear ha hb hNA hNB a2 b2 hA hB
  have k1 : (NA : Int) ≤ (ca : Int) := by omega
  have k2 : (NB : Int) ≤ (cb : Int) := by omega
  obtain ⟨q, hq⟩ : ∃ q, q = w.heap.size := ⟨_, rfl⟩
  have HQ := Lib.hid (show w.heap.size ≤ q by rw [hq]; exact Nat.le_refl _)
  have HQE := Lib.hid hq
  have hst := Res.start w 32 (cells8 (List.replicate 32 0)).toArray 29 (by rfl)
  have H0 := Lib.hid (show Below w.heap.size w (w.alloc (.cells (cells8 (List.replicate 32 0)).toArray 29)) ∧ (w.alloc (.cells (cells8 (List.replicate 32 0)).toArray 29)).there q 0 32 ∧ (w.alloc (.cells (cells8 (List.replicate 32 0)).toArray 29)).rangeAt q 0 (cellsOf zeroSum) from ⟨hst.below, by rw [hq]; exact hst.there, by rw [hq, cellsOf_zeroSum]; exact range_new _ _ _ _ rfl⟩)
  clear hq hst
  go_enter Try.func68, Try.ntmps68
  go_wp2_with fail
  rw [← HQE.out]
  go_loopw [6] (fun iv W => ∃ j : Nat, j ≤ NA ∧ j ≤ NB ∧ iv = .int .i64 (j : Int) ∧ otherK A B = otherK (A.drop j) (B.drop j) ∧ Below w.heap.size w W ∧ W.there q 0 32 ∧ W.rangeAt q 0 (cellsOf zeroSum)) (fun iv _ => NA - (intOf iv).toNat)
  case atStart => exact ⟨0, by omega, by omega, rfl, rfl, H0.out⟩
  case round =>
    clear H0
    obtain ⟨j, hja, hjb, rfl, hok, hW⟩ := hrel
    have HJ := Lib.hid (And.intro hja (And.intro hjb hok))
    have HW := Lib.hid (And.intro hW.1 hW.2.1)
    have HZ := Lib.hid hW.2.2
    clear hja hjb hok hW
    have hj0 : (0 : Int) ≤ (j : Int) := Int.natCast_nonneg _
    by_cases hla : j < NA
    · obtain ⟨ba, oa, ca', x, xs, he1, hr1, hy1, hg1⟩ := pairs_one (HV.out.1.below HW.out.1) (i := j) (by rw [← HN.out.1]; exact hla)
      simp only [Value.slice.injEq] at he1
      obtain ⟨rfl, -, rfl⟩ := he1
      have hdA := drop_get hg1
      have c1 : decide (NA ≤ j) = false := by simp; omega
      have c1' : decide ((NA : Int) ≤ (j : Int)) = false := by simp; omega
      have c2 : decide (j < NA) = true := by simpa using hla
      have c2' : decide ((j : Int) < (NA : Int)) = true := by simp; omega
      have c3 : (j : Int) < (NA : Int) := by omega
      by_cases hlb : j < NB
      · obtain ⟨bb, ob, cb', y, ys, he2, hr2, hy2, hg2⟩ := pairs_one (HV.out.2.below HW.out.1) (i := j) (by rw [← HN.out.2.1]; exact hlb)
        simp only [Value.slice.injEq] at he2
        obtain ⟨rfl, -, rfl⟩ := he2
        have hdB := drop_get hg2
        have d1 : decide (NB ≤ j) = false := by simp; omega
        have d1' : decide ((NB : Int) ≤ (j : Int)) = false := by simp; omega
        have d3 : (j : Int) < (NB : Int) := by omega
        have hok := HJ.out.2.2
        rw [hdA, hdB, otherK] at hok
        have HX := Lib.hid (And.intro hr1 (And.intro hr2 (And.intro hy1 hy2)))
        have HOK := Lib.hid hok
        have HLT := Lib.hid (And.intro hla hlb)
        clear hr1 hr2 hy1 hy2 hg1 hg2 hdA hdB hok hla hlb
        go_wp2_with fail
        refine wp_region_sched (fun W => True) [.t 0, .t 1, .t 2, .t 3, .t 4, .t 5, .t 6, .t 7, .t 8, .t 9, .t 10, .t 11, .t 12, .t 13, .t 14, .e 15 false, .t 16, .t 17, .t 18] (by kernel_rfl) (by kernel_rfl) (by intro c a d v w h; cases d <;> exact h) ?_
        have HW1 := Lib.hid (show Below w.heap.size w wr.drew ∧ wr.drew.there q 0 32 from ⟨HW.out.1.drew, HW.out.2⟩)
        have HZ1 := Lib.hid (show wr.drew.rangeAt q 0 (cellsOf zeroSum) from HZ.out)
        have HX1 := Lib.hid (show wr.drew.rangeAt ba (oa + j * 33) (encP x) ∧ wr.drew.rangeAt bb (ob + j * 33) (encP y) ∧ BytesAt wr.drew (peV x) xs ∧ BytesAt wr.drew (peV y) ys from ⟨HX.out.1, HX.out.2.1, bytes_below HX.out.2.2.1 (Below.refl _ _).drew (Nat.le_refl _), bytes_below HX.out.2.2.2 (Below.refl _ _).drew (Nat.le_refl _)⟩)
        clear HW HX HZ
        generalize wr.drew = V at *
        iterate 15
          refine wpS_t rfl (v := ?_) (by rfl) (fun W => ?_) ?_
          rotate_left
          · go_simp
            try rfl
          try simp only [Act.put, List.setIfInBounds_toArray, List.set_cons_zero, List.set_cons_succ]
        refine wpS_e rfl (by rfl) (fun K hK => ?_)
        go_simp
        have hkc := kcmp_lt x.1 y.1
        have hca := compare_any x.1 y.1 ba (oa + j * 33) 32 bb (ob + j * 33) 32 V (encP_key HX1.out.1) (encP_key HX1.out.2.1)
        obtain ⟨R, hR⟩ : ∃ R, R = kcmp x.1 y.1 := ⟨_, rfl⟩
        rw [← hR] at hkc hca
        clear hR
        refine hca.mono ?_
        clear hca
        rintro rr V1 ⟨rfl, rfl⟩
        refine hK _ _ ?_; clear hK K
        try simp only [Act.put, List.setIfInBounds_toArray, List.set_cons_zero, List.set_cons_succ]
        by_cases hkk : Keys.kn x.1 < Keys.kn y.1
        · rw [decide_eq_true hkk] at hkc
          have hR0 : R < 0 := of_decide_eq_true hkc
          have HO := Lib.hid (show otherK A B = some x.1 by have h := HOK.out; rw [if_pos hkk] at h; exact h)
          clear hkk HOK
          iterate 3
            refine wpS_t rfl (v := ?_) (by rfl) (fun W => ?_) ?_
            rotate_left
            · go_simp
              try rfl
            try simp only [Act.put, List.setIfInBounds_toArray, List.set_cons_zero, List.set_cons_succ]
          refine wpS_done ?_
          go_wp2_with (first
            | (refine wpList_load_sum rfl _ rfl ba (oa + j * 33) rfl x.1 (encP_key HX1.out.1) ?_)
            | (refine wpList_store_sum rfl _ _ rfl q 0 x.1 rfl rfl HW1.out.2 ?_))
          try rw [Exit.noGoto_ret]
          refine bodyPost_ret (results_cell_tmp Try.results68 _ _ q 0 (cellsOf x.1) _ rfl (range_stored _ _ _ _ (by rw [length_cellsOf]; exact World.there_setCells HW1.out.2 _ _ _)) Try.underlying29 rfl (by rw [length_cellsOf]; exact infoSum)) rfl ?_
          exact ⟨op_some HO.out, setCells_below _ HQ.out _ _ _ _ HW1.out.1⟩
        · rw [decide_eq_false hkk] at hkc
          have hR0 : ¬ R < 0 := of_decide_eq_false hkc
          have HO := Lib.hid (show otherK A B = if x.1 ≠ y.1 ∨ xs ≠ ys then some y.1 else otherK (A.drop (j + 1)) (B.drop (j + 1)) by have h := HOK.out; rw [if_neg hkk] at h; exact h)
          clear hkk HOK
          iterate 3
            refine wpS_t rfl (v := ?_) (by rfl) (fun W => ?_) ?_
            rotate_left
            · go_simp
              try rfl
            try simp only [Act.put, List.setIfInBounds_toArray, List.set_cons_zero, List.set_cons_succ]
          refine wpS_done ?_
          clear hkc hR0
          go_wp2_with fail
          have heq := eq_sums x.1 y.1
          refine wp_region_sched (fun W => W.rangeAt ba (oa + j * 33) (cellsOf x.1)) [.t 0, .t 1, .t 2, .t 3, .t 5, .t 6, .t 7, .t 8, .s 4, .e 9 true, .t 10, .t 11] (by kernel_rfl) (by kernel_rfl) (by intro c a d v w h; cases d <;> exact h) ?_
          have HX2 := Lib.hid (show V1.drew.rangeAt ba (oa + j * 33) (encP x) ∧ V1.drew.rangeAt bb (ob + j * 33) (encP y) ∧ BytesAt V1.drew (peV x) xs ∧ BytesAt V1.drew (peV y) ys from ⟨HX1.out.1, HX1.out.2.1, bytes_below HX1.out.2.2.1 (Below.refl _ _).drew (Nat.le_refl _), bytes_below HX1.out.2.2.2 (Below.refl _ _).drew (Nat.le_refl _)⟩)
          have HW2 := Lib.hid (show Below w.heap.size w V1.drew ∧ V1.drew.there q 0 32 from ⟨HW1.out.1.drew, HW1.out.2⟩)
          have HZ2 := Lib.hid (show V1.drew.rangeAt q 0 (cellsOf zeroSum) from HZ1.out)
          clear HZ1
          clear HX1 HW1
          generalize V1.drew = V2 at *
          by_cases hxy : x.1 = y.1
          · rw [decide_eq_true hxy] at heq
            have HXY := Lib.hid hxy
            clear hxy
            iterate 8
              refine wpS_t rfl (v := ?_) (by rfl) (fun W => ?_) ?_
              rotate_left
              · go_simp
                try rfl
              try simp only [Act.put, List.setIfInBounds_toArray, List.set_cons_zero, List.set_cons_succ]
            refine wpS_load_sum (by exact encP_key HX2.out.1) rfl (by rfl) _ (by rfl) ba (oa + j * 33) (by rfl) x.1 (fun W hW => hW) ?_
            try simp only [Act.put, List.setIfInBounds_toArray, List.set_cons_zero, List.set_cons_succ]
            refine wpS_k rfl (by rfl) (fun K hK => ?_)
            refine wp_load_sum _ (by rfl) bb (ob + j * 33) (by rfl) y.1 (encP_key HX2.out.2.1) ?_
            refine hK _ _ ⟨by exact encP_key HX2.out.1, ?_⟩; clear hK K
            try simp only [Act.put, List.setIfInBounds_toArray, List.set_cons_zero, List.set_cons_succ]
            iterate 2
              refine wpS_t rfl (v := ?_) (by rfl) (fun W => ?_) ?_
              rotate_left
              · go_simp
                try rfl
              try simp only [Act.put, List.setIfInBounds_toArray, List.set_cons_zero, List.set_cons_succ]
            refine wpS_done ?_
            clear heq
            go_wp2_with fail
            refine wp_region_sched (fun W => W.rangeAt ba (oa + j * 33) (encP x)) [.t 0, .t 1, .t 2, .t 3, .t 5, .t 6, .t 7, .t 8, .s 4, .e 9 true, .e 10 false, .t 11, .t 12] (by kernel_rfl) (by kernel_rfl) (by intro c a d v w h; cases d <;> exact h) ?_
            have HX3 := Lib.hid (show V2.drew.rangeAt ba (oa + j * 33) (encP x) ∧ V2.drew.rangeAt bb (ob + j * 33) (encP y) ∧ BytesAt V2.drew (peV x) xs ∧ BytesAt V2.drew (peV y) ys from ⟨HX2.out.1, HX2.out.2.1, bytes_below HX2.out.2.2.1 (Below.refl _ _).drew (Nat.le_refl _), bytes_below HX2.out.2.2.2 (Below.refl _ _).drew (Nat.le_refl _)⟩)
            have HW3 := Lib.hid (show Below w.heap.size w V2.drew ∧ V2.drew.there q 0 32 ∧ V2.drew.rangeAt q 0 (cellsOf zeroSum) from ⟨HW2.out.1.drew, HW2.out.2, HZ2.out⟩)
            clear HX2 HW2
            generalize V2.drew = V3 at *
            iterate 8
              refine wpS_t rfl (v := ?_) (by rfl) (fun W => ?_) ?_
              rotate_left
              · go_simp
                try rfl
              try simp only [Act.put, List.setIfInBounds_toArray, List.set_cons_zero, List.set_cons_succ]
            refine wpS_s (by exact HX3.out.1) rfl (v := peV x) (by rfl) (fun W hW => ?_) ?_
            · have g := pe_cell hW
              go_simp
            try simp only [Act.put, List.setIfInBounds_toArray, List.set_cons_zero, List.set_cons_succ]
            refine wpS_k rfl (by rfl) (fun K hK => ?_)
            have g := pe_cell HX3.out.2.1
            go_simp
            refine hK _ _ ⟨by exact HX3.out.1, ?_⟩; clear hK K
            try simp only [Act.put, List.setIfInBounds_toArray, List.set_cons_zero, List.set_cons_succ]
            clear g
            refine wpS_e rfl (by rfl) (fun K hK => ?_)
            go_simp
            refine (eqb_any xs ys (peV x) (peV y) V3 HX3.out.2.2.1 HX3.out.2.2.2).mono ?_
            rintro rr V4 ⟨rfl, rfl⟩
            refine hK _ _ ?_; clear hK K
            try simp only [Act.put, List.setIfInBounds_toArray, List.set_cons_zero, List.set_cons_succ]
            by_cases hvv : xs = ys
            · have HOJ := Lib.hid (show otherK A B = otherK (A.drop (j + 1)) (B.drop (j + 1)) by rw [HO.out, if_neg (by rintro (h | h); exact h HXY.out; exact h hvv)])
              rw [decide_eq_true hvv]
              clear hvv HO
              iterate 2
                refine wpS_t rfl (v := ?_) (by rfl) (fun W => ?_) ?_
                rotate_left
                · go_simp
                  try rfl
                try simp only [Act.put, List.setIfInBounds_toArray, List.set_cons_zero, List.set_cons_succ]
              refine wpS_done ?_
              have hwj : wrap64 ((j : Int) + 1) = ((j + 1 : Nat) : Int) := by have := HN.out; have := HJ.out; unfold wrap64; omega
              have HWJ := Lib.hid hwj
              clear hwj
              go_wp2_with fail
              try rw [HWJ.out]
              exact ⟨⟨j + 1, HLT.out.1, HLT.out.2, rfl, HOJ.out, HW3.out⟩, by simp only [intOf]; have := HLT.out; omega⟩
            · have HOS := Lib.hid (show otherK A B = some y.1 by rw [HO.out, if_pos (.inr hvv)])
              rw [decide_eq_false hvv]
              have HW4 := Lib.hid (And.intro HW3.out.1 HW3.out.2.1)
              clear hvv HO HW3
              iterate 2
                refine wpS_t rfl (v := ?_) (by rfl) (fun W => ?_) ?_
                rotate_left
                · go_simp
                  try rfl
                try simp only [Act.put, List.setIfInBounds_toArray, List.set_cons_zero, List.set_cons_succ]
              refine wpS_done ?_
              go_wp2_with (first
                | (refine wpList_load_sum rfl _ rfl bb (ob + j * 33) rfl y.1 (encP_key HX3.out.2.1) ?_)
                | (refine wpList_store_sum rfl _ _ rfl q 0 y.1 rfl rfl HW4.out.2 ?_))
              try rw [Exit.noGoto_ret]
              refine bodyPost_ret (results_cell_tmp Try.results68 _ _ q 0 (cellsOf y.1) _ rfl (range_stored _ _ _ _ (by rw [length_cellsOf]; exact World.there_setCells HW4.out.2 _ _ _)) Try.underlying29 rfl (by rw [length_cellsOf]; exact infoSum)) rfl ?_
              exact ⟨op_some HOS.out, setCells_below _ HQ.out _ _ _ _ HW4.out.1⟩
          · have HOS := Lib.hid (show otherK A B = some y.1 by rw [HO.out, if_pos (.inl hxy)])
            rw [decide_eq_false hxy] at heq
            clear HO hxy
            iterate 8
              refine wpS_t rfl (v := ?_) (by rfl) (fun W => ?_) ?_
              rotate_left
              · go_simp
                try rfl
              try simp only [Act.put, List.setIfInBounds_toArray, List.set_cons_zero, List.set_cons_succ]
            refine wpS_load_sum (by exact encP_key HX2.out.1) rfl (by rfl) _ (by rfl) ba (oa + j * 33) (by rfl) x.1 (fun W hW => hW) ?_
            try simp only [Act.put, List.setIfInBounds_toArray, List.set_cons_zero, List.set_cons_succ]
            refine wpS_k rfl (by rfl) (fun K hK => ?_)
            refine wp_load_sum _ (by rfl) bb (ob + j * 33) (by rfl) y.1 (encP_key HX2.out.2.1) ?_
            refine hK _ _ ⟨by exact encP_key HX2.out.1, ?_⟩; clear hK K
            try simp only [Act.put, List.setIfInBounds_toArray, List.set_cons_zero, List.set_cons_succ]
            iterate 2
              refine wpS_t rfl (v := ?_) (by rfl) (fun W => ?_) ?_
              rotate_left
              · go_simp
                try rfl
              try simp only [Act.put, List.setIfInBounds_toArray, List.set_cons_zero, List.set_cons_succ]
            refine wpS_done ?_
            clear heq
            go_wp2_with (first
              | (refine wpList_load_sum rfl _ rfl bb (ob + j * 33) rfl y.1 (encP_key HX2.out.2.1) ?_)
              | (refine wpList_store_sum rfl _ _ rfl q 0 y.1 rfl rfl HW2.out.2 ?_))
            try rw [Exit.noGoto_ret]
            refine bodyPost_ret (results_cell_tmp Try.results68 _ _ q 0 (cellsOf y.1) _ rfl (range_stored _ _ _ _ (by rw [length_cellsOf]; exact World.there_setCells HW2.out.2 _ _ _)) Try.underlying29 rfl (by rw [length_cellsOf]; exact infoSum)) rfl ?_
            exact ⟨op_some HOS.out, setCells_below _ HQ.out _ _ _ _ HW2.out.1⟩
      · have hjb : j = NB := by have := HJ.out; omega
        have HOS := Lib.hid (show otherK A B = some x.1 by rw [HJ.out.2.2, hdA, drop_end (hjb.trans HN.out.2.1), otherK])
        have HX := Lib.hid hr1
        have d1 : decide (NB ≤ j) = true := by simp; omega
        have d1' : decide ((NB : Int) ≤ (j : Int)) = true := by simp; omega
        clear hr1 hy1 hg1 hdA hla hlb hjb
        go_wp2_with (first
          | (refine wpList_load_sum rfl _ rfl ba (oa + j * 33) rfl x.1 (encP_key HX.out) ?_)
          | (refine wpList_store_sum rfl _ _ rfl q 0 x.1 rfl rfl HW.out.2 ?_))
        try rw [Exit.noGoto_ret]
        refine bodyPost_ret (results_cell_tmp Try.results68 _ _ q 0 (cellsOf x.1) _ rfl (range_stored _ _ _ _ (by rw [length_cellsOf]; exact World.there_setCells HW.out.2 _ _ _)) Try.underlying29 rfl (by rw [length_cellsOf]; exact infoSum)) rfl ?_
        exact ⟨op_some HOS.out, setCells_below _ HQ.out _ _ _ _ HW.out.1⟩
    · have hja : j = NA := by have := HJ.out; omega
      have c1 : decide (NA ≤ j) = true := by simp; omega
      have c1' : decide ((NA : Int) ≤ (j : Int)) = true := by simp; omega
      have c2 : decide (j < NA) = false := by simpa using hla
      have c2' : decide ((j : Int) < (NA : Int)) = false := by simp; omega
      by_cases hlb : j < NB
      · obtain ⟨bb, ob, cb', y, ys, he2, hr2, hy2, hg2⟩ := pairs_one (HV.out.2.below HW.out.1) (i := j) (by rw [← HN.out.2.1]; exact hlb)
        simp only [Value.slice.injEq] at he2
        obtain ⟨rfl, -, rfl⟩ := he2
        have HOS := Lib.hid (show otherK A B = some y.1 by rw [HJ.out.2.2, drop_get hg2, drop_end (hja.trans HN.out.1), otherK])
        have d1 : decide (NB ≤ j) = false := by simp; omega
        have d1' : decide ((NB : Int) ≤ (j : Int)) = false := by simp; omega
        have d3 : (j : Int) < (NB : Int) := by omega
        have HX := Lib.hid hr2
        clear hr2 hy2 hg2 hja hla hlb
        go_wp2_with fail
        refine wp_region_sched (fun W => True) [.t 0, .t 1, .t 2, .t 3, .t 4, .t 5, .t 6, .t 7, .t 8, .t 9, .t 10, .t 11, .t 12, .t 13, .t 14, .e 15 false, .t 16, .t 17, .t 18] (by kernel_rfl) (by kernel_rfl) (by intro c a d v w h; cases d <;> exact h) ?_
        have HW1 := Lib.hid (show Below w.heap.size w wr.drew ∧ wr.drew.there q 0 32 ∧ wr.drew.rangeAt bb (ob + j * 33) (encP y) from ⟨HW.out.1.drew, HW.out.2, HX.out⟩)
        clear HW HX HZ
        generalize wr.drew = V at *
        iterate 5
          refine wpS_t rfl (v := ?_) (by rfl) (fun W => ?_) ?_
          rotate_left
          · go_simp
            try rfl
          try simp only [Act.put, List.setIfInBounds_toArray, List.set_cons_zero, List.set_cons_succ]
        iterate 10
          refine wpS_t_skip rfl (by rfl) ?_
          try simp only [Act.put, List.setIfInBounds_toArray, List.set_cons_zero, List.set_cons_succ]
        refine wpS_e_skip rfl (by rfl) ?_
        try simp only [Act.put, List.setIfInBounds_toArray, List.set_cons_zero, List.set_cons_succ]
        iterate 1
          refine wpS_t_skip rfl (by rfl) ?_
          try simp only [Act.put, List.setIfInBounds_toArray, List.set_cons_zero, List.set_cons_succ]
        iterate 2
          refine wpS_t rfl (v := ?_) (by rfl) (fun W => ?_) ?_
          rotate_left
          · go_simp
            try rfl
          try simp only [Act.put, List.setIfInBounds_toArray, List.set_cons_zero, List.set_cons_succ]
        refine wpS_done ?_
        have HW2 := Lib.hid (And.intro HW1.out.1 HW1.out.2.1)
        go_wp2_with (first
          | (refine wpList_load_sum rfl _ rfl bb (ob + j * 33) rfl y.1 (encP_key HW1.out.2.2) ?_)
          | (refine wpList_store_sum rfl _ _ rfl q 0 y.1 rfl rfl HW2.out.2 ?_))
        try rw [Exit.noGoto_ret]
        refine bodyPost_ret (results_cell_tmp Try.results68 _ _ q 0 (cellsOf y.1) _ rfl (range_stored _ _ _ _ (by rw [length_cellsOf]; exact World.there_setCells HW2.out.2 _ _ _)) Try.underlying29 rfl (by rw [length_cellsOf]; exact infoSum)) rfl ?_
        exact ⟨op_some HOS.out, setCells_below _ HQ.out _ _ _ _ HW2.out.1⟩
      · have hjb : j = NB := by have := HJ.out; omega
        have HOS := Lib.hid (show otherK A B = none by rw [HJ.out.2.2, drop_end (hjb.trans HN.out.2.1), drop_end (hja.trans HN.out.1), otherK])
        have d1 : decide (NB ≤ j) = true := by simp; omega
        have d1' : decide ((NB : Int) ≤ (j : Int)) = true := by simp; omega
        clear hja hjb hla hlb
        go_wp2_with (first
          | (refine wpList_load_sum rfl _ rfl q 0 rfl zeroSum HZ.out ?_)
          | (refine wpList_store_sum rfl _ _ rfl q 0 zeroSum rfl rfl HW.out.2 ?_))
        try rw [Exit.noGoto_ret]
        refine bodyPost_ret (results_cell_tmp Try.results68 _ _ q 0 (cellsOf zeroSum) _ rfl (range_stored _ _ _ _ (by rw [length_cellsOf]; exact World.there_setCells HW.out.2 _ _ _)) Try.underlying29 rfl (by rw [length_cellsOf]; exact infoSum)) rfl ?_
        exact ⟨op_none HOS.out, setCells_below _ HQ.out _ _ _ _ HW.out.1⟩
end Go.Proofs.Ytfmgoehnbaiamaa
