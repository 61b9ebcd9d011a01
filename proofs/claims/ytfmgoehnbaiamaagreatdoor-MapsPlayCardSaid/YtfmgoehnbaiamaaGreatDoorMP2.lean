/-
  Walk: almonerref15.Put: what it makes of pairs that rise, and in which blocks it lies.
-/
import Derived.Test.YtfmgoehnbaiamaaGreatDoorZBH
import Derived.Test.YtfmgoehnbaiamaaGreatDoorZBI
open Go Go.RowKit Alm
namespace Go.Proofs.YtfmgoehnbaiamaaGreatDoor
/-- A row of pairs of one's own, with the bytes of each, which lie elsewhere, in such blocks. -/
structure RowZ (Z : Nat → Prop) (W0 W : World) (v : Value) (pc : List (PE × List UInt8)) : Prop where
  below : Below W0.heap.size W0 W
  row : W.ownsRow W0.heap.size 41 33 v pc.length (cellsP (pc.map Prod.fst))
  vals : ∀ c ∈ pc, BytesAt W (peV c.1) c.2
  apart : ∀ c ∈ pc, c.2 ≠ [] → ∀ k, (peV c.1).ownBlock = some k → v.ownBlock ≠ some k
  src : ∀ c ∈ pc, c.2 ≠ [] → ∀ k, (peV c.1).ownBlock = some k → Z k
theorem RowZ.nil (Z : Nat → Prop) (W : World) : RowZ Z W W (.slice none 0 0) [] := ⟨Below.refl _ _, World.ownsRow_nil _ _ _ _, fun c hc => (by cases hc), fun c hc => (by cases hc), fun c hc => (by cases hc)⟩
theorem RowZ.mem {Z : Nat → Prop} {W0 W W' : World} {v : Value} {pc : List (PE × List UInt8)} (h : RowZ Z W0 W v pc) (hb : Below W.heap.size W W') : RowZ Z W0 W' v pc :=
  ⟨h.below.trans (hb.mono h.below.size), (Keeps.of_below (X := fun _ => False) hb).owns h.row (fun _ _ h => h), fun c hc => bytes_below (h.vals c hc) hb (Nat.le_refl _), h.apart, h.src⟩
theorem RowZ.form {Z : Nat → Prop} {W0 W : World} {v : Value} {pc : List (PE × List UInt8)} (h : RowZ Z W0 W v pc) : ∃ a c, v = .slice a pc.length c := by
  rcases h.row.2 with ⟨rfl, e0⟩ | ⟨g, cap, cur, rfl, _⟩
  · exact ⟨none, 0, by rw [e0]⟩
  · exact ⟨_, _, rfl⟩
theorem RowZ.push {Z : Nat → Prop} {W0 W W' : World} {v : Value} {pc : List (PE × List UInt8)} (h : RowZ Z W0 W v pc) {y : PE} {b : List UInt8} (hz : b ≠ [] → ∀ k, (peV y).ownBlock = some k → Z k) (hy : BytesAt W (peV y) b) (ha : b ≠ [] → ∀ k, (peV y).ownBlock = some k → v.ownBlock ≠ some k) {g m cap : Nat} (hm : m = pc.length + 1)
    (ho : W'.ownsRow W0.heap.size 41 33 (.slice (some ⟨g, 0, none⟩) m cap) m (cellsP (pc.map Prod.fst ++ [y]))) (hg : W.grownBy W' v.ownBlock) (hat : v.ownBlock = some g ∨ g = W.heap.size) : RowZ Z W0 W' (.slice (some ⟨g, 0, none⟩) m cap) (pc ++ [(y, b)]) := by
  have hk : Keeps (fun k => v.ownBlock = some k) W W' := Keeps.of_grown hg (fun k hk => hk)
  have hnew : ∀ c ∈ pc ++ [(y, b)], BytesAt W (peV c.1) c.2 ∧ (c.2 ≠ [] → ∀ k, (peV c.1).ownBlock = some k → v.ownBlock ≠ some k) ∧ (c.2 ≠ [] → ∀ k, (peV c.1).ownBlock = some k → Z k) := fun c hc => by
    rcases List.mem_append.1 hc with hc | hc
    · exact ⟨h.vals c hc, h.apart c hc, h.src c hc⟩
    · rw [List.mem_singleton.1 hc]; exact ⟨hy, ha, hz⟩
  refine ⟨h.below.trans (hk.below h.below.size (fun k hk => own_base h.row k hk)), ?_, fun c hc => bytes_keepC (hnew c hc).1 hk (hnew c hc).2.1, fun c hc h0 k ek e => ?_, fun c hc => (hnew c hc).2.2⟩
  · rw [List.length_append, List.length_singleton, ← hm, List.map_append]; exact ho
  · obtain rfl : g = k := by simpa [Value.ownBlock] using e
    rcases hat with e2 | e2
    · exact (hnew c hc).2.1 h0 _ ek e2
    · have := bytes_ltC (hnew c hc).1 h0 ek; omega
theorem RowZ.pairs {Z : Nat → Prop} {W0 W : World} {v : Value} {pc : List (PE × List UInt8)} (h : RowZ Z W0 W v pc) (hZ : ∀ k, W0.heap.size ≤ k → Z k) {P : List Keys.Pr} (hP : pc.map (fun c => (c.1.1, c.2)) = P) : PairsZ Z W v P := pairs_ownZ h.row (fun c hc => ⟨h.vals c hc, h.src c hc⟩) hZ hP
/-- append(nil, v...) of bytes: they are one's own. -/
theorem wp_append_nil_bytesC {w : World} {o : Oper} {a : Act} {K : Act → World → Prop} {Q : Exit → Act → World → Prop} (s x : Operand)
    (ho : o.op = .call { callee := .builtin .append, args := #[s, x], argTypes := #[39, 39] }) (hs : a.eval s = .slice none 0 0) (v : Value) (bs : List UInt8) (hx : a.eval x = v) (hv : BytesAt w v bs) (hl : bs.length < 4000000000)
    (h : ∀ (a' : Option Addr) (c' : Nat) (w' : World), Below w.heap.size w w' → BytesAt w' (.slice a' bs.length c') bs → (∀ k, (Value.slice a' bs.length c').ownBlock = some k → w.heap.size ≤ k) → K (a.put o.dst (.slice a' bs.length c')) w') : o.wp Tryz.prog a w K Q := by
  obtain ⟨i0, hi0, hz0⟩ := Option.map_eq_some_iff.1 infoByteZ
  simp only [Prod.mk.injEq] at hz0
  obtain ⟨ad, cap, rfl, h1, h2, h3⟩ := hv
  by_cases hb : bs = []
  · subst hb
    have hrun : (Builtin.append_ #[39, 39] o.type #[.slice none 0 0, .slice ad 0 cap]).run Tryz.prog w = .ok (.slice none 0 0) w := by
      cases ad <;> simp [Builtin.append_, run_underlying Tryz.underlying39, sizeOf, typeInfo, hi0, Builtin.lenOf, Builtin.firstCells, loadCells, loadCellsFrom]
    unfold Oper.wp
    simp [execOp, ho, resolve, invoke, builtin, hs, hx, hrun, Result.andThen]
    exact h none 0 w (Below.refl _ _) ⟨none, 0, rfl, Nat.le_refl _, by decide, .inl rfl⟩ (fun k hk => by cases hk)
  · obtain ⟨b, off, rfl, hr⟩ := h3.resolve_left hb
    refine wp_append_own w s x _ ho w.heap.size 5 i0 (.int .u8 0) 1 1 Tryz.underlying39 hi0 hz0.1 hz0.2.1 hz0.2.2 rfl (by decide) (.slice none 0 0) 0 [] hs (World.ownsRow_nil _ _ _ _) ⟨b, off, none⟩ bs.length cap (cells8 bs) hx (by rw [length_cells8]; omega) (fun j u hj => by rw [Addr.add_mid]; exact hr j u hj) (oneCell_cells8 _) (by unfold maxLen; omega) (by omega) (Nat.le_refl _) ?_
    intro v' w' ho' hg' _
    rw [Nat.zero_add] at ho'
    have hform : ∃ a' c', v' = .slice a' bs.length c' := by
      rcases ho'.2 with ⟨rfl, e0⟩ | ⟨g, cap', cur, rfl, _⟩
      · exact ⟨none, 0, by rw [e0]⟩
      · exact ⟨_, _, rfl⟩
    obtain ⟨a', c', rfl⟩ := hform
    exact h a' c' w' (Keeps.below (B := w.heap.size) (Keeps.of_grown (X := fun _ => False) hg' (fun k hk => by cases hk)) (Nat.le_refl _) (fun _ h => h.elim)) (bytes_own (by simpa using ho') (List.length_pos_iff.2 hb)) (fun k hk => own_base ho' k hk)
set_option maxRecDepth 100000 in
set_option maxHeartbeats 4000000 in
theorem rput_z (Z : Nat → Prop) (k : Sum) (bs : List UInt8) (v vl : Value) (P : List Keys.Pr) (w : World) (hZ : ∀ k, w.heap.size ≤ k → Z k) (hl : PairsZ Z w vl P) (hv : BytesAt w v bs) (hb : bs.length < 4000000000) (hN : P.length < 100000) :
    Calls Tryz.prog 11 #[vl, sv k, v] w fun e w' => ∃ v', e = .returned v' ∧ PairsZ Z w' v' (rp k bs P) ∧ Below w.heap.size w w' := by
  have hb0 := al (Below.refl _ w) (.cells (cellsOf k).toArray 24)
  obtain ⟨z, hz⟩ : ∃ z, z = w.heap.size := ⟨_, rfl⟩
  have hr0 : (w.alloc (.cells (cellsOf k).toArray 24)).rangeAt z 0 (cellsOf k) := by rw [hz]; exact range_new w (cellsOf k).toArray 24 _ rfl
  have H0 := Lib.hid (And.intro hr0 (And.intro (hl.below hb0) (bytes_below hv hb0 (Nat.le_refl _))))
  have HBW := Lib.hid hb0
  have HZ := Lib.hid hz
  have HBS := Lib.hid hb
  have HZZ := Lib.hid hZ
  obtain ⟨al_, cl, _, rfl, hl1, _, _, _⟩ := id hl
  obtain ⟨a0, c0, rfl, _, _, _⟩ := id hv
  obtain ⟨B, hB⟩ : ∃ B, B = bs.length := ⟨_, rfl⟩
  obtain ⟨N, hNP⟩ : ∃ N, N = P.length := ⟨_, rfl⟩
  rw [← hB, ← hNP] at H0 ⊢
  rw [← hNP] at hl1 hN
  have HNB := Lib.hid hN
  have HNP := Lib.hid hNP
  have k1 : (N : Int) ≤ (cl : Int) := by omega
  obtain ⟨db0, hdb0⟩ : ∃ d : Bool, d = decide (B = 0) := ⟨_, rfl⟩
  have hdb9 : decide (bs = []) = db0 := by rw [hdb0, hB, decide_eq_decide]; exact List.length_eq_zero_iff.symm
  have HDB := Lib.hid hdb9
  have e1 : decide ((B : Int) = 0) = db0 := by rw [hdb0, decide_eq_decide]; omega
  have e2 : decide (B = 0) = db0 := hdb0.symm
  have e3 : ((B : Int) == 0) = db0 := by rw [hdb0, Bool.eq_iff_iff, beq_iff_eq, decide_eq_true_eq]; omega
  clear hdb0 hb0 hz hr0 hl hv hb hN hB hNP hdb9 hZ
  go_enter Tryz.func11, Tryz.ntmps11
  go_wp2_with fail
  rw [← HZ.out]
  generalize w.alloc (.cells (cellsOf k).toArray 24) = W0 at *
  clear e1 e2 e3
  go_loopw [7, 8, 9] (fun out dn iv W => ∃ (j : Nat) (pc : List (PE × List UInt8)) (db : Bool), j ≤ N ∧ iv = .int .i64 (j : Int) ∧ dn = .bool db ∧ (∃ ao co, out = .slice ao pc.length co) ∧ RowZ Z W0 W out pc ∧ (P.take j).foldl (stP k bs) ([], decide (bs = [])) = (pc.map (fun c => (c.1.1, c.2)), db) ∧ pc.length ≤ 2 * j) (fun _ _ iv _ => N - (intOf iv).toNat)
  case atStart => exact ⟨0, [], db0, by omega, rfl, rfl, ⟨_, _, rfl⟩, RowZ.nil Z _, by rw [HDB.out]; rfl, Nat.zero_le _⟩
  case round =>
    obtain ⟨j, pc, db, hj, rfl, rfl, ⟨ao, co, rfl⟩, hR, hL, hlen⟩ := hrel
    have HR := Lib.hid hR
    have HLG := Lib.hid hL
    have HLN := Lib.hid hlen
    clear hR hL hlen
    by_cases hlt : j < N
    · have c1 : decide (j < N) = true := by simpa using hlt
      have c1' : decide ((j : Int) < (N : Int)) = true := by simp; omega
      have hj0 : (0 : Int) ≤ (j : Int) := by omega
      have hlt' : (j : Int) < (N : Int) := by omega
      have HJ := Lib.hid (And.intro hj hlt)
      clear hj
      have hPA := H0.out.2.1
      rw [HNP.out] at hPA
      obtain ⟨ba, oa, ca, y, yb, he1, hr1, hyb, hyP, hyz⟩ := pairs_oneZ hPA (i := j) (by rw [← HNP.out]; exact hlt)
      simp only [Value.slice.injEq] at he1
      obtain ⟨rfl, -, rfl⟩ := he1
      have hjl : j < P.length := by rw [← HNP.out]; exact hlt
      have hst : (P.take (j + 1)).foldl (stP k bs) ([], decide (bs = [])) = stP k bs (pc.map (fun c => (c.1.1, c.2)), db) (y.1, yb) := by
        rw [List.take_succ_eq_append_getElem hjl, List.foldl_append, HLG.out]
        rw [List.getElem?_eq_getElem hjl, Option.some.injEq] at hyP
        rw [hyP]; rfl
      have HST := Lib.hid hst
      have HYB := Lib.hid hyb
      have HYZ := Lib.hid hyz
      have HX0 := Lib.hid (And.intro hr1 H0.out.1)
      clear hPA hr1 hyb hyz hyP hjl hst HLG
      cases db with
      | true =>
        go_wp2_with fail
        refine wp_region_sched (fun V => True) [.t 0, .t 1, .t 2, .t 4, .t 5, .t 6, .t 7, .s 3, .e 8 true, .e 9 false, .t 10] (by kernel_rfl) (by kernel_rfl) (by intro c a d v w h; cases d <;> exact h) ?_
        have HR3 := Lib.hid (HR.out.mem (Below.refl _ _).drew)
        clear HR
        generalize World.drew _ = V9 at *
        have HR := Lib.hid HR3.out
        clear HR3
        iterate 3
          refine wpS_t rfl (v := ?_) (by rfl) (fun W => ?_) ?_
          rotate_left
          · go_simp
            try rfl
          try simp only [Act.put, List.setIfInBounds_toArray, List.set_cons_zero, List.set_cons_succ]
        iterate 4
          refine wpS_t_skip rfl (by rfl) ?_
          try simp only [Act.put, List.setIfInBounds_toArray, List.set_cons_zero, List.set_cons_succ]
        iterate 1
          refine wpS_s_skip (trivial) rfl (by rfl) ?_
          try simp only [Act.put, List.setIfInBounds_toArray, List.set_cons_zero, List.set_cons_succ]
        refine wpS_k_skip (trivial) rfl (by rfl) ?_
        try simp only [Act.put, List.setIfInBounds_toArray, List.set_cons_zero, List.set_cons_succ]
        refine wpS_e_skip rfl (by rfl) ?_
        try simp only [Act.put, List.setIfInBounds_toArray, List.set_cons_zero, List.set_cons_succ]
        iterate 1
          refine wpS_t rfl (v := ?_) (by rfl) (fun W => ?_) ?_
          rotate_left
          · go_simp
            try rfl
          try simp only [Act.put, List.setIfInBounds_toArray, List.set_cons_zero, List.set_cons_succ]
        refine wpS_done ?_
        by_cases hky : y.1 = k
        · go_wp2_with fail
          refine wp_region_sched (fun V => V.rangeAt ba (oa + j * 33) (cellsOf y.1)) [.t 0, .t 1, .t 2, .t 3, .s 4, .e 5 true, .t 6] (by kernel_rfl) (by kernel_rfl) (by intro c a d v w h; cases d <;> exact h) ?_
          have HR2 := Lib.hid (HR.out.mem (Below.refl _ _).drew)
          clear HR
          generalize World.drew _ = VV at *
          have HXY := Lib.hid (And.intro ((Keeps.of_below (X := fun _ => False) HR2.out.below).range HX0.out.1 (fun h => h)) ((Keeps.of_below (X := fun _ => False) HR2.out.below).range HX0.out.2 (fun h => h)))
          have heq := eq_sums y.1 k
          rw [decide_eq_true hky] at heq
          have HKY := Lib.hid hky
          clear hky
          iterate 4
            refine wpS_t rfl (v := ?_) (by rfl) (fun W => ?_) ?_
            rotate_left
            · go_simp
              try rfl
            try simp only [Act.put, List.setIfInBounds_toArray, List.set_cons_zero, List.set_cons_succ]
          refine wpS_load_sum (by exact encP_key HXY.out.1) rfl (by rfl) _ (by rfl) ba (oa + j * 33) (by rfl) y.1 (fun V hV => hV) ?_
          try simp only [Act.put, List.setIfInBounds_toArray, List.set_cons_zero, List.set_cons_succ]
          refine wpS_k rfl (by rfl) (fun K hK => ?_)
          refine wp_load_sum _ (by rfl) z 0 (by rfl) k HXY.out.2 ?_
          refine hK _ _ ⟨by exact encP_key HXY.out.1, ?_⟩; clear hK K
          try simp only [Act.put, List.setIfInBounds_toArray, List.set_cons_zero, List.set_cons_succ]
          iterate 1
            refine wpS_t rfl (v := ?_) (by rfl) (fun W => ?_) ?_
            rotate_left
            · go_simp
              try rfl
            try simp only [Act.put, List.setIfInBounds_toArray, List.set_cons_zero, List.set_cons_succ]
          refine wpS_done ?_
          clear heq
          clear HXY
          have hwj : wrap64 ((j : Int) + 1) = ((j + 1 : Nat) : Int) := by have := HNB.out; have := HJ.out; unfold wrap64; omega
          go_wp2_with fail
          try rw [hwj]
          clear hwj
          exact ⟨⟨j + 1, pc, true, by have := HJ.out; omega, rfl, rfl, ⟨_, _, rfl⟩, HR2.out, by rw [HST.out]; simp [stP, HKY.out], by have := HLN.out; omega⟩, by simp only [intOf]; have := HJ.out; omega⟩
        · go_wp2_with fail
          refine wp_region_sched (fun V => V.rangeAt ba (oa + j * 33) (cellsOf y.1)) [.t 0, .t 1, .t 2, .t 3, .s 4, .e 5 true, .t 6] (by kernel_rfl) (by kernel_rfl) (by intro c a d v w h; cases d <;> exact h) ?_
          have HR2 := Lib.hid (HR.out.mem (Below.refl _ _).drew)
          clear HR
          generalize World.drew _ = VV at *
          have HXY := Lib.hid (And.intro ((Keeps.of_below (X := fun _ => False) HR2.out.below).range HX0.out.1 (fun h => h)) ((Keeps.of_below (X := fun _ => False) HR2.out.below).range HX0.out.2 (fun h => h)))
          have heq := eq_sums y.1 k
          rw [decide_eq_false hky] at heq
          have HKY := Lib.hid hky
          clear hky
          iterate 4
            refine wpS_t rfl (v := ?_) (by rfl) (fun W => ?_) ?_
            rotate_left
            · go_simp
              try rfl
            try simp only [Act.put, List.setIfInBounds_toArray, List.set_cons_zero, List.set_cons_succ]
          refine wpS_load_sum (by exact encP_key HXY.out.1) rfl (by rfl) _ (by rfl) ba (oa + j * 33) (by rfl) y.1 (fun V hV => hV) ?_
          try simp only [Act.put, List.setIfInBounds_toArray, List.set_cons_zero, List.set_cons_succ]
          refine wpS_k rfl (by rfl) (fun K hK => ?_)
          refine wp_load_sum _ (by rfl) z 0 (by rfl) k HXY.out.2 ?_
          refine hK _ _ ⟨by exact encP_key HXY.out.1, ?_⟩; clear hK K
          try simp only [Act.put, List.setIfInBounds_toArray, List.set_cons_zero, List.set_cons_succ]
          iterate 1
            refine wpS_t rfl (v := ?_) (by rfl) (fun W => ?_) ?_
            rotate_left
            · go_simp
              try rfl
            try simp only [Act.put, List.setIfInBounds_toArray, List.set_cons_zero, List.set_cons_succ]
          refine wpS_done ?_
          clear heq
          have hmx : pc.length + 1 < 1000000 := by have h1 := HLN.out; have h2 := HNB.out; have h3 := HJ.out; omega
          have HMX := Lib.hid hmx
          clear hmx
          have HG := Lib.hid trivial
          go_wp2_with (first
            | (have _ := HG; refine wpList_load_pair rfl _ rfl ba (oa + j * 33) rfl y HXY.out.1 ?_)
            | (have _ := HG; refine wpList_build_pairs rfl 1 _ rfl [y] rfl (by omega) (by omega) rfl ?_; have hb2 := al (Below.refl VV.heap.size VV) (.cells (cellsP [y]).toArray 41); have HP3 := Lib.hid (And.intro (HR2.out.mem hb2) (range_new VV (cellsP [y]).toArray 41 _ rfl)); clear HG hb2; generalize VV.heap.size = y8 at *; generalize VV.alloc (.cells (cellsP [y]).toArray 41) = V2 at *)
            | (have _ := HP3; refine wpList_append_pairs rfl _ _ rfl W0.heap.size (.slice ao (pc.length) co) ((pc).map Prod.fst) [y] (pc.length) 1 (by rw [List.length_map]) rfl rfl (by have hx := HP3.out.1.row; exact hx) y8 0 1 rfl HP3.out.2 (by omega) HMX.out HP3.out.1.below.size ?_; intro g9 cap9 V4 ho9 hg9 hat9 _; have HQ9 := Lib.hid (HP3.out.1.push (y := y) (b := yb) HYZ.out (m := pc.length + 1) (bytes_below HYB.out HP3.out.1.below (Nat.le_refl _)) (fun h0 k hk e => by have h1 := bytes_ltC HYB.out h0 hk; have h2 := own_base HP3.out.1.row k e; omega) (by rfl) ho9 hg9 hat9); clear ho9 hg9 hat9 HP3))
          have hwj : wrap64 ((j : Int) + 1) = ((j + 1 : Nat) : Int) := by have := HNB.out; have := HJ.out; unfold wrap64; omega
          try rw [hwj]
          clear hwj
          exact ⟨⟨j + 1, pc ++ [(y, yb)], true, by have := HJ.out; omega, rfl, rfl, ⟨_, _, by rw [List.length_append, List.length_singleton]⟩, HQ9.out, by rw [HST.out]; simp [stP, HKY.out], by have := HLN.out; simp; omega⟩, by simp only [intOf]; have := HJ.out; omega⟩
      | false =>
        go_wp2_with fail
        refine wp_region_sched (fun V => V.rangeAt z 0 (cellsOf k)) [.t 0, .t 1, .t 2, .t 4, .t 5, .t 6, .t 7, .s 3, .e 8 true, .e 9 false, .t 10] (by kernel_rfl) (by kernel_rfl) (by intro c a d v w h; cases d <;> exact h) ?_
        have HR3 := Lib.hid (HR.out.mem (Below.refl _ _).drew)
        clear HR
        generalize World.drew _ = V9 at *
        have HXY := Lib.hid (And.intro ((Keeps.of_below (X := fun _ => False) HR3.out.below).range HX0.out.1 (fun h => h)) ((Keeps.of_below (X := fun _ => False) HR3.out.below).range HX0.out.2 (fun h => h)))
        iterate 7
          refine wpS_t rfl (v := ?_) (by rfl) (fun W => ?_) ?_
          rotate_left
          · go_simp
            try rfl
          try simp only [Act.put, List.setIfInBounds_toArray, List.set_cons_zero, List.set_cons_succ]
        refine wpS_load_sum (by exact HXY.out.2) rfl (by rfl) _ (by rfl) z 0 (by rfl) k (fun V hV => hV) ?_
        try simp only [Act.put, List.setIfInBounds_toArray, List.set_cons_zero, List.set_cons_succ]
        refine wpS_k rfl (by rfl) (fun K hK => ?_)
        refine wp_load_sum _ (by rfl) ba (oa + j * 33) (by rfl) y.1 (encP_key HXY.out.1) ?_
        refine hK _ _ ⟨by exact HXY.out.2, ?_⟩; clear hK K
        try simp only [Act.put, List.setIfInBounds_toArray, List.set_cons_zero, List.set_cons_succ]
        refine wpS_e rfl (by rfl) (fun K hK => ?_)
        go_simp
        refine (less_any k y.1 V9).mono ?_
        rintro e V8 ⟨rfl, hb8⟩
        have HR := Lib.hid (HR3.out.mem hb8)
        clear hb8 HR3 HXY
        refine hK _ _ ?_; clear hK K
        try simp only [Act.put, List.setIfInBounds_toArray, List.set_cons_zero, List.set_cons_succ]
        by_cases hless : Keys.kn k < Keys.kn y.1
        · rw [decide_eq_true hless]
          have HLS := Lib.hid hless
          clear hless
          iterate 1
            refine wpS_t rfl (v := ?_) (by rfl) (fun W => ?_) ?_
            rotate_left
            · go_simp
              try rfl
            try simp only [Act.put, List.setIfInBounds_toArray, List.set_cons_zero, List.set_cons_succ]
          refine wpS_done ?_
          go_wp2_with fail
          refine wp_region_sched (fun V => V.rangeAt z 0 (cellsOf k)) [.t 0, .t 2, .s 1, .e 3 true, .t 4, .e 5 false, .e 6 false, .t 7] (by kernel_rfl) (by kernel_rfl) (by intro c a d v w h; cases d <;> exact h) ?_
          have HP1 := Lib.hid (HR.out.mem (Below.refl _ _).drew)
          clear HR
          generalize World.drew _ = V at *
          have HKV := Lib.hid ((Keeps.of_below (X := fun _ => False) HP1.out.below).range H0.out.1 (fun h => h))
          have HVV := Lib.hid (bytes_below H0.out.2.2 HP1.out.below (Nat.le_refl _))
          iterate 2
            refine wpS_t rfl (v := ?_) (by rfl) (fun W => ?_) ?_
            rotate_left
            · go_simp
              try rfl
            try simp only [Act.put, List.setIfInBounds_toArray, List.set_cons_zero, List.set_cons_succ]
          refine wpS_load_sum (by exact HKV.out) rfl (by rfl) _ (by rfl) z 0 (by rfl) k (fun V hV => hV) ?_
          try simp only [Act.put, List.setIfInBounds_toArray, List.set_cons_zero, List.set_cons_succ]
          refine wpS_k rfl (by rfl) (fun K hK => ?_)
          refine wp_append_nil_bytesC _ _ (by rfl) (by rfl) _ bs (by rfl) HVV.out HBS.out ?_
          intro ax cx V1 hb1 hbx hbo
          have HN1 := Lib.hid (And.intro hbx (fun k hk (e : (Value.slice ao pc.length co).ownBlock = some k) => (by have h1 := hbo k hk; have h2 := own_lt HP1.out.row e; omega : False)))
          have HZ7 := Lib.hid (fun k (hk : (Value.slice ax bs.length cx).ownBlock = some k) => HZZ.out k (Nat.le_trans HBW.out.size (Nat.le_trans HP1.out.below.size (hbo k hk))))
          have HP2 := Lib.hid (And.intro (HP1.out.mem hb1) ((Keeps.of_below (X := fun _ => False) hb1).range HKV.out (fun h => h)))
          clear hb1 hbx hbo HP1 HKV HVV
          refine hK _ _ ⟨by exact HP2.out.2, ?_⟩; clear hK K
          try simp only [Act.put, List.setIfInBounds_toArray, List.set_cons_zero, List.set_cons_succ]
          refine wpS_t rfl (v := .agg (encP (k, ax, bs.length, cx)).toArray) (by rfl) (fun W => exec_build_pair _ rfl (k, ax, bs.length, cx) (by rfl) W) ?_
          try simp only [Act.put, List.setIfInBounds_toArray, List.set_cons_zero, List.set_cons_succ]
          obtain ⟨y7, hy7⟩ : ∃ y : PE, y = (k, ax, bs.length, cx) := ⟨_, rfl⟩
          have HY7 := Lib.hid hy7
          rw [← hy7]
          clear hy7
          refine wpS_e rfl (by rfl) (fun K hK => ?_)
          refine wp_build_pairs 1 _ (by rfl) [y7] rfl (by omega) (by omega) (by rfl) ?_
          have hb2 := al (Below.refl V1.heap.size V1) (.cells (cellsP [y7]).toArray 41)
          have HP3 := Lib.hid (And.intro (HP2.out.1.mem hb2) (And.intro (range_new V1 (cellsP [y7]).toArray 41 _ rfl) (bytes_below HN1.out.1 hb2 (Nat.le_refl _))))
          clear hb2 HP2
          refine hK _ _ ?_; clear hK K
          try simp only [Act.put, List.setIfInBounds_toArray, List.set_cons_zero, List.set_cons_succ]
          generalize V1.heap.size = y8 at *
          generalize V1.alloc (.cells (cellsP [y7]).toArray 41) = V2 at *
          refine wpS_e rfl (by rfl) (fun K hK => ?_)
          refine wp_append_pairs _ _ (by rfl) W0.heap.size (.slice ao pc.length co) (pc.map Prod.fst) [y7] pc.length 1 (by rw [List.length_map]) rfl (by rfl) HP3.out.1.row y8 0 1 (by rfl) HP3.out.2.1 (by omega) (by have h1 := HLN.out; have h2 := HNB.out; have h3 := HJ.out; omega) HP3.out.1.below.size ?_
          intro g7 cap7 V3 ho9 hg7 hat7 _
          have hpu := HP3.out.1.push (y := y7) (b := bs) (m := pc.length + 1) (by rw [HY7.out]; exact fun _ k hk => HZ7.out k hk) (by rw [HY7.out]; exact HP3.out.2.2) (by rw [HY7.out]; exact fun _ k hk e => HN1.out.2 k hk e) rfl ho9 hg7 hat7
          have HQ := Lib.hid hpu
          clear ho9 hg7 hat7 hpu HP3 HN1
          refine hK _ _ ?_; clear hK K
          try simp only [Act.put, List.setIfInBounds_toArray, List.set_cons_zero, List.set_cons_succ]
          iterate 1
            refine wpS_t rfl (v := ?_) (by rfl) (fun W => ?_) ?_
            rotate_left
            · go_simp
              try rfl
            try simp only [Act.put, List.setIfInBounds_toArray, List.set_cons_zero, List.set_cons_succ]
          refine wpS_done ?_
          have HR := Lib.hid HQ.out
          clear HQ
          by_cases hky : y.1 = k
          · go_wp2_with fail
            refine wp_region_sched (fun V => V.rangeAt ba (oa + j * 33) (cellsOf y.1)) [.t 0, .t 1, .t 2, .t 3, .s 4, .e 5 true, .t 6] (by kernel_rfl) (by kernel_rfl) (by intro c a d v w h; cases d <;> exact h) ?_
            have HR2 := Lib.hid (HR.out.mem (Below.refl _ _).drew)
            clear HR
            generalize World.drew _ = VV at *
            have HXY := Lib.hid (And.intro ((Keeps.of_below (X := fun _ => False) HR2.out.below).range HX0.out.1 (fun h => h)) ((Keeps.of_below (X := fun _ => False) HR2.out.below).range HX0.out.2 (fun h => h)))
            have heq := eq_sums y.1 k
            rw [decide_eq_true hky] at heq
            have HKY := Lib.hid hky
            clear hky
            iterate 4
              refine wpS_t rfl (v := ?_) (by rfl) (fun W => ?_) ?_
              rotate_left
              · go_simp
                try rfl
              try simp only [Act.put, List.setIfInBounds_toArray, List.set_cons_zero, List.set_cons_succ]
            refine wpS_load_sum (by exact encP_key HXY.out.1) rfl (by rfl) _ (by rfl) ba (oa + j * 33) (by rfl) y.1 (fun V hV => hV) ?_
            try simp only [Act.put, List.setIfInBounds_toArray, List.set_cons_zero, List.set_cons_succ]
            refine wpS_k rfl (by rfl) (fun K hK => ?_)
            refine wp_load_sum _ (by rfl) z 0 (by rfl) k HXY.out.2 ?_
            refine hK _ _ ⟨by exact encP_key HXY.out.1, ?_⟩; clear hK K
            try simp only [Act.put, List.setIfInBounds_toArray, List.set_cons_zero, List.set_cons_succ]
            iterate 1
              refine wpS_t rfl (v := ?_) (by rfl) (fun W => ?_) ?_
              rotate_left
              · go_simp
                try rfl
              try simp only [Act.put, List.setIfInBounds_toArray, List.set_cons_zero, List.set_cons_succ]
            refine wpS_done ?_
            clear heq
            clear HXY
            have hwj : wrap64 ((j : Int) + 1) = ((j + 1 : Nat) : Int) := by have := HNB.out; have := HJ.out; unfold wrap64; omega
            go_wp2_with fail
            try rw [hwj]
            clear hwj
            exact ⟨⟨j + 1, pc ++ [(y7, bs)], true, by have := HJ.out; omega, rfl, rfl, ⟨_, _, by rw [List.length_append, List.length_singleton]⟩, HR2.out, by rw [HST.out]; simp [stP, HKY.out, HY7.out], by have := HLN.out; simp; omega⟩, by simp only [intOf]; have := HJ.out; omega⟩
          · go_wp2_with fail
            refine wp_region_sched (fun V => V.rangeAt ba (oa + j * 33) (cellsOf y.1)) [.t 0, .t 1, .t 2, .t 3, .s 4, .e 5 true, .t 6] (by kernel_rfl) (by kernel_rfl) (by intro c a d v w h; cases d <;> exact h) ?_
            have HR2 := Lib.hid (HR.out.mem (Below.refl _ _).drew)
            clear HR
            generalize World.drew _ = VV at *
            have HXY := Lib.hid (And.intro ((Keeps.of_below (X := fun _ => False) HR2.out.below).range HX0.out.1 (fun h => h)) ((Keeps.of_below (X := fun _ => False) HR2.out.below).range HX0.out.2 (fun h => h)))
            have heq := eq_sums y.1 k
            rw [decide_eq_false hky] at heq
            have HKY := Lib.hid hky
            clear hky
            iterate 4
              refine wpS_t rfl (v := ?_) (by rfl) (fun W => ?_) ?_
              rotate_left
              · go_simp
                try rfl
              try simp only [Act.put, List.setIfInBounds_toArray, List.set_cons_zero, List.set_cons_succ]
            refine wpS_load_sum (by exact encP_key HXY.out.1) rfl (by rfl) _ (by rfl) ba (oa + j * 33) (by rfl) y.1 (fun V hV => hV) ?_
            try simp only [Act.put, List.setIfInBounds_toArray, List.set_cons_zero, List.set_cons_succ]
            refine wpS_k rfl (by rfl) (fun K hK => ?_)
            refine wp_load_sum _ (by rfl) z 0 (by rfl) k HXY.out.2 ?_
            refine hK _ _ ⟨by exact encP_key HXY.out.1, ?_⟩; clear hK K
            try simp only [Act.put, List.setIfInBounds_toArray, List.set_cons_zero, List.set_cons_succ]
            iterate 1
              refine wpS_t rfl (v := ?_) (by rfl) (fun W => ?_) ?_
              rotate_left
              · go_simp
                try rfl
              try simp only [Act.put, List.setIfInBounds_toArray, List.set_cons_zero, List.set_cons_succ]
            refine wpS_done ?_
            clear heq

            have hmx : pc.length + 1 + 1 < 1000000 := by have h1 := HLN.out; have h2 := HNB.out; have h3 := HJ.out; omega
            have HMX := Lib.hid hmx
            clear hmx
            have HG := Lib.hid trivial
            go_wp2_with (first
              | (have _ := HG; refine wpList_load_pair rfl _ rfl ba (oa + j * 33) rfl y HXY.out.1 ?_)
              | (have _ := HG; refine wpList_build_pairs rfl 1 _ rfl [y] rfl (by omega) (by omega) rfl ?_; have hb2 := al (Below.refl VV.heap.size VV) (.cells (cellsP [y]).toArray 41); have HP3 := Lib.hid (And.intro (HR2.out.mem hb2) (range_new VV (cellsP [y]).toArray 41 _ rfl)); clear HG hb2; generalize VV.heap.size = y8 at *; generalize VV.alloc (.cells (cellsP [y]).toArray 41) = V2 at *)
              | (have _ := HP3; refine wpList_append_pairs rfl _ _ rfl W0.heap.size (.slice (some ⟨g7, 0, none⟩) (pc.length + 1) cap7) ((pc ++ [(y7, bs)]).map Prod.fst) [y] (pc.length + 1) 1 (by rw [List.length_map]; simp) rfl rfl (by have hx := HP3.out.1.row; simp only [List.length_append, List.length_singleton] at hx; exact hx) y8 0 1 rfl HP3.out.2 (by omega) HMX.out HP3.out.1.below.size ?_; intro g9 cap9 V4 ho9 hg9 hat9 _; have HQ9 := Lib.hid (HP3.out.1.push (y := y) (b := yb) HYZ.out (m := pc.length + 1 + 1) (bytes_below HYB.out HP3.out.1.below (Nat.le_refl _)) (fun h0 k hk e => by have h1 := bytes_ltC HYB.out h0 hk; have h2 := own_base HP3.out.1.row k e; omega) (by simp only [List.length_append, List.length_singleton]) ho9 hg9 hat9); clear ho9 hg9 hat9 HP3))
            have hwj : wrap64 ((j : Int) + 1) = ((j + 1 : Nat) : Int) := by have := HNB.out; have := HJ.out; unfold wrap64; omega
            try rw [hwj]
            clear hwj
            exact ⟨⟨j + 1, pc ++ [(y7, bs)] ++ [(y, yb)], true, by have := HJ.out; omega, rfl, rfl, ⟨_, _, by rw [List.length_append, List.length_append, List.length_singleton, List.length_singleton]⟩, HQ9.out, by rw [HST.out]; simp [stP, HKY.out, HY7.out, HLS.out], by have := HLN.out; simp; omega⟩, by simp only [intOf]; have := HJ.out; omega⟩
        · rw [decide_eq_false hless]
          have HLS := Lib.hid hless
          clear hless
          iterate 1
            refine wpS_t rfl (v := ?_) (by rfl) (fun W => ?_) ?_
            rotate_left
            · go_simp
              try rfl
            try simp only [Act.put, List.setIfInBounds_toArray, List.set_cons_zero, List.set_cons_succ]
          refine wpS_done ?_
          by_cases hky : y.1 = k
          · go_wp2_with fail
            refine wp_region_sched (fun V => V.rangeAt ba (oa + j * 33) (cellsOf y.1)) [.t 0, .t 1, .t 2, .t 3, .s 4, .e 5 true, .t 6] (by kernel_rfl) (by kernel_rfl) (by intro c a d v w h; cases d <;> exact h) ?_
            have HR2 := Lib.hid (HR.out.mem (Below.refl _ _).drew)
            clear HR
            generalize World.drew _ = VV at *
            have HXY := Lib.hid (And.intro ((Keeps.of_below (X := fun _ => False) HR2.out.below).range HX0.out.1 (fun h => h)) ((Keeps.of_below (X := fun _ => False) HR2.out.below).range HX0.out.2 (fun h => h)))
            have heq := eq_sums y.1 k
            rw [decide_eq_true hky] at heq
            have HKY := Lib.hid hky
            clear hky
            iterate 4
              refine wpS_t rfl (v := ?_) (by rfl) (fun W => ?_) ?_
              rotate_left
              · go_simp
                try rfl
              try simp only [Act.put, List.setIfInBounds_toArray, List.set_cons_zero, List.set_cons_succ]
            refine wpS_load_sum (by exact encP_key HXY.out.1) rfl (by rfl) _ (by rfl) ba (oa + j * 33) (by rfl) y.1 (fun V hV => hV) ?_
            try simp only [Act.put, List.setIfInBounds_toArray, List.set_cons_zero, List.set_cons_succ]
            refine wpS_k rfl (by rfl) (fun K hK => ?_)
            refine wp_load_sum _ (by rfl) z 0 (by rfl) k HXY.out.2 ?_
            refine hK _ _ ⟨by exact encP_key HXY.out.1, ?_⟩; clear hK K
            try simp only [Act.put, List.setIfInBounds_toArray, List.set_cons_zero, List.set_cons_succ]
            iterate 1
              refine wpS_t rfl (v := ?_) (by rfl) (fun W => ?_) ?_
              rotate_left
              · go_simp
                try rfl
              try simp only [Act.put, List.setIfInBounds_toArray, List.set_cons_zero, List.set_cons_succ]
            refine wpS_done ?_
            clear heq
            clear HXY
            go_wp2_with fail
            refine wp_region_sched (fun V => V.rangeAt z 0 (cellsOf k)) [.t 0, .t 2, .s 1, .e 3 true, .t 4, .e 5 false, .e 6 false, .t 7] (by kernel_rfl) (by kernel_rfl) (by intro c a d v w h; cases d <;> exact h) ?_
            have HP1 := Lib.hid (HR2.out.mem (Below.refl _ _).drew)
            clear HR2
            generalize World.drew _ = V at *
            have HKV := Lib.hid ((Keeps.of_below (X := fun _ => False) HP1.out.below).range H0.out.1 (fun h => h))
            have HVV := Lib.hid (bytes_below H0.out.2.2 HP1.out.below (Nat.le_refl _))
            iterate 2
              refine wpS_t rfl (v := ?_) (by rfl) (fun W => ?_) ?_
              rotate_left
              · go_simp
                try rfl
              try simp only [Act.put, List.setIfInBounds_toArray, List.set_cons_zero, List.set_cons_succ]
            refine wpS_load_sum (by exact HKV.out) rfl (by rfl) _ (by rfl) z 0 (by rfl) k (fun V hV => hV) ?_
            try simp only [Act.put, List.setIfInBounds_toArray, List.set_cons_zero, List.set_cons_succ]
            refine wpS_k rfl (by rfl) (fun K hK => ?_)
            refine wp_append_nil_bytesC _ _ (by rfl) (by rfl) _ bs (by rfl) HVV.out HBS.out ?_
            intro ax cx V1 hb1 hbx hbo
            have HN1 := Lib.hid (And.intro hbx (fun k hk (e : (Value.slice ao pc.length co).ownBlock = some k) => (by have h1 := hbo k hk; have h2 := own_lt HP1.out.row e; omega : False)))
            have HZ7 := Lib.hid (fun k (hk : (Value.slice ax bs.length cx).ownBlock = some k) => HZZ.out k (Nat.le_trans HBW.out.size (Nat.le_trans HP1.out.below.size (hbo k hk))))
            have HP2 := Lib.hid (And.intro (HP1.out.mem hb1) ((Keeps.of_below (X := fun _ => False) hb1).range HKV.out (fun h => h)))
            clear hb1 hbx hbo HP1 HKV HVV
            refine hK _ _ ⟨by exact HP2.out.2, ?_⟩; clear hK K
            try simp only [Act.put, List.setIfInBounds_toArray, List.set_cons_zero, List.set_cons_succ]
            refine wpS_t rfl (v := .agg (encP (k, ax, bs.length, cx)).toArray) (by rfl) (fun W => exec_build_pair _ rfl (k, ax, bs.length, cx) (by rfl) W) ?_
            try simp only [Act.put, List.setIfInBounds_toArray, List.set_cons_zero, List.set_cons_succ]
            obtain ⟨y7, hy7⟩ : ∃ y : PE, y = (k, ax, bs.length, cx) := ⟨_, rfl⟩
            have HY7 := Lib.hid hy7
            rw [← hy7]
            clear hy7
            refine wpS_e rfl (by rfl) (fun K hK => ?_)
            refine wp_build_pairs 1 _ (by rfl) [y7] rfl (by omega) (by omega) (by rfl) ?_
            have hb2 := al (Below.refl V1.heap.size V1) (.cells (cellsP [y7]).toArray 41)
            have HP3 := Lib.hid (And.intro (HP2.out.1.mem hb2) (And.intro (range_new V1 (cellsP [y7]).toArray 41 _ rfl) (bytes_below HN1.out.1 hb2 (Nat.le_refl _))))
            clear hb2 HP2
            refine hK _ _ ?_; clear hK K
            try simp only [Act.put, List.setIfInBounds_toArray, List.set_cons_zero, List.set_cons_succ]
            generalize V1.heap.size = y8 at *
            generalize V1.alloc (.cells (cellsP [y7]).toArray 41) = V2 at *
            refine wpS_e rfl (by rfl) (fun K hK => ?_)
            refine wp_append_pairs _ _ (by rfl) W0.heap.size (.slice ao pc.length co) (pc.map Prod.fst) [y7] pc.length 1 (by rw [List.length_map]) rfl (by rfl) HP3.out.1.row y8 0 1 (by rfl) HP3.out.2.1 (by omega) (by have h1 := HLN.out; have h2 := HNB.out; have h3 := HJ.out; omega) HP3.out.1.below.size ?_
            intro g7 cap7 V3 ho9 hg7 hat7 _
            have hpu := HP3.out.1.push (y := y7) (b := bs) (m := pc.length + 1) (by rw [HY7.out]; exact fun _ k hk => HZ7.out k hk) (by rw [HY7.out]; exact HP3.out.2.2) (by rw [HY7.out]; exact fun _ k hk e => HN1.out.2 k hk e) rfl ho9 hg7 hat7
            have HQ := Lib.hid hpu
            clear ho9 hg7 hat7 hpu HP3 HN1
            refine hK _ _ ?_; clear hK K
            try simp only [Act.put, List.setIfInBounds_toArray, List.set_cons_zero, List.set_cons_succ]
            iterate 1
              refine wpS_t rfl (v := ?_) (by rfl) (fun W => ?_) ?_
              rotate_left
              · go_simp
                try rfl
              try simp only [Act.put, List.setIfInBounds_toArray, List.set_cons_zero, List.set_cons_succ]
            refine wpS_done ?_
            have hwj : wrap64 ((j : Int) + 1) = ((j + 1 : Nat) : Int) := by have := HNB.out; have := HJ.out; unfold wrap64; omega
            go_wp2_with fail
            try rw [hwj]
            clear hwj
            exact ⟨⟨j + 1, pc ++ [(y7, bs)], true, by have := HJ.out; omega, rfl, rfl, ⟨_, _, by rw [List.length_append, List.length_singleton]⟩, HQ.out, by rw [HST.out]; simp [stP, HKY.out, HY7.out], by have := HLN.out; simp; omega⟩, by simp only [intOf]; have := HJ.out; omega⟩
          · go_wp2_with fail
            refine wp_region_sched (fun V => V.rangeAt ba (oa + j * 33) (cellsOf y.1)) [.t 0, .t 1, .t 2, .t 3, .s 4, .e 5 true, .t 6] (by kernel_rfl) (by kernel_rfl) (by intro c a d v w h; cases d <;> exact h) ?_
            have HR2 := Lib.hid (HR.out.mem (Below.refl _ _).drew)
            clear HR
            generalize World.drew _ = VV at *
            have HXY := Lib.hid (And.intro ((Keeps.of_below (X := fun _ => False) HR2.out.below).range HX0.out.1 (fun h => h)) ((Keeps.of_below (X := fun _ => False) HR2.out.below).range HX0.out.2 (fun h => h)))
            have heq := eq_sums y.1 k
            rw [decide_eq_false hky] at heq
            have HKY := Lib.hid hky
            clear hky
            iterate 4
              refine wpS_t rfl (v := ?_) (by rfl) (fun W => ?_) ?_
              rotate_left
              · go_simp
                try rfl
              try simp only [Act.put, List.setIfInBounds_toArray, List.set_cons_zero, List.set_cons_succ]
            refine wpS_load_sum (by exact encP_key HXY.out.1) rfl (by rfl) _ (by rfl) ba (oa + j * 33) (by rfl) y.1 (fun V hV => hV) ?_
            try simp only [Act.put, List.setIfInBounds_toArray, List.set_cons_zero, List.set_cons_succ]
            refine wpS_k rfl (by rfl) (fun K hK => ?_)
            refine wp_load_sum _ (by rfl) z 0 (by rfl) k HXY.out.2 ?_
            refine hK _ _ ⟨by exact encP_key HXY.out.1, ?_⟩; clear hK K
            try simp only [Act.put, List.setIfInBounds_toArray, List.set_cons_zero, List.set_cons_succ]
            iterate 1
              refine wpS_t rfl (v := ?_) (by rfl) (fun W => ?_) ?_
              rotate_left
              · go_simp
                try rfl
              try simp only [Act.put, List.setIfInBounds_toArray, List.set_cons_zero, List.set_cons_succ]
            refine wpS_done ?_
            clear heq

            have hmx : pc.length + 1 < 1000000 := by have h1 := HLN.out; have h2 := HNB.out; have h3 := HJ.out; omega
            have HMX := Lib.hid hmx
            clear hmx
            have HG := Lib.hid trivial
            go_wp2_with (first
              | (have _ := HG; refine wpList_load_pair rfl _ rfl ba (oa + j * 33) rfl y HXY.out.1 ?_)
              | (have _ := HG; refine wpList_build_pairs rfl 1 _ rfl [y] rfl (by omega) (by omega) rfl ?_; have hb2 := al (Below.refl VV.heap.size VV) (.cells (cellsP [y]).toArray 41); have HP3 := Lib.hid (And.intro (HR2.out.mem hb2) (range_new VV (cellsP [y]).toArray 41 _ rfl)); clear HG hb2; generalize VV.heap.size = y8 at *; generalize VV.alloc (.cells (cellsP [y]).toArray 41) = V2 at *)
              | (have _ := HP3; refine wpList_append_pairs rfl _ _ rfl W0.heap.size (.slice ao (pc.length) co) ((pc).map Prod.fst) [y] (pc.length) 1 (by rw [List.length_map]) rfl rfl (by have hx := HP3.out.1.row; exact hx) y8 0 1 rfl HP3.out.2 (by omega) HMX.out HP3.out.1.below.size ?_; intro g9 cap9 V4 ho9 hg9 hat9 _; have HQ9 := Lib.hid (HP3.out.1.push (y := y) (b := yb) HYZ.out (m := pc.length + 1) (bytes_below HYB.out HP3.out.1.below (Nat.le_refl _)) (fun h0 k hk e => by have h1 := bytes_ltC HYB.out h0 hk; have h2 := own_base HP3.out.1.row k e; omega) (by rfl) ho9 hg9 hat9); clear ho9 hg9 hat9 HP3))
            have hwj : wrap64 ((j : Int) + 1) = ((j + 1 : Nat) : Int) := by have := HNB.out; have := HJ.out; unfold wrap64; omega
            try rw [hwj]
            clear hwj
            exact ⟨⟨j + 1, pc ++ [(y, yb)], false, by have := HJ.out; omega, rfl, rfl, ⟨_, _, by rw [List.length_append, List.length_singleton]⟩, HQ9.out, by rw [HST.out]; simp [stP, HKY.out, HLS.out], by have := HLN.out; simp; omega⟩, by simp only [intOf]; have := HJ.out; omega⟩
    · have hjn : j = N := by omega
      subst hjn
      clear hlt
      have htk : P.take j = P := List.take_of_length_le (by rw [HNP.out]; exact Nat.le_refl _)
      have hL := HLG.out
      rw [htk] at hL
      have HLG2 := Lib.hid hL
      have HJ := Lib.hid hj
      clear htk hL HLG hj
      have c1 : decide (j < j) = false := by simp
      have c1' : decide ((j : Int) < (j : Int)) = false := by simp
      cases db with
      | true =>
        go_wp2_with fail
        refine bodyPost_ret (results_tmp rfl _ _ _) rfl ?_
        exact ⟨_, rfl, HR.out.pairs (fun k hk => HZZ.out k (Nat.le_trans HBW.out.size hk)) (by unfold rp; rw [HLG2.out]; rfl), HBW.out.trans (HR.out.below.mono HBW.out.size)⟩
      | false =>
        go_wp2_with fail
        refine wp_region_sched (fun V => V.rangeAt z 0 (cellsOf k)) [.t 0, .t 2, .s 1, .e 3 true, .t 4, .e 5 false, .e 6 false, .t 7] (by kernel_rfl) (by kernel_rfl) (by intro c a d v w h; cases d <;> exact h) ?_
        have HP1 := Lib.hid (HR.out.mem (Below.refl _ _).drew)
        clear HR
        generalize World.drew _ = V at *
        have HKV := Lib.hid ((Keeps.of_below (X := fun _ => False) HP1.out.below).range H0.out.1 (fun h => h))
        have HVV := Lib.hid (bytes_below H0.out.2.2 HP1.out.below (Nat.le_refl _))
        iterate 2
          refine wpS_t rfl (v := ?_) (by rfl) (fun W => ?_) ?_
          rotate_left
          · go_simp
            try rfl
          try simp only [Act.put, List.setIfInBounds_toArray, List.set_cons_zero, List.set_cons_succ]
        refine wpS_load_sum (by exact HKV.out) rfl (by rfl) _ (by rfl) z 0 (by rfl) k (fun V hV => hV) ?_
        try simp only [Act.put, List.setIfInBounds_toArray, List.set_cons_zero, List.set_cons_succ]
        refine wpS_k rfl (by rfl) (fun K hK => ?_)
        refine wp_append_nil_bytesC _ _ (by rfl) (by rfl) _ bs (by rfl) HVV.out HBS.out ?_
        intro ax cx V1 hb1 hbx hbo
        have HN1 := Lib.hid (And.intro hbx (fun k hk (e : (Value.slice ao pc.length co).ownBlock = some k) => (by have h1 := hbo k hk; have h2 := own_lt HP1.out.row e; omega : False)))
        have HZ7 := Lib.hid (fun k (hk : (Value.slice ax bs.length cx).ownBlock = some k) => HZZ.out k (Nat.le_trans HBW.out.size (Nat.le_trans HP1.out.below.size (hbo k hk))))
        have HP2 := Lib.hid (And.intro (HP1.out.mem hb1) ((Keeps.of_below (X := fun _ => False) hb1).range HKV.out (fun h => h)))
        clear hb1 hbx hbo HP1 HKV HVV
        refine hK _ _ ⟨by exact HP2.out.2, ?_⟩; clear hK K
        try simp only [Act.put, List.setIfInBounds_toArray, List.set_cons_zero, List.set_cons_succ]
        refine wpS_t rfl (v := .agg (encP (k, ax, bs.length, cx)).toArray) (by rfl) (fun W => exec_build_pair _ rfl (k, ax, bs.length, cx) (by rfl) W) ?_
        try simp only [Act.put, List.setIfInBounds_toArray, List.set_cons_zero, List.set_cons_succ]
        obtain ⟨y7, hy7⟩ : ∃ y : PE, y = (k, ax, bs.length, cx) := ⟨_, rfl⟩
        have HY7 := Lib.hid hy7
        rw [← hy7]
        clear hy7
        refine wpS_e rfl (by rfl) (fun K hK => ?_)
        refine wp_build_pairs 1 _ (by rfl) [y7] rfl (by omega) (by omega) (by rfl) ?_
        have hb2 := al (Below.refl V1.heap.size V1) (.cells (cellsP [y7]).toArray 41)
        have HP3 := Lib.hid (And.intro (HP2.out.1.mem hb2) (And.intro (range_new V1 (cellsP [y7]).toArray 41 _ rfl) (bytes_below HN1.out.1 hb2 (Nat.le_refl _))))
        clear hb2 HP2
        refine hK _ _ ?_; clear hK K
        try simp only [Act.put, List.setIfInBounds_toArray, List.set_cons_zero, List.set_cons_succ]
        generalize V1.heap.size = y8 at *
        generalize V1.alloc (.cells (cellsP [y7]).toArray 41) = V2 at *
        refine wpS_e rfl (by rfl) (fun K hK => ?_)
        refine wp_append_pairs _ _ (by rfl) W0.heap.size (.slice ao pc.length co) (pc.map Prod.fst) [y7] pc.length 1 (by rw [List.length_map]) rfl (by rfl) HP3.out.1.row y8 0 1 (by rfl) HP3.out.2.1 (by omega) (by have h1 := HLN.out; have h2 := HNB.out; have h3 := HJ.out; omega) HP3.out.1.below.size ?_
        intro g7 cap7 V3 ho9 hg7 hat7 _
        have hpu := HP3.out.1.push (y := y7) (b := bs) (m := pc.length + 1) (by rw [HY7.out]; exact fun _ k hk => HZ7.out k hk) (by rw [HY7.out]; exact HP3.out.2.2) (by rw [HY7.out]; exact fun _ k hk e => HN1.out.2 k hk e) rfl ho9 hg7 hat7
        have HQ := Lib.hid hpu
        clear ho9 hg7 hat7 hpu HP3 HN1
        refine hK _ _ ?_; clear hK K
        try simp only [Act.put, List.setIfInBounds_toArray, List.set_cons_zero, List.set_cons_succ]
        iterate 1
          refine wpS_t rfl (v := ?_) (by rfl) (fun W => ?_) ?_
          rotate_left
          · go_simp
            try rfl
          try simp only [Act.put, List.setIfInBounds_toArray, List.set_cons_zero, List.set_cons_succ]
        refine wpS_done ?_
        go_wp2_with fail
        refine bodyPost_ret (results_tmp rfl _ _ _) rfl ?_
        exact ⟨_, rfl, HQ.out.pairs (fun k hk => HZZ.out k (Nat.le_trans HBW.out.size hk)) (by unfold rp; rw [HLG2.out, List.map_append, HY7.out]; rfl), HBW.out.trans (HQ.out.below.mono HBW.out.size)⟩
end Go.Proofs.YtfmgoehnbaiamaaGreatDoor
