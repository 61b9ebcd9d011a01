/-
  Walks: almonerlaw12.ChainsMarks.
-/
import Derived.Test.YtdkcndgehgmadaaK8
open Go Go.RowKit Alm
namespace Go.Proofs.Ytdkcndgehgmadaa
theorem cells8_append (a b : List UInt8) : cells8 (a ++ b) = cells8 a ++ cells8 b := by simp [cells8]
theorem wp_append_bytes {w : World} {o : Oper} {a : Act} {K : Act → World → Prop} {Q : Exit → Act → World → Prop} (s x : Operand)
    (ho : o.op = .call { callee := .builtin .append, args := #[s, x], argTypes := #[50, 50] })
    (base : Nat) (v : Value) (l ys : List UInt8) (n m : Nat) (hn : l.length = n) (hm : ys.length = m) (hs : a.eval s = v) (hown : w.ownsRow base 5 1 v n (cells8 l))
    (b off c : Nat) (hx : a.eval x = .slice (some ⟨b, off, none⟩) m c) (hr : w.rangeAt b off (cells8 ys)) (h0 : 0 < m) (hl : n + m < 4000000000000) (hB : base ≤ w.heap.size)
    (h : ∀ g cap w', w'.ownsRow base 5 1 (.slice (some ⟨g, 0, none⟩) (n + m) cap) (n + m) (cells8 (l ++ ys)) → w.grownBy w' v.ownBlock → (v.ownBlock = some g ∨ g = w.heap.size) → g < w'.heap.size → K (a.put o.dst (.slice (some ⟨g, 0, none⟩) (n + m) cap)) w') : o.wp Try.prog a w K Q := by
  obtain ⟨i, hi, hz⟩ := Option.map_eq_some_iff.1 infoByteZ
  simp only [Prod.mk.injEq] at hz
  refine wp_append_lies w s x _ ho base _ i (.int .u8 0) 1 1 Try.underlying50 hi hz.1 hz.2.1 hz.2.2 rfl (by omega) v n (cells8 l) hs hown ⟨b, off, none⟩ m c (cells8 ys) hx (by rw [length_cells8, hm]; omega) (fun j u hj => by rw [Addr.add_mid]; exact hr j u hj) (oneCell_cells8 ys) h0 (by unfold maxLen; omega) (by omega) hB w.heap.size rfl ?_
  intro g cap w' ho' hg hat hlt
  refine h g cap w' ?_ hg hat hlt
  rw [cells8_append]; exact ho'
/-- What the law has in hand in a round. -/
structure MV (w W0 W : World) (c : Nat) (l : List (List UInt8)) (R : List (Nat × Sum)) : Prop where
  chain : ChainAt w.heap.size W c l
  r : ∀ p ∈ R, W.rangeAt p.1 0 (cellsOf p.2)
  w : Below w.heap.size w W
  w0 : Below W0.heap.size W0 W
theorem MV.below {w W0 W W' : World} {c : Nat} {l : List (List UInt8)} {R : List (Nat × Sum)} (h : MV w W0 W c l R) (hb : Below W.heap.size W W') : MV w W0 W' c l R :=
  ⟨h.chain.below hb, fun p hp => (Keeps.of_below (X := fun _ => False) hb).range (h.r p hp) (fun h => h), h.w.trans (hb.mono h.w.size), h.w0.trans (hb.mono h.w0.size)⟩
theorem MV.addR {w W0 W : World} {c : Nat} {l : List (List UInt8)} {R : List (Nat × Sum)} (h : MV w W0 W c l R) {z : Nat} {s : Sum} (hr : W.rangeAt z 0 (cellsOf s)) : MV w W0 W c l ((z, s) :: R) :=
  ⟨h.chain, fun p hp => by rcases List.mem_cons.1 hp with rfl | hp; exact hr; exact h.r p hp, h.w, h.w0⟩
set_option maxRecDepth 100000 in
set_option maxHeartbeats 2000000 in
theorem chainsMarks_any (l : List (List UInt8)) (v : Value) (w : World) (hv : ListsAt w v l) (hn : l.length ≤ LIM) (hs : ∀ x ∈ l, x.length ≤ LIM) : Calls Try.prog 15 #[v] w fun e w' => e = .returned (.bool true) ∧ Below w.heap.size w w' := by
  have HV := Lib.hid hv
  have HGR := Lib.hid (great12_any l v w hv hn hs)
  obtain ⟨aa, ca, rfl, a1, a2, a3⟩ := hv
  clear a3
  obtain ⟨R, hR⟩ : ∃ R, R = gr12 l := ⟨_, rfl⟩
  rw [← hR] at HGR
  have HR := Lib.hid hR
  clear hR hs
  obtain ⟨n, hna⟩ : ∃ n, n = l.length := ⟨_, rfl⟩
  rw [← hna] at HV HGR a1 hn ⊢
  have HN := Lib.hid hna
  clear hna
  cases R with
  | true =>
    go_enter Try.func15, Try.ntmps15
    go_wp2_with fail
    refine HGR.out.mono ?_
    rintro e w1 ⟨rfl, rfl⟩
    go_wp2_with fail
    refine (alive12_any w).mono ?_
    rintro e w2 ⟨rfl, hb⟩
    have HF := Lib.hid hb; clear hb
    go_wp2_with fail
    exact bodyPost_ret (results_tmp rfl _ _ _) rfl ⟨rfl, HF.out⟩
  | false =>
    have hsm := gr12_le HR.out.symm
    have n60 : n ≤ 60 := by rw [HN.out]; exact hsm.1
    have n60' : (n : Int) ≤ 60 := by omega
    have HSM := Lib.hid hsm.2
    clear hsm hn
    go_enter Try.func15, Try.ntmps15
    go_wp2_with fail
    refine HGR.out.mono ?_
    rintro e w1 ⟨rfl, rfl⟩
    clear HGR
    go_wp2_with fail
    refine (made_any l _ w (by have := HV.out; rw [HN.out] at this ⊢; exact this) (by have := HN.out; omega)).mono ?_
    rintro e w1 ⟨hB, hc⟩
    rcases hc with ⟨c, rfl, hC, hsz⟩ | rfl
    · have HC := Lib.hid hC
      have HB0 := Lib.hid hB
      clear hC hB
      go_wp2_with fail
      go_loopw [4] (fun i W => ∃ j : Nat, j ≤ n ∧ i = .int .i64 (j : Int) ∧ ChainAt w.heap.size W c l ∧ Below w.heap.size w W) (fun i _ => n - (intOf i).toNat)
      case atStart => exact ⟨0, by omega, rfl, HC.out, HB0.out⟩
      case round =>
        obtain ⟨j, hj, rfl, hC, hB⟩ := hrel
        have HCR := Lib.hid (And.intro hC hB)
        clear hC hB HC HB0
        by_cases hlt : j < n
        · have hlt' : (j : Int) < (n : Int) := by omega
          have h0 : l ≠ [] := by intro h; have := HN.out; rw [h] at this; simp at this; omega
          have HW := Lib.hid (HV.out.below HCR.out.2)
          obtain ⟨b1', o1', c1', he1, _, _⟩ := HV.out.form h0
          simp only [Value.slice.injEq] at he1
          obtain ⟨rfl, h9, rfl⟩ := he1
          clear h9
          obtain ⟨u1, hc1, hu1⟩ := HW.out.cell (sp := none) (j := j) (by have := HN.out; omega)
          have hjl : j < l.length := by have := HN.out; omega
          have hx9 : l[j].length ≤ 40000 := HSM.out _ (List.getElem_mem hjl)
          have hstep : mk (l.take (j + 1)) = sh ((mk (l.take j)).toList ++ (lf l[j]).toList) := by rw [List.take_succ_eq_append_getElem hjl, mk_snoc]
          have HM1 := Lib.hid (fun W (h : ChainAt w.heap.size W c l) => cmark_at w.heap.size W c l h j (Nat.le_of_lt hjl))
          have HM2 : Hid (∀ W, ChainAt w.heap.size W c l → Calls Try.prog 39 #[.pointer (some ⟨c, 0, none⟩), .int .u64 ((j : Int) + 1)] W fun e w' => e = .returned (.tuple #[sv (mk (l.take (j + 1))), .int .i64 0]) ∧ Below W.heap.size W w') := Lib.hid (fun W h => cmark_at w.heap.size W c l h (j + 1) hjl)
          have HU := Lib.hid (And.intro hu1 hx9)
          have HST := Lib.hid hstep
          clear hu1 hx9 hstep h0 HW
          generalize l[j] = x at *
          clear hjl
          have HCU := Lib.hid hc1; clear hc1
          have HLF := Lib.hid (fun W (h : BytesAt W u1 x) => lf_any x u1 W h (by have := HU.out.2; omega))
          obtain ⟨m1, hm1⟩ : ∃ m, m = mk (l.take j) := ⟨_, rfl⟩
          obtain ⟨m2, hm2⟩ : ∃ m, m = mk (l.take (j + 1)) := ⟨_, rfl⟩
          obtain ⟨y, hy⟩ : ∃ m, m = lf x := ⟨_, rfl⟩
          rw [← hm1] at HM1 HST
          rw [← hm2] at HM2 HST
          rw [← hy] at HLF HST
          clear hm1 hm2 hy
          have hj0 : (0 : Int) ≤ (j : Int) := by omega
          obtain ⟨W0, hW0⟩ : ∃ W, W = wr := ⟨_, rfl⟩
          have HA := Lib.hid (show MV w W0 wr c l [] from ⟨HCR.out.1, by simp, HCR.out.2, by rw [hW0]; exact Below.refl _ _⟩)
          rw [← hW0] at HCU HU
          clear hW0 HCR
          go_wp2_with fail
          refine (HM1.out _ HA.out.chain).mono ?_
          rintro e w2 ⟨rfl, hb⟩
          have HA2 := Lib.hid (HA.out.below hb)
          clear hb HA
          have HG := Lib.hid trivial
          go_wp2_with (have _ := HG; refine wpList_var_sum (by rfl) rfl _ _ rfl m1 rfl rfl ?_; intro w3 hb hr _ _; obtain ⟨z3, hz3⟩ : ∃ x, x = w2.heap.size := ⟨_, rfl⟩; rw [← hz3] at hr ⊢; have HA3 := Lib.hid ((HA2.out.below hb).addR hr); clear HG hb hr hz3 HA2)
          refine (HM2.out _ HA3.out.chain).mono ?_
          rintro e w4 ⟨rfl, hb⟩
          have HA4 := Lib.hid (HA3.out.below hb)
          clear hb HA3
          have HG := Lib.hid trivial
          go_wp2_with (have _ := HG; refine wpList_var_sum (by rfl) rfl _ _ rfl m2 rfl rfl ?_; intro w5 hb hr _ _; obtain ⟨z5, hz5⟩ : ∃ x, x = w4.heap.size := ⟨_, rfl⟩; rw [← hz5] at hr ⊢; have HA5 := Lib.hid ((HA4.out.below hb).addR hr); have g5 := bc HCU.out HA5.out.w0; clear HG hb hr hz5 HA4)
          refine (HLF.out _ (bytes_below HU.out.1 HA5.out.w0 (Nat.le_refl _))).mono ?_
          rintro e w6 ⟨rfl, hb⟩
          have HA6 := Lib.hid (HA5.out.below hb)
          clear hb HA5 g5
          have HG := Lib.hid trivial
          go_wp2_with (have _ := HG; refine wpList_var_sum (by rfl) rfl _ _ rfl y rfl rfl ?_; intro w7 hb hr _ _; obtain ⟨z7, hz7⟩ : ∃ x, x = w6.heap.size := ⟨_, rfl⟩; rw [← hz7] at hr ⊢; have HA7 := Lib.hid ((HA6.out.below hb).addR hr); clear HG hb hr hz7 HA6)
          refine wp_region_sched (fun V => MV w W0 V c l [(z7, y), (z5, m2), (z3, m1)]) [.t 0, .t 2, .e 1 false, .e 3 false, .t 4] (by kernel_rfl) (by kernel_rfl) (by intro c a d v w h; cases d <;> exact h) ?_
          have HS := Lib.hid (HA7.out.below (Below.refl _ w7).drew)
          clear HA7
          generalize w7.drew = V at *
          iterate 2
            refine wpS_t rfl (v := ?_) (by rfl) (fun W => ?_) ?_
            rotate_left
            · go_simp
              try rfl
            try simp only [Act.put, List.setIfInBounds_toArray, List.set_cons_zero, List.set_cons_succ]
          refine wpS_e rfl (by rfl) (fun K hK => ?_)
          refine wp_append_bytes _ _ (by rfl) V.heap.size _ [] m1.toList 0 32 rfl (by simp) (by rfl) (World.ownsRow_nil _ _ _ _) z3 0 32 (by rfl) (HS.out.r (z3, m1) (by simp)) (by omega) (by omega) (Nat.le_refl _) ?_
          intro g1 cap1 V1 ho1 hg1 _ hl1
          refine hK _ _ ?_; clear hK K
          try simp only [Act.put, List.setIfInBounds_toArray, List.set_cons_zero, List.set_cons_succ]
          have hb1 : Below V.heap.size V V1 := (Keeps.of_grown (X := fun _ => False) hg1 (fun k hk => by cases hk)).below (Nat.le_refl _) (fun k h => h.elim)
          have HS1 := Lib.hid (HS.out.below hb1)
          have HO1 := Lib.hid ho1
          have HVS := Lib.hid hb1
          clear ho1 hg1 hl1 hb1
          refine wpS_e rfl (by rfl) (fun K hK => ?_)
          refine wp_append_bytes _ _ (by rfl) V.heap.size _ ([] ++ m1.toList) y.toList (0 + 32) 32 (by simp) (by simp) (by rfl) HO1.out z7 0 32 (by rfl) (HS1.out.r (z7, y) (by simp)) (by omega) (by omega) HVS.out.size ?_
          intro g2 cap2 V2 ho2 hg2 hat2 hl2
          refine hK _ _ ?_; clear hK K
          try simp only [Act.put, List.setIfInBounds_toArray, List.set_cons_zero, List.set_cons_succ]
          have hb2 : Below V.heap.size V V2 := ((Keeps.of_below (X := fun k => V.heap.size ≤ k) HVS.out).trans (Keeps.of_grown (X := fun k => V.heap.size ≤ k) hg2 (fun k hk => own_base HO1.out k hk))).below (Nat.le_refl _) (fun k h => h)
          have HS2 := Lib.hid (HS.out.below hb2)
          have hby : BytesAt V2 (.slice (some ⟨g2, 0, none⟩) (0 + 32 + 32) cap2) (m1.toList ++ y.toList) := by
            refine bytes_own (base := V.heap.size) (e := 5) ?_ (by simp)
            have := ho2
            rw [List.nil_append] at this
            rw [show (m1.toList ++ y.toList).length = 0 + 32 + 32 from by simp]
            exact this
          have HBY := Lib.hid hby
          clear hby hb2 ho2 hg2 hat2 hl2 HS HS1 HO1 HVS
          iterate 1
            refine wpS_t rfl (v := ?_) (by rfl) (fun W => ?_) ?_
            rotate_left
            · go_simp
              try rfl
            try simp only [Act.put, List.setIfInBounds_toArray, List.set_cons_zero, List.set_cons_succ]
          refine wpS_done ?_
          go_wp2_with fail
          have hes := eq_sums_same
          refine wp_region_sched (fun V => MV w W0 V c l [(z7, y), (z5, m2), (z3, m1)]) [.t 0, .t 1, .t 2, .t 3, .t 4, .t 5, .t 6, .t 8, .s 7, .e 9 true, .t 10, .t 11] (by kernel_rfl) (by kernel_rfl) (by intro c a d v w h; cases d <;> exact h) ?_
          have HS := Lib.hid (HS2.out.below (Below.refl _ V2).drew)
          have HB2 := Lib.hid (bytes_below HBY.out (Below.refl _ V2).drew (Nat.le_refl _))
          clear HS2 HBY
          generalize V2.drew = V3 at *
          iterate 8
            refine wpS_t rfl (v := ?_) (by rfl) (fun W => ?_) ?_
            rotate_left
            · go_simp
              try rfl
            try simp only [Act.put, List.setIfInBounds_toArray, List.set_cons_zero, List.set_cons_succ]
          refine wpS_load_sum (by exact HS.out) rfl (by rfl) _ (by rfl) z5 0 (by rfl) m2 (fun W hW => hW.r (z5, m2) (by simp)) ?_
          try simp only [Act.put, List.setIfInBounds_toArray, List.set_cons_zero, List.set_cons_succ]
          have HSH := Lib.hid (sh_any _ _ V3 HB2.out (by simp))
          rw [← HST.out] at HSH
          clear HB2
          refine wpS_k rfl (by rfl) (fun K hK => ?_)
          go_simp
          refine HSH.out.mono ?_
          rintro e V4 ⟨rfl, hb⟩
          have HS4 := Lib.hid (HS.out.below hb)
          clear HS hb HSH
          refine hK _ _ ⟨by exact HS4.out, ?_⟩; clear hK K
          try simp only [Act.put, List.setIfInBounds_toArray, List.set_cons_zero, List.set_cons_succ]
          iterate 2
            refine wpS_t rfl (v := ?_) (by rfl) (fun W => ?_) ?_
            rotate_left
            · go_simp
              try rfl
            try simp only [Act.put, List.setIfInBounds_toArray, List.set_cons_zero, List.set_cons_succ]
          refine wpS_done ?_
          go_wp2_with fail
          exact ⟨⟨j + 1, by omega, by simp, HS4.out.chain, HS4.out.w⟩, by simp [intOf]; omega⟩
        · have hjn : j = n := by omega
          subst hjn
          go_wp2_with fail
          refine (alive12_any wr).mono ?_
          rintro e w2 ⟨rfl, hb⟩
          have HF := Lib.hid (HCR.out.2.trans (hb.mono HCR.out.2.size)); clear hb
          go_wp2_with fail
          exact bodyPost_ret (results_tmp rfl _ _ _) rfl ⟨rfl, HF.out⟩
    · have HB0 := Lib.hid hB
      clear hB
      go_wp2_with fail
      refine (alive12_any w1).mono ?_
      rintro e w2 ⟨rfl, hb⟩
      have HF := Lib.hid (HB0.out.trans (hb.mono HB0.out.size)); clear hb
      go_wp2_with fail
      exact bodyPost_ret (results_tmp rfl _ _ _) rfl ⟨rfl, HF.out⟩
end Go.Proofs.Ytdkcndgehgmadaa
