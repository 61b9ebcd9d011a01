/-
  Joined: VT0, SO6, V1.
-/
import Derived.Test.YtfmgoehnbaiamaaGreatDoorZAQ
import Derived.Test.YtfmgoehnbaiamaaGreatDoorZAV
import Derived.Test.YtfmgoehnbaiamaaGreatDoorZBE
import Derived.Test.YtfmgoehnbaiamaaGreatDoorU2
import Derived.Test.YtfmgoehnbaiamaaGreatDoorZAJ
-- Words of the other seat: lists of sums that lie, parts of the document's text; SameSums.
open Go Go.RowKit Alm
namespace Go.Proofs.YtfmgoehnbaiamaaGreatDoor
theorem flat_cells (l : List Sum) : (l.map cellsOf).flatten = cellsAll l := by rw [cellsAll, List.flatMap_def]
theorem lie_sums {W : World} {base : Nat} {v : Value} {l : List Sum} (h : Lie W base 32 v (l.map cellsOf)) : SumsAt W v l := by
  rcases h with ⟨rfl, h0⟩ | ⟨g, cap, rfl, _, _, hnc, hcm, hr, _⟩
  · have : l = [] := by simpa using h0
    subst this
    exact ⟨none, 0, rfl, Nat.le_refl _, by unfold maxLen; omega, .inl rfl⟩
  · rw [List.length_map] at hnc ⊢
    rw [flat_cells] at hr
    exact ⟨_, cap, rfl, hnc, hcm, .inr ⟨g, 0, rfl, hr⟩⟩
theorem sums_form8 {w : World} {v : Value} {l : List Sum} (h : SumsAt w v l) (h0 : l ≠ []) : ∃ b o cap, v = .slice (some ⟨b, o, none⟩) l.length cap ∧ l.length ≤ cap ∧ cap ≤ maxLen ∧ w.rangeAt b o (cellsAll l) := by
  obtain ⟨a, cap, rfl, h1, h2, h3⟩ := h
  obtain ⟨b, o, rfl, hr⟩ := h3.resolve_left h0
  exact ⟨b, o, cap, rfl, h1, h2, hr⟩
/-- New sums are a list that lies with its room. -/
theorem new_lie {W : World} {base : Nat} {v : Value} {l : List Sum} (h : SumsNew W base v l) : Lie W base 32 v (l.map cellsOf) := by
  rcases h with ⟨rfl, rfl⟩ | ⟨g, cap, rfl, h0, h1, h2, h3, h4, h5⟩
  · exact .inl ⟨rfl, rfl⟩
  · have hp := List.length_pos_iff.2 h0
    refine .inr ⟨g, cap, by rw [List.length_map], h3, there_lt h5 (by omega), by rw [List.length_map]; exact h1, h2, by rw [flat_cells]; exact h4, by rw [Nat.mul_comm]; exact h5, fun x hx => by
      obtain ⟨y, _, rfl⟩ := List.mem_map.1 hx
      exact length_cellsOf y⟩
theorem length_sum (s : Sum) : s.toList.length = 32 := by simp
theorem wp_append_b8 {w : World} {o : Oper} {a : Act} {K : Act → World → Prop} {Q : Exit → Act → World → Prop} (s x : Operand)
    (ho : o.op = .call { callee := .builtin .append, args := #[s, x], argTypes := #[39, 39] })
    (base : Nat) (v : Value) (l ys : List UInt8) (n m : Nat) (_hn : l.length = n) (hm : ys.length = m) (hs : a.eval s = v) (hown : w.ownsRow base 5 1 v n (cells8 l))
    (b off c : Nat) (hx : a.eval x = .slice (some ⟨b, off, none⟩) m c) (hr : w.rangeAt b off (cells8 ys)) (h0 : 0 < m) (hl : n + m < 4000000000000) (hB : base ≤ w.heap.size)
    (h : ∀ g cap w', w'.ownsRow base 5 1 (.slice (some ⟨g, 0, none⟩) (n + m) cap) (n + m) (cells8 (l ++ ys)) → w.grownBy w' v.ownBlock → K (a.put o.dst (.slice (some ⟨g, 0, none⟩) (n + m) cap)) w') : o.wp Tryz.prog a w K Q := by
  obtain ⟨i, hi, hz⟩ := Option.map_eq_some_iff.1 infoByteZ
  simp only [Prod.mk.injEq] at hz
  refine wp_append_lies w s x _ ho base _ i (.int .u8 0) 1 1 Tryz.underlying39 hi hz.1 hz.2.1 hz.2.2 rfl (by omega) v n (cells8 l) hs hown ⟨b, off, none⟩ m c (cells8 ys) hx (by rw [length_cells8, hm]; omega) (fun j u hj => by rw [Addr.add_mid]; exact hr j u hj) (oneCell_cells8 ys) h0 (by unfold maxLen; omega) (by omega) hB w.heap.size rfl ?_
  intro g cap w' ho' hg _ _
  refine h g cap w' ?_ hg
  rw [cells8_append]; exact ho'
set_option maxRecDepth 100000 in
set_option maxHeartbeats 1000000 in
theorem same_sums (a b : List Sum) (va vb : Value) (w : World) (ha : SumsAt w va a) (hb : SumsAt w vb b) : Calls Tryz.prog 100 #[va, vb] w fun e w' => e = .returned (.bool (decide (a = b))) ∧ Below w.heap.size w w' := by
  obtain ⟨aa, ca, rfl, ha1, ha2, ha3⟩ := ha
  obtain ⟨ab, cb, rfl, hb1, hb2, hb3⟩ := hb
  have heq := eq_sums
  obtain ⟨n, hn⟩ : ∃ n, n = a.length := ⟨_, rfl⟩
  obtain ⟨m, hm⟩ : ∃ m, m = b.length := ⟨_, rfl⟩
  rw [← hn] at ha1 ⊢
  rw [← hm] at hb1 ⊢
  have HN := Lib.hid hn; clear hn
  have HM := Lib.hid hm; clear hm
  unfold maxLen at ha2 hb2
  have hn63 : (n : Int) < 9223372036854775808 := by omega
  by_cases hnm : n = m
  · subst hnm
    have hne : ((n : Int) != (n : Int)) = false := by simp
    have hq : decide (a = b) = decide (∀ j, j < n → a[j]? = b[j]?) := by
      rw [decide_eq_decide]
      constructor
      · rintro rfl j _; rfl
      · intro h
        refine List.ext_getElem? fun j => ?_
        by_cases hj : j < n
        · exact h j hj
        · rw [List.getElem?_eq_none (by rw [← HN.out]; omega), List.getElem?_eq_none (by rw [← HM.out]; omega)]
    obtain ⟨r, hr⟩ : ∃ r, r = decide (a = b) := ⟨_, rfl⟩
    rw [← hr] at hq ⊢
    have HQ := Lib.hid hq; clear hq hr
    go_enter Tryz.func100, Tryz.ntmps100
    go_wp2_with fail
    go_loopw [5] (fun i W => ∃ j : Nat, j ≤ n ∧ i = .int .i64 (j : Int) ∧ (∀ k, k < j → a[k]? = b[k]?) ∧ Below w.heap.size w W) (fun i _ => n - (intOf i).toNat)
    case atStart => exact ⟨0, by omega, rfl, fun k hk => by omega, Below.refl _ _⟩
    case round =>
      obtain ⟨j, hj, rfl, hall, hB⟩ := hrel
      have HA := Lib.hid hall; clear hall
      by_cases hlt : j < n
      · have hlt' : (j : Int) < (n : Int) := by omega
        have hj0 : (0 : Int) ≤ (j : Int) := by omega
        have hna : a ≠ [] := by intro h; have := HN.out; rw [h] at this; simp at this; omega
        have hnb : b ≠ [] := by intro h; have := HM.out; rw [h] at this; simp at this; omega
        obtain ⟨ba, oa, rfl, hra⟩ := ha3.resolve_left hna
        obtain ⟨bb, ob, rfl, hrb⟩ := hb3.resolve_left hnb
        have hja : j < a.length := by have := HN.out; omega
        have hjb : j < b.length := by have := HM.out; omega
        have hxa := Lib.hid (range_below hB (range_at hra hja) (range_lt (range_at hra hja) (by intro h; have := length_cellsOf a[j]; rw [h] at this; cases this)))
        have hxb := Lib.hid (range_below hB (range_at hrb hjb) (range_lt (range_at hrb hjb) (by intro h; have := length_cellsOf b[j]; rw [h] at this; cases this)))
        have hga := Lib.hid (List.getElem?_eq_getElem hja)
        have hgb := Lib.hid (List.getElem?_eq_getElem hjb)
        generalize a[j] = x at *
        generalize b[j] = y at *
        clear hra hrb hja hjb ha3 hb3
        go_wp2_with fail
        refine wp_region_sched (fun W => W.rangeAt ba (oa + j * 32) (cellsOf x) ∧ W.rangeAt bb (ob + j * 32) (cellsOf y)) [.t 0, .t 1, .t 2, .t 4, .t 5, .t 6, .s 3, .e 7 true, .t 8] (by kernel_rfl) (by kernel_rfl) (by intro c a d v w h; cases d <;> exact h) ?_
        iterate 6
          refine wpS_t rfl (v := ?_) (by rfl) (fun W => ?_) ?_
          rotate_left
          · go_simp
            try rfl
          try simp only [Act.put, List.setIfInBounds_toArray, List.set_cons_zero, List.set_cons_succ]
        refine wpS_load_sum (by exact ⟨hxa.out, hxb.out⟩) rfl (by rfl) _ (by rfl) ba (oa + j * 32) (by rfl) x (fun W hW => hW.1) ?_
        try simp only [Act.put, List.setIfInBounds_toArray, List.set_cons_zero, List.set_cons_succ]
        refine wpS_k rfl (by rfl) (fun K hK => ?_)
        refine wp_load_sum _ (by rfl) bb (ob + j * 32) (by rfl) y (by exact hxb.out) ?_
        refine hK _ _ ⟨by exact ⟨hxa.out, hxb.out⟩, ?_⟩; clear hK K
        try simp only [Act.put, List.setIfInBounds_toArray, List.set_cons_zero, List.set_cons_succ]
        by_cases hxy : x = y
        · subst hxy
          have hes := eq_sums_same x
          clear heq
          iterate 1
            refine wpS_t rfl (v := ?_) (by rfl) (fun W => ?_) ?_
            rotate_left
            · go_simp
              try rfl
            try simp only [Act.put, List.setIfInBounds_toArray, List.set_cons_zero, List.set_cons_succ]
          refine wpS_done ?_
          go_wp2_with fail
          refine ⟨⟨j + 1, by omega, by simp, fun k hk => ?_, hB.drew⟩, by simp [intOf]; omega⟩
          by_cases hkj : k < j
          · exact HA.out k hkj
          · have : k = j := by omega
            rw [this, hga.out, hgb.out]
        · have hes : ∀ w : World, (Op.equalIn 10000 24 (.agg (cellsOf x).toArray) (.agg (cellsOf y).toArray)).run Tryz.prog w = .ok false w := fun w => by rw [eq_sums]; simp [hxy]
          clear heq
          iterate 1
            refine wpS_t rfl (v := ?_) (by rfl) (fun W => ?_) ?_
            rotate_left
            · go_simp
              try rfl
            try simp only [Act.put, List.setIfInBounds_toArray, List.set_cons_zero, List.set_cons_succ]
          refine wpS_done ?_
          have hr : r = false := by
            rw [HQ.out]
            simp only [decide_eq_false_iff_not]
            intro h
            have := h j hlt
            rw [hga.out, hgb.out] at this
            exact hxy (by simpa using this)
          go_wp2_with fail
          exact bodyPost_ret (results_tmp rfl _ _ _) rfl ⟨by rw [hr]; rfl, hB.drew⟩
      · have hjn : j = n := by omega
        subst hjn
        have hr : r = true := by rw [HQ.out]; simpa using HA.out
        go_wp2_with fail
        exact bodyPost_ret (results_tmp rfl _ _ _) rfl ⟨by rw [hr]; rfl, hB⟩
  · have hr : decide (a = b) = false := by
      simp only [decide_eq_false_iff_not]
      rintro rfl
      exact hnm (HN.out.trans HM.out.symm)
    rw [hr]
    have hne : ((n : Int) != (m : Int)) = true := by rw [bne_iff_ne]; omega
    clear hr
    go_enter Tryz.func100, Tryz.ntmps100
    go_wp2_with fail
    exact bodyPost_ret (results_tmp rfl _ _ _) rfl ⟨rfl, Below.refl _ _⟩
theorem append_zero_run {w : World} {base n : Nat} {v : Value} {xs : List Value} (ty : TypeId) (hown : w.ownsRow base 5 1 v n xs) (ad : Option Addr) (c : Nat) : (Builtin.append_ #[39, 39] ty #[v, .slice ad 0 c]).run Tryz.prog w = .ok v w := by
  obtain ⟨i, hi, hz⟩ := Option.map_eq_some_iff.1 infoByteZ
  rcases hown.2 with ⟨rfl, rfl⟩ | ⟨g, cap, cur, rfl, _, _, hnc, _⟩
  · cases ad <;> simp [Builtin.append_, run_underlying Tryz.underlying39, sizeOf, typeInfo, hi, Builtin.lenOf, Builtin.firstCells, loadCells, loadCellsFrom]
  · cases ad <;> simp [Builtin.append_, run_underlying Tryz.underlying39, sizeOf, typeInfo, hi, Builtin.lenOf, Builtin.firstCells, loadCells, loadCellsFrom, hnc, storeCells]
/-- Bytes behind bytes of one's own. -/
theorem wpList_append_bytes {ops : Array Oper} {rest : List Oper} {op : Oper} {a : Act} {w : World} {Q : Exit → Act → World → Prop} (hgd : op.guard = none) (s x : Operand)
    (ho : op.op = .call { callee := .builtin .append, args := #[s, x], argTypes := #[39, 39] })
    (base : Nat) (v vx : Value) (l ys : List UInt8) (n m : Nat) (hn : l.length = n) (hm : ys.length = m) (hs : a.eval s = v) (hown : w.ownsRow base 5 1 v n (cells8 l)) (hx : a.eval x = vx) (hb : BytesAt w vx ys) (hl : n + m < 4000000000) (hB : base ≤ w.heap.size)
    (h : ∀ v' w', w'.ownsRow base 5 1 v' (n + m) (cells8 (l ++ ys)) → w.grownBy w' v.ownBlock → wpList Tryz.prog ops Q rest (a.put op.dst v') w') : wpList Tryz.prog ops Q (op :: rest) a w := by
  refine wpList_plain hgd fun K hK => ?_
  obtain ⟨xa, xc, rfl, h1, h2, h3⟩ := hb
  by_cases h0 : ys = []
  · subst h0
    obtain rfl : m = 0 := hm.symm
    have hrun := append_zero_run (ty := op.type) hown xa xc
    unfold Oper.wp
    simp only [execOp, ho, resolve, invoke, builtin, List.map_toArray, List.map_cons, List.map_nil, hs, hx, Sem.run_bind, Sem.run_pure, Result.andThen_ok, List.length_nil, hrun]
    exact hK _ _ (h v w (by rw [List.append_nil]; exact hown) (World.grownBy.refl w _))
  · obtain ⟨b, off, rfl, hr⟩ := h3.resolve_left h0
    subst hm
    refine wp_append_b8 s x ho base v l ys n ys.length hn rfl hs hown b off xc hx hr (List.length_pos_iff.2 h0) (by omega) hB ?_
    intro g cap w' ho' hg
    exact hK _ _ (h _ w' ho' hg)
end Go.Proofs.YtfmgoehnbaiamaaGreatDoor
-- Walks: almonerref14: Bit, Side, Value.
namespace Go.Proofs.YtfmgoehnbaiamaaGreatDoor
set_option maxRecDepth 100000 in
theorem rbit_any (k : Sum) (d : Nat) (w : World) (hd : d < 256) : Calls Tryz.prog 101 #[sv k, .int .i64 (d : Int)] w fun e w' => e = .returned (.int .i64 (((Keys.kn k >>> (255 - d)) % 2 : Nat) : Int)) ∧ Below w.heap.size w w' := by
  have hb := al (Below.refl _ w) (.cells (cellsOf k).toArray 24)
  obtain ⟨c, hcn⟩ : ∃ c, c = k.toList.getD (d / 8) 0 := ⟨_, rfl⟩
  have hc : (cellsOf k)[d / 8]? = some (.int .u8 ((c.toNat : Nat) : Int)) := by
    have h1 : d / 8 < 32 := by omega
    unfold cellsOf
    rw [hcn, List.getElem?_map, List.getD_eq_getElem?_getD, List.getElem?_eq_getElem (by simpa using h1)]; rfl
  have d0 : decide ((d : Int) < 0) = false := by simp
  have d1 : decide (256 ≤ (d : Int)) = false := by simp; omega
  have d2 : (0 : Int) ≤ (d : Int) ∧ (d : Int) < 256 := by omega
  have HB := Lib.hid hb
  have HC := Lib.hid hcn
  clear hb hcn
  go_enter Tryz.func101, Tryz.ntmps101
  go_wp2_with fail
  have hx : c.toNat < 256 := c.toNat_lt
  have hy : c.toNat / 2 ^ (7 - d % 8) < 256 := Nat.lt_of_le_of_lt (Nat.div_le_self _ _) hx
  have e1 : ((c.toNat : Nat) : Int) / 2 ^ (7 - d % 8) = ((c.toNat / 2 ^ (7 - d % 8) : Nat) : Int) := by rw [Int.natCast_ediv, Int.natCast_pow]; rfl
  have e2 : wrap64 ((c.toNat / 2 ^ (7 - d % 8) : Nat) : Int) = ((c.toNat / 2 ^ (7 - d % 8) : Nat) : Int) := by
    generalize c.toNat / 2 ^ (7 - d % 8) = y at hy
    unfold wrap64; omega
  have e3 : (Keys.kn k >>> (255 - d)) % 2 = (c.toNat / 2 ^ (7 - d % 8)) % 2 := by rw [key_bit k d hd, ← HC.out, Nat.shiftRight_eq_div_pow]
  have e0 : wrap64 ((c.toNat : Nat) : Int) = ((c.toNat : Nat) : Int) := by unfold wrap64; omega
  rw [e0, e1, and1 _ hy, e3]
  exact bodyPost_ret (results_tmp rfl _ _ _) rfl ⟨rfl, HB.out⟩
set_option maxRecDepth 100000 in
set_option maxHeartbeats 1000000 in
theorem rside_any (l r : Sum) (w : World) : Calls Tryz.prog 125 #[sv l, sv r] w fun e w' => e = .returned (sv (sd l r)) ∧ Below w.heap.size w w' := by
  obtain ⟨s, hs⟩ : ∃ s, s = sd l r := ⟨_, rfl⟩
  rw [← hs]
  rw [sd_eq] at hs
  have HS := Lib.hid hs
  clear hs
  obtain ⟨w1, hw1⟩ : ∃ x, x = w.alloc (.cells (cellsOf l).toArray 24) := ⟨_, rfl⟩
  obtain ⟨w2, hw2⟩ : ∃ x, x = w1.alloc (.cells (cellsOf r).toArray 24) := ⟨_, rfl⟩
  obtain ⟨w3, hw3⟩ : ∃ x, x = w2.alloc (.cells (cellsOf zeroSum).toArray 24) := ⟨_, rfl⟩
  have r1 : w1.rangeAt w.heap.size 0 (cellsOf l) := by rw [hw1]; exact range_new w _ _ _ rfl
  have r2 : w2.rangeAt w1.heap.size 0 (cellsOf r) := by rw [hw2]; exact range_new w1 _ _ _ rfl
  have t3 : w3.there w2.heap.size 0 32 := by rw [hw3]; exact there_new w2 (cellsOf zeroSum).toArray _
  have b1 : Below w.heap.size w w1 := by rw [hw1]; exact al (Below.refl _ _) _
  have b2 : Below w1.heap.size w1 w2 := by rw [hw2]; exact al (Below.refl _ _) _
  have b3 : Below w2.heap.size w2 w3 := by rw [hw3]; exact al (Below.refl _ _) _
  have r13 := (Keeps.of_below (X := fun _ => False) b3).range ((Keeps.of_below (X := fun _ => False) b2).range r1 (fun h => h)) (fun h => h)
  have r23 := (Keeps.of_below (X := fun _ => False) b3).range r2 (fun h => h)
  have b13 := (b1.trans (b2.mono b1.size)).trans (b3.mono (Nat.le_trans b1.size b2.size))
  have s1 : w1.heap.size = w.heap.size + 1 := by rw [hw1, World.size_alloc]
  have s2 : w2.heap.size = w.heap.size + 2 := by rw [hw2, World.size_alloc, s1]
  have H0 := Lib.hid (And.intro r13 (And.intro r23 (And.intro t3 (And.intro b13 (And.intro s1 s2)))))
  have HW := Lib.hid (And.intro hw1 (And.intro hw2 hw3))
  clear r1 r2 t3 b1 b2 b3 r13 r23 b13 s1 s2 hw1 hw2 hw3
  go_enter Tryz.func125, Tryz.ntmps125
  refine Alm.wp_cut 1 ?_
  intro T hT
  dsimp only [cutN]
  replace hT := Lib.hid hT
  go_wp2_with fail
  refine hT.out _ _ ?_
  clear hT
  dsimp only [dropN]
  rw [← HW.out.1]
  rw [← HW.out.2.1]
  change Code.wp _ _ _ _ (w2.alloc (.cells (cellsOf zeroSum).toArray 24))
  rw [← HW.out.2.2]
  have hs3 : w3.heap.size = w.heap.size + 3 := by rw [HW.out.2.2, World.size_alloc, H0.out.2.2.2.2.2]
  have HS3 := Lib.hid hs3
  clear hs3 HW
  obtain ⟨r1, r2, t3, b13, s1, s2⟩ := H0.out
  rw [s1] at r2
  rw [s2] at t3
  rw [show w.heap.size + 1 + 1 = w.heap.size + 2 from rfl]
  have hd := (Below.refl w3.heap.size w3).drew
  have HV := Lib.hid (And.intro ((Keeps.of_below (X := fun _ => False) hd).range r1 (fun h => h)) (And.intro ((Keeps.of_below (X := fun _ => False) hd).range r2 (fun h => h)) (And.intro ((Keeps.of_below (X := fun _ => False) hd).there t3 (by decide) (fun h => h)) (And.intro b13.drew (show w3.drew.heap.size = w.heap.size + 3 from HS3.out)))))
  clear r1 r2 t3 b13 s1 s2 hd H0 HS3
  go_wp2_with fail
  refine wp_region_sched (fun V => Below w3.drew.heap.size w3.drew V) [.t 1, .t 3, .e 0 false, .e 2 false, .e 4 false, .e 5 false, .e 6 false] (by kernel_rfl) (by kernel_rfl) (by intro c a d v w h; cases d <;> exact h) ?_
  generalize w3.drew = V at *
  iterate 2
    refine wpS_t rfl (v := ?_) (by rfl) (fun W => ?_) ?_
    rotate_left
    · go_simp
      try rfl
    try simp only [Act.put, List.setIfInBounds_toArray, List.set_cons_zero, List.set_cons_succ]
  refine wpS_e rfl (by rfl) (fun K hK => ?_)
  go_simp
  have ho := own_one (w := V) 4 #[.int .u8 4] rfl
  have hba := al (Below.refl V.heap.size V) (.cells #[.int .u8 4] 5)
  have HO := Lib.hid (And.intro ho hba)
  clear ho hba
  refine hK _ _ ?_; clear hK K
  try simp only [Act.put, List.setIfInBounds_toArray, List.set_cons_zero, List.set_cons_succ]
  generalize V.alloc (.cells #[.int .u8 4] 5) = V1 at *
  refine wpS_e rfl (by rfl) (fun K hK => ?_)
  have hr1 := (Keeps.of_below (X := fun _ => False) HO.out.2).range HV.out.1 (fun h => h)
  refine wp_append_b8 _ _ rfl V.heap.size _ [4] l.toList 1 32 rfl (length_sum l) (by rfl) HO.out.1 w.heap.size 0 32 (by rfl) hr1 (by omega) (by omega) HO.out.2.size ?_
  intro g2 c2 V2 ho2 hg2
  have hb2 := own_grown HO.out.2 HO.out.1 hg2 HO.out.2.size
  have H2 := Lib.hid (And.intro ho2 hb2)
  clear ho2 hb2 hg2 hr1
  refine hK _ _ ?_; clear hK K
  try simp only [Act.put, List.setIfInBounds_toArray, List.set_cons_zero, List.set_cons_succ]
  refine wpS_e rfl (by rfl) (fun K hK => ?_)
  have hr2 := (Keeps.of_below (X := fun _ => False) H2.out.2).range HV.out.2.1 (fun h => h)
  refine wp_append_b8 _ _ rfl V.heap.size _ ([4] ++ l.toList) r.toList 33 32 (by simp) (length_sum r) (by rfl) H2.out.1 (w.heap.size + 1) 0 32 (by rfl) hr2 (by omega) (by omega) H2.out.2.size ?_
  intro g3 c3 V3 ho3 hg3
  have hb3 := own_grown H2.out.2 H2.out.1 hg3 H2.out.2.size
  have hby : BytesAt V3 (.slice (some ⟨g3, 0, none⟩) (33 + 32) c3) ([4] ++ l.toList ++ r.toList) := by
    have hlen : ([4] ++ l.toList ++ r.toList : List UInt8).length = 33 + 32 := by simp
    have := bytes_own (l := [4] ++ l.toList ++ r.toList) (by rw [hlen]; exact ho3) (by rw [hlen]; omega)
    exact this
  have HC := Lib.hid (refof_any _ _ V3 hby (by simp))
  have H3 := Lib.hid hb3
  clear ho3 hb3 hg3 hby hr2
  refine hK _ _ ?_; clear hK K
  try simp only [Act.put, List.setIfInBounds_toArray, List.set_cons_zero, List.set_cons_succ]
  refine wpS_e rfl (by rfl) (fun K hK => ?_)
  go_simp
  refine HC.out.mono ?_
  rintro e V4 ⟨rfl, hb4⟩
  have hb4' := H3.out.trans (hb4.mono H3.out.size)
  have H4 := Lib.hid (And.intro ((Keeps.of_below (X := fun _ => False) hb4').there HV.out.2.2.1 (by decide) (fun h => h)) (HV.out.2.2.2.1.trans (hb4'.mono HV.out.2.2.2.1.size)))
  have hs4 : s = sha (4 :: (l.toList ++ r.toList)) := HS.out
  rw [show ([4] ++ l.toList ++ r.toList : List UInt8) = 4 :: (l.toList ++ r.toList) from rfl, ← hs4]
  clear hb4 hb4' HC H3 hs4
  refine hK _ _ ?_; clear hK K
  try simp only [Act.put, List.setIfInBounds_toArray, List.set_cons_zero, List.set_cons_succ]
  refine wpS_e rfl (by rfl) (fun K hK => ?_)
  refine wp_store_sum _ _ rfl (w.heap.size + 2) 0 s (by rfl) (by rfl) H4.out.1 ?_
  refine hK _ _ ?_; clear hK K
  try simp only [Act.put]
  refine wpS_done ?_
  go_wp2_with fail
  exact bodyPost_ret (results_sum Tryz.results125 _ _ _ _ rfl (World.there_setCells H4.out.1 _ _ _)) rfl ⟨rfl, setCells_below _ (by omega) _ _ _ _ H4.out.2⟩
set_option maxRecDepth 100000 in
set_option maxHeartbeats 1000000 in
theorem rval_any (k : Sum) (b : List UInt8) (v : Value) (w : World) (hv : BytesAt w v b) (hl : b.length < 900000) : Calls Tryz.prog 124 #[sv k, v] w fun e w' => e = .returned (sv (vl k b)) ∧ Below w.heap.size w w' := by
  obtain ⟨s, hs⟩ : ∃ s, s = vl k b := ⟨_, rfl⟩
  rw [← hs]
  rw [vl_eq] at hs
  have hs' : s = if b = [] then sha [2] else sha (3 :: (k.toList ++ b)) := hs
  have HS := Lib.hid hs'
  clear hs hs'
  obtain ⟨w0, hw0⟩ : ∃ x, x = w.alloc (.cells (cellsOf k).toArray 24) := ⟨_, rfl⟩
  obtain ⟨w1, hw1⟩ : ∃ x, x = w0.alloc (.cells (cellsOf zeroSum).toArray 24) := ⟨_, rfl⟩
  have r0 : w0.rangeAt w.heap.size 0 (cellsOf k) := by rw [hw0]; exact range_new w _ _ _ rfl
  have b0 : Below w.heap.size w w0 := by rw [hw0]; exact al (Below.refl _ _) _
  have s0 : w0.heap.size = w.heap.size + 1 := by rw [hw0, World.size_alloc]
  have t1 : w1.there (w.heap.size + 1) 0 32 := by rw [← s0, hw1]; exact there_new w0 (cellsOf zeroSum).toArray _
  have b1 : Below w0.heap.size w0 w1 := by rw [hw1]; exact al (Below.refl _ _) _
  have r1 := (Keeps.of_below (X := fun _ => False) b1).range r0 (fun h => h)
  have b01 := b0.trans (b1.mono b0.size)
  have hv1 := bytes_below hv b01 (Nat.le_refl _)
  have H0 := Lib.hid (And.intro t1 (And.intro b01 (And.intro hv1 (And.intro hl r1))))
  have HW := Lib.hid (And.intro hw0 hw1)
  obtain ⟨av, cv, rfl, hv5, _, _⟩ := id hv
  obtain ⟨n, hn⟩ : ∃ n, n = b.length := ⟨_, rfl⟩
  rw [← hn] at H0 ⊢
  have HN := Lib.hid hn
  obtain ⟨db, hdb⟩ : ∃ d : Bool, d = decide (n = 0) := ⟨_, rfl⟩
  have e1 : decide ((n : Int) = 0) = db := by rw [hdb, decide_eq_decide]; omega
  have e2 : decide (n = 0) = db := hdb.symm
  have e3 : ((n : Int) == 0) = db := by rw [hdb, Bool.eq_iff_iff, beq_iff_eq, decide_eq_true_eq]; omega
  have HD := Lib.hid hdb
  clear hdb hn r0 b0 s0 t1 b1 r1 b01 hv hv1 hl hw0 hw1 hv5
  go_enter Tryz.func124, Tryz.ntmps124
  refine Alm.wp_cut 1 ?_
  intro T hT
  dsimp only [cutN]
  replace hT := Lib.hid hT
  go_wp2_with fail
  refine hT.out _ _ ?_
  clear hT
  dsimp only [dropN]
  rw [← HW.out.1]
  change Code.wp _ _ _ _ (w0.alloc (.cells (cellsOf zeroSum).toArray 24))
  rw [← HW.out.2]
  clear HW
  have ho0 := own_one (w := w1) 2 #[.int .u8 2] rfl
  have ho3 := own_one (w := w1) 3 #[.int .u8 3] rfl
  have hb2 := al (Below.refl w1.heap.size w1) (.cells #[.int .u8 2] 5)
  have hb3 := al (Below.refl w1.heap.size w1) (.cells #[.int .u8 3] 5)
  have HO := Lib.hid (And.intro ho0 (And.intro hb2 (And.intro ho3 hb3)))
  clear ho0 ho3 hb2 hb3
  cases db with
  | true =>
    have hbe : b = [] := by have := HD.out; have h2 := HN.out; have : n = 0 := of_decide_eq_true this.symm; exact List.length_eq_zero_iff.1 (by rw [← h2, this])
    have hs2 : s = sha [2] := by rw [HS.out, if_pos hbe]
    have HS2 := Lib.hid hs2
    clear hbe hs2
    go_wp2_with fail
    have hby : BytesAt (w1.alloc (.cells #[.int .u8 2] 5)) (.slice (some ⟨w1.heap.size, 0, none⟩) 1 1) [2] := bytes_one 2 _ rfl rfl
    have HC := Lib.hid (refof_any [2] _ _ hby (by simp))
    clear hby
    rw [← HS2.out] at HC
    have H3 := Lib.hid HO.out.2.1
    generalize w1.alloc (.cells #[.int .u8 2] 5) = w3 at *
    refine HC.out.mono ?_
    rintro e w4 ⟨rfl, hb4⟩
    have hb4' := H3.out.trans (hb4.mono H3.out.size)
    have H4 := Lib.hid (And.intro ((Keeps.of_below (X := fun _ => False) hb4').there H0.out.1 (by decide) (fun h => h)) (H0.out.2.1.trans (hb4'.mono H0.out.2.1.size)))
    clear hb4 hb4'
    go_wp2_with (refine wpList_store_sum rfl _ _ rfl (w.heap.size + 1) 0 s rfl rfl H4.out.1 ?_)
    exact bodyPost_ret (results_sum Tryz.results124 _ _ _ _ rfl (World.there_setCells H4.out.1 _ _ _)) rfl ⟨rfl, setCells_below _ (by omega) _ _ _ _ H4.out.2⟩
  | false =>
    have hbe : b ≠ [] := by intro e0; have h1 := HD.out; have h2 := HN.out; rw [e0] at h2; have : ¬ n = 0 := of_decide_eq_false h1.symm; exact this (by rw [h2]; rfl)
    have hs2 : s = sha (3 :: (k.toList ++ b)) := by rw [HS.out, if_neg hbe]
    have HS2 := Lib.hid hs2
    clear hbe hs2
    refine Alm.wp_cut 1 ?_
    intro T hT
    dsimp only [cutN]
    replace hT := Lib.hid hT
    go_wp2_with fail
    refine hT.out _ _ ?_
    clear hT
    dsimp only [dropN]
    refine wp_seq_k fun K1 hK1 => ?_
    refine wp_region_lit ?_
    refine wpList_plain rfl fun K hK => ?_
    go_simp
    refine hK _ _ ?_
    clear hK K
    try simp only [Act.put, List.setIfInBounds_toArray, List.set_cons_zero, List.set_cons_succ]
    have HV1 := Lib.hid (And.intro HO.out.2.2.1 (And.intro HO.out.2.2.2 (And.intro (bytes_below H0.out.2.2.1 HO.out.2.2.2 (Nat.le_refl _)) ((Keeps.of_below (X := fun _ => False) HO.out.2.2.2).range H0.out.2.2.2.2 (fun h => h)))))
    clear HO
    generalize w1.alloc (.cells #[.int .u8 3] 5) = w2 at *
    refine wpList_plain rfl fun K hK => ?_
    go_simp
    refine hK _ _ ?_
    clear hK K
    try simp only [Act.put, List.setIfInBounds_toArray, List.set_cons_zero, List.set_cons_succ]
    have hks : BytesAt w2 (.slice (some ⟨w.heap.size, 0, none⟩) 32 32) k.toList := ⟨_, 32, by simp, by simp, by decide, .inr ⟨_, _, rfl, HV1.out.2.2.2⟩⟩
    refine wpList_append_bytes rfl _ _ rfl w1.heap.size _ _ [3] k.toList 1 32 rfl (length_sum k) rfl HV1.out.1 rfl hks (by omega) HV1.out.2.1.size ?_
    intro v3 w3 ho3 hg3
    have hb3 := own_grown HV1.out.2.1 HV1.out.1 hg3 HV1.out.2.1.size
    have H3 := Lib.hid (And.intro ho3 (And.intro hb3 (bytes_below H0.out.2.2.1 hb3 (Nat.le_refl _))))
    clear ho3 hb3 hg3 hks HV1
    go_wp2_with (at_builtin; refine Hid.out ?_)
    refine Lib.hid ?_
    refine wpList_append_bytes rfl _ _ rfl w1.heap.size _ _ ([3] ++ k.toList) b 33 n (by simp) HN.out.symm rfl H3.out.1 rfl H3.out.2.2 (by have := H0.out.2.2.2.1; have := HN.out; omega) H3.out.2.1.size ?_
    intro v4 w4 ho4 hg4
    have hb4 := own_grown H3.out.2.1 H3.out.1 hg4 H3.out.2.1.size
    have hby : BytesAt w4 v4 (3 :: (k.toList ++ b)) := by
      have hlen : (3 :: (k.toList ++ b) : List UInt8).length = 33 + n := by have := HN.out; simp; omega
      exact bytes_own (l := 3 :: (k.toList ++ b)) (by rw [hlen]; exact ho4) (by have := H0.out.2.2.2.1; have := HN.out; rw [hlen]; omega)
    have HC := Lib.hid (refof_any _ _ w4 hby (by have := H0.out.2.2.2.1; have := HN.out; simp; omega))
    have H4 := Lib.hid hb4
    clear ho4 hb4 hg4 hby H3
    rw [← HS2.out] at HC
    go_wp2_with (first
      | (go_at_call 117; refine HC.out.mono ?_; rintro e w5 ⟨rfl, hb5⟩; have hb5' := H4.out.trans (hb5.mono H4.out.size); have H5 := Lib.hid (And.intro ((Keeps.of_below (X := fun _ => False) hb5').there H0.out.1 (by decide) (fun h => h)) (H0.out.2.1.trans (hb5'.mono H0.out.2.1.size))); clear hb5 hb5')
      | (refine wpList_store_sum rfl _ _ rfl (w.heap.size + 1) 0 s rfl rfl H5.out.1 ?_))
    exact bodyPost_ret (results_sum Tryz.results124 _ _ _ _ rfl (World.there_setCells H5.out.1 _ _ _)) rfl ⟨rfl, setCells_below _ (by omega) _ _ _ _ H5.out.2⟩
end Go.Proofs.YtfmgoehnbaiamaaGreatDoor
-- Plain law: what stands at a key behind puts; pairs are what stands at keys.
namespace Go.Proofs.YtfmgoehnbaiamaaGreatDoor
open Keys (Rise Pr kn putB put del)
/-- No pair is without bytes, none has more than 256. -/
def Full (l : List Pr) : Prop := ∀ p ∈ l, p.2 ≠ [] ∧ p.2.length ≤ 256
theorem full_putB {l : List Pr} (hr : Rise l) (h : Full l) (k : Sum) (v : List UInt8) : Full (putB l k v) := by
  unfold putB
  split
  · exact h
  · split
    · exact fun p hp => h p (Keys.mem_del.1 hp).1
    · intro p hp
      rcases (Keys.mem_put hr).1 hp with rfl | ⟨hp, _⟩
      · exact ⟨by assumption, by show v.length ≤ 256; omega⟩
      · exact h p hp
theorem puts_ok (P : List Pr) : ∀ {x}, Rise x → Full x → Rise (puts x P) ∧ Full (puts x P) := by
  induction P with
  | nil => intro x h1 h2; exact ⟨h1, h2⟩
  | cons q P ih =>
    intro x h1 h2
    exact ih (Keys.rise_putB h1 _ _) (full_putB h1 h2 _ _)
theorem rise_nil : Rise ([] : List Pr) := List.Pairwise.nil
theorem full_nil : Full [] := fun p hp => by cases hp
end Go.Proofs.YtfmgoehnbaiamaaGreatDoor
