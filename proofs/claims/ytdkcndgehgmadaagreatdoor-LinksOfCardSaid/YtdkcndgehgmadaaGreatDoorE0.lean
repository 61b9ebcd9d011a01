/-
  The seat's words: sums compared; literals of sums; SameSums.
-/
import Derived.Test.YtdkcndgehgmadaaGreatDoorF0
import Derived.Stop.BytesEq
open Go Go.RowKit Alm
namespace Go.Proofs.YtdkcndgehgmadaaGreatDoor
theorem eq_sums_d (d : Nat) (s t : Sum) (w : World) : (Op.equalIn (d + 2) 24 (.agg (cellsOf s).toArray) (.agg (cellsOf t).toArray)).run Tryz.prog w = .ok (decide (s = t)) w := by
  have h := run_equalIn_bytes (P := Tryz.prog) w d 24 5 32 Tryz.underlying24 Tryz.underlying5 (fun w => Tryz.sizeOf5 w) s.toList t.toList (by simp) (by simp)
  have hc : ∀ s : Sum, cellsOf s = s.toList.map Extern.Stop.cell := fun s => rfl
  simp only [hc]
  rw [h]
  have hd : (s.toList == t.toList) = decide (s = t) := by
    rw [Bool.eq_iff_iff]
    simp
  rw [hd]
theorem eq_sums (s t : Sum) (w : World) : (Op.equalIn 10000 24 (.agg (cellsOf s).toArray) (.agg (cellsOf t).toArray)).run Tryz.prog w = .ok (decide (s = t)) w := by
  obtain ⟨d, hd⟩ : ∃ d, 10000 = d + 2 := ⟨9998, rfl⟩
  rw [hd]
  exact eq_sums_d d s t w
theorem eq_sums_same (s : Sum) (w : World) : (Op.equalIn 10000 24 (.agg (cellsOf s).toArray) (.agg (cellsOf s).toArray)).run Tryz.prog w = .ok true w := by
  rw [eq_sums]; simp
/-- The sum whose first byte is b. -/
noncomputable def lit (b : UInt8) : Sum := Classical.choose (⟨Vector.ofFn fun i : Fin 32 => if i.1 = 0 then b else 0, rfl⟩ : ∃ s : Sum, s = Vector.ofFn fun i : Fin 32 => if i.1 = 0 then b else 0)
theorem lit_eq (b : UInt8) : lit b = Vector.ofFn fun i : Fin 32 => if i.1 = 0 then b else 0 := Classical.choose_spec (⟨Vector.ofFn fun i : Fin 32 => if i.1 = 0 then b else 0, rfl⟩ : ∃ s : Sum, s = Vector.ofFn fun i : Fin 32 => if i.1 = 0 then b else 0)
theorem build_1 (w : World) : (Instr.build 24 #[(0, .int .u8 1)]).run Tryz.prog w = .ok (.agg (cellsOf (lit 1)).toArray) w := by rw [lit_eq]; kernel_rfl
theorem build_2 (w : World) : (Instr.build 24 #[(0, .int .u8 2)]).run Tryz.prog w = .ok (.agg (cellsOf (lit 2)).toArray) w := by rw [lit_eq]; kernel_rfl
theorem build_3 (w : World) : (Instr.build 24 #[(0, .int .u8 3)]).run Tryz.prog w = .ok (.agg (cellsOf (lit 3)).toArray) w := by rw [lit_eq]; kernel_rfl
theorem build_9 (w : World) : (Instr.build 24 #[(0, .int .u8 9)]).run Tryz.prog w = .ok (.agg (cellsOf (lit 9)).toArray) w := by rw [lit_eq]; kernel_rfl
/-- A new variable that is a sum, set. -/
theorem wpList_var_sum {ops : Array Oper} {rest : List Oper} {op : Oper} {a : Act} {w : World} {C : Array Value} {t : TypeId} {Q : Exit → Act → World → Prop} (hC : C.size = 32) (hgd : op.guard = none) (x y : Operand) (ho : op.op = .store 24 x y)
    (s : Sum) (hx : a.eval x = .pointer (some ⟨w.heap.size, 0, none⟩)) (hy : a.eval y = sv s)
    (h : ∀ W', Below w.heap.size w W' → W'.rangeAt w.heap.size 0 (cellsOf s) → W'.there w.heap.size 0 32 → w.heap.size < W'.heap.size → wpList Tryz.prog ops Q rest (a.put op.dst undef) W') : wpList Tryz.prog ops Q (op :: rest) a (w.alloc (.cells C t)) := by
  have ht : (w.alloc (.cells C t)).there w.heap.size 0 32 := by rw [← hC]; exact there_new _ _ _
  have ht2 := World.there_setCells ht w.heap.size 0 (cellsOf s)
  refine wpList_store_sum hgd x y ho w.heap.size 0 s hx hy ht (h _ (setCells_below _ (Nat.le_refl _) _ 0 _ _ (al (Below.refl _ _) _)) (range_stored _ _ _ _ (by rw [length_cellsOf]; exact ht2)) ht2 (there_lt ht2 (by omega)))
theorem val_1 : (Value.agg #[.int .u8 1, .int .u8 0, .int .u8 0, .int .u8 0, .int .u8 0, .int .u8 0, .int .u8 0, .int .u8 0, .int .u8 0, .int .u8 0, .int .u8 0, .int .u8 0, .int .u8 0, .int .u8 0, .int .u8 0, .int .u8 0, .int .u8 0, .int .u8 0, .int .u8 0, .int .u8 0, .int .u8 0, .int .u8 0, .int .u8 0, .int .u8 0, .int .u8 0, .int .u8 0, .int .u8 0, .int .u8 0, .int .u8 0, .int .u8 0, .int .u8 0, .int .u8 0]) = sv (lit 1) := by rw [lit_eq]; rfl
theorem val_2 : (Value.agg #[.int .u8 2, .int .u8 0, .int .u8 0, .int .u8 0, .int .u8 0, .int .u8 0, .int .u8 0, .int .u8 0, .int .u8 0, .int .u8 0, .int .u8 0, .int .u8 0, .int .u8 0, .int .u8 0, .int .u8 0, .int .u8 0, .int .u8 0, .int .u8 0, .int .u8 0, .int .u8 0, .int .u8 0, .int .u8 0, .int .u8 0, .int .u8 0, .int .u8 0, .int .u8 0, .int .u8 0, .int .u8 0, .int .u8 0, .int .u8 0, .int .u8 0, .int .u8 0]) = sv (lit 2) := by rw [lit_eq]; rfl
theorem val_3 : (Value.agg #[.int .u8 3, .int .u8 0, .int .u8 0, .int .u8 0, .int .u8 0, .int .u8 0, .int .u8 0, .int .u8 0, .int .u8 0, .int .u8 0, .int .u8 0, .int .u8 0, .int .u8 0, .int .u8 0, .int .u8 0, .int .u8 0, .int .u8 0, .int .u8 0, .int .u8 0, .int .u8 0, .int .u8 0, .int .u8 0, .int .u8 0, .int .u8 0, .int .u8 0, .int .u8 0, .int .u8 0, .int .u8 0, .int .u8 0, .int .u8 0, .int .u8 0, .int .u8 0]) = sv (lit 3) := by rw [lit_eq]; rfl
theorem val_9 : (Value.agg #[.int .u8 9, .int .u8 0, .int .u8 0, .int .u8 0, .int .u8 0, .int .u8 0, .int .u8 0, .int .u8 0, .int .u8 0, .int .u8 0, .int .u8 0, .int .u8 0, .int .u8 0, .int .u8 0, .int .u8 0, .int .u8 0, .int .u8 0, .int .u8 0, .int .u8 0, .int .u8 0, .int .u8 0, .int .u8 0, .int .u8 0, .int .u8 0, .int .u8 0, .int .u8 0, .int .u8 0, .int .u8 0, .int .u8 0, .int .u8 0, .int .u8 0, .int .u8 0]) = sv (lit 9) := by rw [lit_eq]; rfl
theorem lit_ne {a b : UInt8} (h : a ≠ b) : lit a ≠ lit b := by
  intro e
  rw [lit_eq, lit_eq] at e
  have := congrArg (fun v : Sum => v[0]) e
  simp at this
  exact h this
set_option maxRecDepth 100000 in
set_option maxHeartbeats 1000000 in
theorem same_sums (a b : List Sum) (va vb : Value) (w : World) (ha : SumsAt w va a) (hb : SumsAt w vb b) : Calls Tryz.prog 11 #[va, vb] w fun e w' => e = .returned (.bool (decide (a = b))) ∧ Below w.heap.size w w' := by
  obtain ⟨aa, ca, rfl, ha1, ha2, ha3⟩ := ha
  obtain ⟨ab, cb, rfl, hb1, hb2, hb3⟩ := hb
  have heq := eq_sums
  obtain ⟨n, hn⟩ : ∃ n, n = a.length := ⟨_, rfl⟩
  obtain ⟨m, hm⟩ : ∃ m, m = b.length := ⟨_, rfl⟩
  rw [← hn] at ha1 ⊢
  rw [← hm] at hb1 ⊢
  have HN := Lib.hid hn; clear hn
  have HM := Lib.hid hm; clear hm
  unfold maxLen at ha2 hb2
  have hn63 : (n : Int) < 9223372036854775808 := by omega
  by_cases hnm : n = m
  · subst hnm
    have hne : ((n : Int) != (n : Int)) = false := by simp
    have hq : decide (a = b) = decide (∀ j, j < n → a[j]? = b[j]?) := by
      rw [decide_eq_decide]
      constructor
      · rintro rfl j _; rfl
      · intro h
        refine List.ext_getElem? fun j => ?_
        by_cases hj : j < n
        · exact h j hj
        · rw [List.getElem?_eq_none (by rw [← HN.out]; omega), List.getElem?_eq_none (by rw [← HM.out]; omega)]
    obtain ⟨r, hr⟩ : ∃ r, r = decide (a = b) := ⟨_, rfl⟩
    rw [← hr] at hq ⊢
    have HQ := Lib.hid hq; clear hq hr
    go_enter Tryz.func11, Tryz.ntmps11
    go_wp2_with fail
    go_loopw [5] (fun i W => ∃ j : Nat, j ≤ n ∧ i = .int .i64 (j : Int) ∧ (∀ k, k < j → a[k]? = b[k]?) ∧ Below w.heap.size w W) (fun i _ => n - (intOf i).toNat)
    case atStart => exact ⟨0, by omega, rfl, fun k hk => by omega, Below.refl _ _⟩
    case round =>
      obtain ⟨j, hj, rfl, hall, hB⟩ := hrel
      have HA := Lib.hid hall; clear hall
      by_cases hlt : j < n
      · have hlt' : (j : Int) < (n : Int) := by omega
        have hj0 : (0 : Int) ≤ (j : Int) := by omega
        have hna : a ≠ [] := by intro h; have := HN.out; rw [h] at this; simp at this; omega
        have hnb : b ≠ [] := by intro h; have := HM.out; rw [h] at this; simp at this; omega
        obtain ⟨ba, oa, rfl, hra⟩ := ha3.resolve_left hna
        obtain ⟨bb, ob, rfl, hrb⟩ := hb3.resolve_left hnb
        have hja : j < a.length := by have := HN.out; omega
        have hjb : j < b.length := by have := HM.out; omega
        have hxa := Lib.hid (range_below hB (range_at hra hja) (range_lt (range_at hra hja) (by intro h; have := length_cellsOf a[j]; rw [h] at this; cases this)))
        have hxb := Lib.hid (range_below hB (range_at hrb hjb) (range_lt (range_at hrb hjb) (by intro h; have := length_cellsOf b[j]; rw [h] at this; cases this)))
        have hga := Lib.hid (List.getElem?_eq_getElem hja)
        have hgb := Lib.hid (List.getElem?_eq_getElem hjb)
        generalize a[j] = x at *
        generalize b[j] = y at *
        clear hra hrb hja hjb ha3 hb3
        go_wp2_with fail
        refine wp_region_sched (fun W => W.rangeAt ba (oa + j * 32) (cellsOf x) ∧ W.rangeAt bb (ob + j * 32) (cellsOf y)) [.t 0, .t 1, .t 2, .t 4, .t 5, .t 6, .s 3, .e 7 true, .t 8] (by kernel_rfl) (by kernel_rfl) (by intro c a d v w h; cases d <;> exact h) ?_
        iterate 6
          refine wpS_t rfl (v := ?_) (by rfl) (fun W => ?_) ?_
          rotate_left
          · go_simp
            try rfl
          try simp only [Act.put, List.setIfInBounds_toArray, List.set_cons_zero, List.set_cons_succ]
        refine wpS_load_sum (by exact ⟨hxa.out, hxb.out⟩) rfl (by rfl) _ (by rfl) ba (oa + j * 32) (by rfl) x (fun W hW => hW.1) ?_
        try simp only [Act.put, List.setIfInBounds_toArray, List.set_cons_zero, List.set_cons_succ]
        refine wpS_k rfl (by rfl) (fun K hK => ?_)
        refine wp_load_sum _ (by rfl) bb (ob + j * 32) (by rfl) y (by exact hxb.out) ?_
        refine hK _ _ ⟨by exact ⟨hxa.out, hxb.out⟩, ?_⟩; clear hK K
        try simp only [Act.put, List.setIfInBounds_toArray, List.set_cons_zero, List.set_cons_succ]
        by_cases hxy : x = y
        · subst hxy
          have hes := eq_sums_same x
          clear heq
          iterate 1
            refine wpS_t rfl (v := ?_) (by rfl) (fun W => ?_) ?_
            rotate_left
            · go_simp
              try rfl
            try simp only [Act.put, List.setIfInBounds_toArray, List.set_cons_zero, List.set_cons_succ]
          refine wpS_done ?_
          go_wp2_with fail
          refine ⟨⟨j + 1, by omega, by simp, fun k hk => ?_, hB.drew⟩, by simp [intOf]; omega⟩
          by_cases hkj : k < j
          · exact HA.out k hkj
          · have : k = j := by omega
            rw [this, hga.out, hgb.out]
        · have hes : ∀ w : World, (Op.equalIn 10000 24 (.agg (cellsOf x).toArray) (.agg (cellsOf y).toArray)).run Tryz.prog w = .ok false w := fun w => by rw [eq_sums]; simp [hxy]
          clear heq
          iterate 1
            refine wpS_t rfl (v := ?_) (by rfl) (fun W => ?_) ?_
            rotate_left
            · go_simp
              try rfl
            try simp only [Act.put, List.setIfInBounds_toArray, List.set_cons_zero, List.set_cons_succ]
          refine wpS_done ?_
          have hr : r = false := by
            rw [HQ.out]
            simp only [decide_eq_false_iff_not]
            intro h
            have := h j hlt
            rw [hga.out, hgb.out] at this
            exact hxy (by simpa using this)
          go_wp2_with fail
          exact bodyPost_ret (results_tmp rfl _ _ _) rfl ⟨by rw [hr]; rfl, hB.drew⟩
      · have hjn : j = n := by omega
        subst hjn
        have hr : r = true := by rw [HQ.out]; simpa using HA.out
        go_wp2_with fail
        exact bodyPost_ret (results_tmp rfl _ _ _) rfl ⟨by rw [hr]; rfl, hB⟩
  · have hr : decide (a = b) = false := by
      simp only [decide_eq_false_iff_not]
      rintro rfl
      exact hnm (HN.out.trans HM.out.symm)
    rw [hr]
    have hne : ((n : Int) != (m : Int)) = true := by rw [bne_iff_ne]; omega
    clear hr
    go_enter Tryz.func11, Tryz.ntmps11
    go_wp2_with fail
    exact bodyPost_ret (results_tmp rfl _ _ _) rfl ⟨rfl, Below.refl _ _⟩
end Go.Proofs.YtdkcndgehgmadaaGreatDoor
