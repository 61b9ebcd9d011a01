/-
  Walks: the law PathsBoth.
-/
import Derived.Test.YtdkcndgehgmadaaP7
open Go Go.RowKit Alm
namespace Go.Proofs.Ytdkcndgehgmadaa
/-- New sums in a slice without room. -/
def SumsTight (w : World) (base : Nat) (v : Value) (l : List Sum) : Prop :=
  (v = .slice none 0 0 ∧ l = []) ∨ ∃ g, v = .slice (some ⟨g, 0, none⟩) l.length l.length ∧ l ≠ [] ∧ l.length ≤ maxLen ∧ base ≤ g ∧ w.rangeAt g 0 (cellsAll l)
theorem SumsTight.sums {w : World} {base : Nat} {v : Value} {l : List Sum} (h : SumsTight w base v l) : SumsAt w v l := by
  rcases h with ⟨rfl, rfl⟩ | ⟨g, rfl, h0, h1, h2, h3⟩
  · exact ⟨none, 0, rfl, Nat.le_refl _, by unfold maxLen; omega, .inl rfl⟩
  · exact ⟨_, _, rfl, Nat.le_refl _, h1, .inr ⟨g, 0, rfl, h3⟩⟩
theorem SumsTight.below {w w' : World} {base : Nat} {v : Value} {l : List Sum} (h : SumsTight w base v l) (hb : Below w.heap.size w w') : SumsTight w' base v l := by
  rcases h with ⟨rfl, rfl⟩ | ⟨g, rfl, h0, h1, h2, h3⟩
  · exact .inl ⟨rfl, rfl⟩
  · exact .inr ⟨g, rfl, h0, h1, h2, (Keeps.of_below (X := fun _ => False) hb).range h3 (fun h => h)⟩
def TightOf (w : World) (r : List Sum) (e : Ending) (w' : World) : Prop := ∃ v', e = .returned (.tuple #[v', .int .i64 0]) ∧ SumsTight w' w.heap.size v' r ∧ Below w.heap.size w w'
theorem clip_tight (w : World) (base : Nat) (v : Value) (l : List Sum) (h : SumsNew w base v l) : Calls Try.prog 61 #[v] w fun e w' => ∃ v', e = .returned v' ∧ SumsTight w base v' l ∧ w = w' := by
  rcases h with ⟨rfl, rfl⟩ | ⟨g, cap, rfl, h0, h1, h2, h3, h4, h5⟩
  · go_enter Try.func61, Try.ntmps61
    go_wp2_with fail
    exact bodyPost_ret (results_tmp rfl _ _ _) rfl ⟨_, rfl, .inl ⟨rfl, rfl⟩, rfl⟩
  · have hn : SumsTight w base (.slice (some ⟨g, 0, none⟩) l.length l.length) l := .inr ⟨g, rfl, h0, by omega, h3, h4⟩
    have HN := Lib.hid hn; clear hn
    clear h4 h5
    obtain ⟨n, hn⟩ : ∃ n, n = l.length := ⟨_, rfl⟩
    rw [← hn] at HN h1 ⊢
    have HH := Lib.hid hn; clear hn
    have k1 : (n : Int) ≤ (cap : Int) := by omega
    unfold maxLen at h2
    go_enter Try.func61, Try.ntmps61
    go_wp2_with fail
    refine bodyPost_ret (results_tmp rfl _ _ _) rfl ?_
    exact ⟨_, rfl, HN.out, rfl⟩
set_option maxRecDepth 100000 in
set_option maxHeartbeats 2000000 in
theorem pathsOf_tight (l : List Sum) (m0 : Nat) (v : Value) (w : World) (hv : SumsAt w v l) (hm2 : m0 < l.length) (hl : l.length < 1000000) : Calls Try.prog 24 #[v, .int .i64 (m0 : Int)] w (TightOf w (path nd e0 l m0)) := by
  have hl0 : l ≠ [] := by intro h; rw [h] at hm2; simp at hm2
  obtain ⟨b0, o0, cap0, rfl, hc1, hc2, hr0⟩ := sums_form hv hl0
  have HV := Lib.hid hv; clear hv
  obtain ⟨n0, hn0⟩ : ∃ n, n = l.length := ⟨_, rfl⟩
  rw [← hn0] at hm2 hl HV hc1 ⊢
  have HN0 := Lib.hid hn0; clear hn0
  have k1 : decide ((m0 : Int) < 0) = false := decide_eq_false (by omega)
  have k2 : decide (n0 ≤ m0) = false := decide_eq_false (by omega)
  have k3 : (m0 : Int) ≤ 1000000 := by omega
  unfold maxLen at hc2
  go_enter Try.func24, Try.ntmps24
  go_wp2_with fail
  go_loopw [0, 1, 4] (fun lv fv kv W => ∃ (cur acc : List Sum) (m : Nat), SumsAt w lv cur ∧ fv = .int .i64 (m : Int) ∧ m < cur.length ∧ cur.length + acc.length ≤ n0 ∧ W.ownsRow w.heap.size 24 32 kv acc.length (cellsAll acc) ∧ (acc = [] → kv = .slice none 0 0) ∧ Below w.heap.size w W ∧ path nd e0 l m0 = path nd e0 cur m ++ acc.reverse) (fun lv _ _ _ => lenOf lv)
  case atStart => exact ⟨l, [], m0, HV.out, rfl, by have := HN0.out; omega, by rw [← HN0.out]; simp, World.ownsRow_nil _ _ _ _, fun _ => rfl, Below.refl _ _, by simp⟩
  case round =>
    obtain ⟨cur, acc, m, hS, rfl, hmc, hca, ho, hnil, hB, hlk⟩ := hrel
    have hcur : cur ≠ [] := by intro h; rw [h] at hmc; simp at hmc
    obtain ⟨b, o, cap, rfl, hd1, hd2, hr⟩ := sums_form hS hcur
    obtain ⟨n, hn⟩ : ∃ n, n = cur.length := ⟨_, rfl⟩
    rw [← hn] at hmc hca hd1 hS ⊢
    have HN := Lib.hid hn; clear hn
    have HS := Lib.hid hS; clear hS
    have HR := Lib.hid hr; clear hr
    have HO := Lib.hid ho; clear ho
    have HNIL := Lib.hid hnil; clear hnil
    have HB := Lib.hid hB; clear hB
    have HLK := Lib.hid hlk; clear hlk
    unfold maxLen at hd2
    have hm0' : (0 : Int) ≤ (m : Int) := by omega
    have hnn : (n : Int) ≤ 1000000 := by omega
    by_cases hlt : 1 < n
    · have hlt' : (1 : Int) < (n : Int) := by omega
      have hk1 := cut_lt (n := n) (by omega)
      have hk2 := cut_pos n
      obtain ⟨k, hk⟩ : ∃ k, k = cut n := ⟨_, rfl⟩
      rw [← hk] at hk1 hk2
      have HK := Lib.hid hk; clear hk
      have hk1' : (k : Int) < (n : Int) := by omega
      have hk2' : (0 : Int) ≤ (k : Int) := by omega
      have hkc : (k : Int) < (cap : Int) := by omega
      have hkc2 : (k : Int) ≤ (cap : Int) := by omega
      have hkn2 : (k : Int) ≤ (n : Int) := by omega
      have kc4 : ¬ (cap = k) := by omega
      have kc5 : ¬ (k = cap) := by omega
      go_wp2_with fail
      refine (pathsCut_any n _ (by omega) (by omega)).mono ?_
      rw [← HK.out]
      rintro e1 w1 ⟨rfl, rfl⟩
      have HT : Hid (SumsAt w (.slice (some ⟨b, o, none⟩) k cap) (cur.take k)) := sums_take HR.out (by have := HN.out; omega) (by omega) (by unfold maxLen; omega)
      have HD : Hid (SumsAt w (.slice (some ⟨b, o + k * 32, none⟩) (n - k) (cap - k)) (cur.drop k)) := by
        have := sums_drop (k := k) (cap := cap - k) HR.out (by have := HN.out; omega) (by have := HN.out; omega) (by unfold maxLen; omega)
        rw [← HN.out] at this; exact this
      by_cases hmk : m < k
      · have hmk' : (m : Int) < (k : Int) := by omega
        go_wp2_with fail
        refine wp_region_sched (fun _ => True) [.t 0, .t 1, .t 2, .t 3, .t 7, .t 8, .t 9, .e 4 false, .e 5 false, .e 6 false, .t 10, .t 11] (by kernel_rfl) (by kernel_rfl) (by intro c a d v w h; cases d <;> exact h) ?_
        iterate 7
          refine wpS_t rfl (v := ?_) (by rfl) (fun W => ?_) ?_
          rotate_left
          · go_simp
            try rfl
          try simp only [Act.put, List.setIfInBounds_toArray, List.set_cons_zero, List.set_cons_succ]
        refine wpS_e rfl (by rfl) (fun K hK => ?_)
        go_simp
        refine (rt_any (cur.drop k) _ _ (by exact HD.out.below HB.out.drew (Nat.le_refl _))).mono ?_
        rintro e2 w2 ⟨rfl, hb2⟩
        have HB2 := Lib.hid (HB.out.drew.trans (hb2.mono HB.out.drew.size))
        have HO2 := Lib.hid (own_at (w := wr.drew) HO.out hb2)
        have hlk2 : path nd e0 l m0 = path nd e0 (cur.take k) m ++ (acc ++ [rt (cur.drop k)]).reverse := by
          rw [HLK.out, path_left_ cur m (by rw [← HN.out]; exact hlt) (by rw [← HN.out, ← HK.out]; exact hmk), ← HN.out, ← HK.out]; simp
        generalize rt (cur.drop k) = x at *
        have HLK2 := Lib.hid hlk2
        clear hlk2 hb2 HB HO HLK
        refine hK _ _ ?_; clear hK K
        try simp only [Act.put, List.setIfInBounds_toArray, List.set_cons_zero, List.set_cons_succ]
        refine wpS_e rfl (by rfl) (fun K hK => ?_)
        refine wp_build_sums 1 _ (by rfl) [x] rfl (by omega) (by omega) (by rfl) ?_
        refine hK _ _ ?_; clear hK K
        try simp only [Act.put, List.setIfInBounds_toArray, List.set_cons_zero, List.set_cons_succ]
        have HB3 := Lib.hid (HB2.out.alloc HB2.out.size (.cells (cellsAll [x]).toArray 24))
        have HX3 : Hid ((w2.alloc (.cells (cellsAll [x]).toArray 24)).rangeAt w2.heap.size 0 (cellsAll [x])) := range_new w2 _ _ _ rfl
        refine wpS_e rfl (by rfl) (fun K hK => ?_)
        refine wp_append_sums _ _ (by rfl) w.heap.size _ acc [x] acc.length 1 rfl rfl (by rfl) (HO2.out.alloc _) w2.heap.size 0 1 (by rfl) HX3.out (by omega) (by omega) HB3.out.size ?_
        intro g4 c4 w4 ho4 hg4 hat4 hlt4
        refine hK _ _ ?_; clear hK K
        try simp only [Act.put, List.setIfInBounds_toArray, List.set_cons_zero, List.set_cons_succ]
        have HB4 := Lib.hid (HB3.out.grown hg4 HB3.out.size (fun k hk => (HO2.out.lt k hk).1))
        have HO4 := Lib.hid ho4
        clear ho4 hg4 hat4 hlt4 HB3 HX3
        iterate 2
          refine wpS_t rfl (v := ?_) (by rfl) (fun W => ?_) ?_
          rotate_left
          · go_simp
            try rfl
          try simp only [Act.put, List.setIfInBounds_toArray, List.set_cons_zero, List.set_cons_succ]
        refine wpS_done ?_
        go_wp2_with fail
        refine ⟨⟨cur.take k, acc ++ [x], m, HT.out, rfl, ?_, ?_, ?_, ?_, HB4.out, HLK2.out⟩, ?_⟩
        · rw [List.length_take]; have := HN.out; omega
        · rw [List.length_take, List.length_append, List.length_singleton]; have := HN.out; omega
        · rw [List.length_append, List.length_singleton]; exact HO4.out
        · intro h; cases acc <;> cases h
        · simp [lenOf]; omega
      · have hmk' : ¬ (m : Int) < (k : Int) := by omega
        go_wp2_with fail
        refine wp_region_sched (fun _ => True) [.t 0, .t 1, .t 2, .t 3, .t 7, .t 8, .t 9, .t 10, .t 11, .t 12, .e 4 false, .e 5 false, .e 6 false, .t 13, .t 14, .t 15] (by kernel_rfl) (by kernel_rfl) (by intro c a d v w h; cases d <;> exact h) ?_
        iterate 9
          refine wpS_t rfl (v := ?_) (by rfl) (fun W => ?_) ?_
          rotate_left
          · go_simp
            try rfl
          try simp only [Act.put, List.setIfInBounds_toArray, List.set_cons_zero, List.set_cons_succ]
        have wmk : IntKind.i64.wrap ((m : Int) - (k : Int)) = ((m - k : Nat) : Int) := by rw [IntKind.wrap_i64]; omega
        iterate 1
          refine wpS_t rfl (v := ?_) (by rfl) (fun W => ?_) ?_
          rotate_left
          · go_simp
            try rfl
          try simp only [Act.put, List.setIfInBounds_toArray, List.set_cons_zero, List.set_cons_succ]
        refine wpS_e rfl (by rfl) (fun K hK => ?_)
        go_simp
        refine (rt_any (cur.take k) _ _ (by exact HT.out.below HB.out.drew (Nat.le_refl _))).mono ?_
        rintro e2 w2 ⟨rfl, hb2⟩
        have HB2 := Lib.hid (HB.out.drew.trans (hb2.mono HB.out.drew.size))
        have HO2 := Lib.hid (own_at (w := wr.drew) HO.out hb2)
        have hlk2 : path nd e0 l m0 = path nd e0 (cur.drop k) (m - k) ++ (acc ++ [rt (cur.take k)]).reverse := by
          rw [HLK.out, path_right_ cur m (by rw [← HN.out]; exact hlt) (by rw [← HN.out, ← HK.out]; exact hmk), ← HN.out, ← HK.out]; simp
        generalize rt (cur.take k) = x at *
        have HLK2 := Lib.hid hlk2
        clear hlk2 hb2 HB HO HLK
        refine hK _ _ ?_; clear hK K
        try simp only [Act.put, List.setIfInBounds_toArray, List.set_cons_zero, List.set_cons_succ]
        refine wpS_e rfl (by rfl) (fun K hK => ?_)
        refine wp_build_sums 1 _ (by rfl) [x] rfl (by omega) (by omega) (by rfl) ?_
        refine hK _ _ ?_; clear hK K
        try simp only [Act.put, List.setIfInBounds_toArray, List.set_cons_zero, List.set_cons_succ]
        have HB3 := Lib.hid (HB2.out.alloc HB2.out.size (.cells (cellsAll [x]).toArray 24))
        have HX3 : Hid ((w2.alloc (.cells (cellsAll [x]).toArray 24)).rangeAt w2.heap.size 0 (cellsAll [x])) := range_new w2 _ _ _ rfl
        refine wpS_e rfl (by rfl) (fun K hK => ?_)
        refine wp_append_sums _ _ (by rfl) w.heap.size _ acc [x] acc.length 1 rfl rfl (by rfl) (HO2.out.alloc _) w2.heap.size 0 1 (by rfl) HX3.out (by omega) (by omega) HB3.out.size ?_
        intro g4 c4 w4 ho4 hg4 hat4 hlt4
        refine hK _ _ ?_; clear hK K
        try simp only [Act.put, List.setIfInBounds_toArray, List.set_cons_zero, List.set_cons_succ]
        have HB4 := Lib.hid (HB3.out.grown hg4 HB3.out.size (fun k hk => (HO2.out.lt k hk).1))
        have HO4 := Lib.hid ho4
        clear ho4 hg4 hat4 hlt4 HB3 HX3
        iterate 3
          refine wpS_t rfl (v := ?_) (by rfl) (fun W => ?_) ?_
          rotate_left
          · go_simp
            try rfl
          try simp only [Act.put, List.setIfInBounds_toArray, List.set_cons_zero, List.set_cons_succ]
        refine wpS_done ?_
        go_wp2_with fail
        refine ⟨⟨cur.drop k, acc ++ [x], m - k, HD.out, by congr 1, ?_, ?_, ?_, ?_, HB4.out, HLK2.out⟩, ?_⟩
        · rw [List.length_drop]; have := HN.out; omega
        · rw [List.length_drop, List.length_append, List.length_singleton]; have := HN.out; omega
        · rw [List.length_append, List.length_singleton]; exact HO4.out
        · intro h; cases acc <;> cases h
        · simp [lenOf]; omega
    · have hl2 : path nd e0 l m0 = acc.reverse := by rw [HLK.out, path_end cur m (by rw [← HN.out]; omega)]; simp
      have HL2 := Lib.hid hl2
      have HB4 := HB
      have HS4 := Lib.hid (own_new' HO.out HNIL.out)
      clear HLK hl2 HB HO
      go_wp2_with fail
      have hlt4 : (acc).length < 4000000000 := by omega
      refine (reverse_sums _ w.heap.size _ (acc) HS4.out hlt4).mono ?_
      rintro e5 w5 ⟨rfl, hs5, hk5⟩
      have HB5 := Lib.hid (HB4.out.trans (hk5.below HB4.out.size (fun k hk => HS4.out.own k hk)))
      rw [← HL2.out] at hs5
      clear hk5 hlt4 HS4
      go_wp2_with fail
      refine (clip_tight _ _ _ _ hs5).mono ?_
      rintro e6 w6 ⟨v6, rfl, hs6, rfl⟩
      have HS6 := Lib.hid hs6
      clear hs5 hs6
      go_wp2_with fail
      refine bodyPost_ret (results_tmp2 rfl _ _ _) rfl ?_
      exact ⟨_, rfl, HS6.out, HB5.out⟩
theorem wp_append_tight {w : World} {o : Oper} {a : Act} {K : Act → World → Prop} {Q : Exit → Act → World → Prop} (s x : Operand)
    (ho : o.op = .call { callee := .builtin .append, args := #[s, x], argTypes := #[22, 22] })
    (base : Nat) (v : Value) (l : List Sum) (r : Sum) (ht : SumsTight w base v l) (hs : a.eval s = v) (b off : Nat) (hx : a.eval x = .slice (some ⟨b, off, none⟩) 1 1) (hr : w.rangeAt b off (cellsOf r)) (hl : l.length < 4000000000)
    (h : ∀ u w', SumsAt w' u (l ++ [r]) → Below w.heap.size w w' → K (a.put o.dst u) w') : o.wp Try.prog a w K Q := by
  rcases ht with ⟨rfl, rfl⟩ | ⟨g, rfl, h0, h1, h2, h3⟩
  · refine wp_append_sums s x ho w.heap.size (.slice none 0 0) [] [r] 0 1 rfl rfl hs (World.ownsRow_nil _ _ _ _) b off 1 hx (by rw [cellsAll_one]; exact hr) (by omega) (by omega) (Nat.le_refl _) ?_
    intro g c w' ho' hg _ _
    exact h _ w' (sums_own (l := [] ++ [r]) ho') ((Keeps.of_grown (X := fun _ => False) hg (fun k hk => by cases hk)).below (Nat.le_refl _) (fun _ h => h.elim))
  · obtain ⟨i, z, hi, hz, hi2, hi3, hzs⟩ := info_sum
    have hrun := run_append_grow (P := Try.prog) (w := w) 22 o.type 24 i z Try.underlying22 hi hz ⟨g, 0, none⟩ l.length l.length (cellsAll l) (by rw [length_cellsAll, hi2]; omega) (fun j u hj => by rw [Addr.add_mid]; exact h3 j u hj)
      ⟨b, off, none⟩ 1 1 (cellsOf r) (by rw [length_cellsOf, hi2]) (fun j u hj => by rw [Addr.add_mid]; exact hr j u hj) (by omega) (by omega) (by rw [hi3]; exact growslice_fits (by omega) (by omega))
    unfold Oper.wp
    simp [execOp, ho, resolve, invoke, builtin, hs, hx, hrun, Result.andThen]
    have hle := grownCap_le_maxLen w (l.length + 1) l.length 24 (by unfold maxLen; omega)
    have hge := grownCap_ge w (l.length + 1) l.length 24
    refine h _ _ ?_ (al (Below.refl _ _).drew _)
    generalize grownCap w (l.length + 1) l.length 24 = cap at *
    have hn := range_new w.drew ((cellsAll l ++ cellsOf r).toArray ++ Builtin.zeroCells z.cells (cap - (l.length + 1))) 24 _ rfl
    rw [Array.toList_append, List.toList_toArray] at hn
    have hn2 : (w.drew.alloc (.cells ((cellsAll l ++ cellsOf r).toArray ++ Builtin.zeroCells z.cells (cap - (l.length + 1))) 24)).rangeAt w.heap.size 0 (cellsAll (l ++ [r])) := by
      intro j v hv
      rw [cellsAll_append, cellsAll_one] at hv
      exact hn j v (by rw [List.getElem?_append_left (List.getElem?_eq_some_iff.1 hv).1]; exact hv)
    exact ⟨_, cap, by simp, by simpa using hge, hle, .inr ⟨w.heap.size, 0, rfl, hn2⟩⟩
theorem wpList_append_nil {ops : Array Oper} {rest : List Oper} {o : Oper} {w : World} {a : Act} {Q : Exit → Act → World → Prop} (hgd : o.guard = none) (s x : Operand)
    (ho : o.op = .call { callee := .builtin .append, args := #[s, x], argTypes := #[22, 22] })
    (v : Value) (xs : List Sum) (k : Nat) (hk : xs.length = k) (hk1 : 1 ≤ k) (hs : a.eval s = .slice none 0 0) (hx : a.eval x = v) (hv : SumsAt w v xs) (hl : k < 4000000000)
    (h : ∀ g c w', k ≤ c → c ≤ maxLen → w'.ownsRow w.heap.size 24 32 (.slice (some ⟨g, 0, none⟩) k c) k (cellsAll xs) → w'.rangeAt g 0 (cellsAll xs) → w.heap.size ≤ g → Below w.heap.size w w' → wpList Try.prog ops Q rest (a.put o.dst (.slice (some ⟨g, 0, none⟩) k c)) w') : wpList Try.prog ops Q (o :: rest) a w :=
  wpList_plain hgd fun _ hK => wp_append_nil s x ho w.heap.size (Nat.le_refl _) v xs hs hx hv (by omega) (fun u w' h1 h2 => by
    rw [hk] at h1
    obtain ⟨g, c, rfl, h3, h4, h5, h6⟩ := own_range h1 hk1
    exact hK _ _ (h g c w' h3 h4 h1 h6 h5 h2))
theorem own_there {w : World} {base g n c : Nat} {xs : List Value} (h : w.ownsRow base 24 32 (.slice (some ⟨g, 0, none⟩) n c) n xs) : w.there g 0 (32 * n) := by
  rcases h.2 with ⟨h2, _⟩ | ⟨g', cap, cur, h2, hb, hg, hnc, hcm, hsz, htk⟩
  · cases h2
  · simp only [Value.slice.injEq, Option.some.injEq, Addr.mk.injEq, and_true, true_and] at h2
    obtain ⟨rfl, rfl⟩ := h2
    refine fun j hj => ⟨?_, frozen_of_row w g _ cur _ hg⟩
    rw [cell_of_row w g _ cur _ (0, 0) hg, Nat.zero_add, Array.getElem?_eq_getElem (by rw [hsz]; omega)]; rfl
/-- The two halves, in the law's own variables. -/
structure PB (w W : World) (ga ca gb cb k : Nat) (la lb : List Sum) : Prop where
  ra : W.rangeAt ga 0 (cellsAll la)
  rb : W.rangeAt gb 0 (cellsAll lb)
  bw : Below w.heap.size w W
  hla : la.length = k
  hlb : lb.length = k
  ca1 : k ≤ ca
  ca2 : ca ≤ maxLen
  cb1 : k ≤ cb
  cb2 : cb ≤ maxLen
  k1 : 1 ≤ k
theorem PB.below {w W W' : World} {ga ca gb cb k : Nat} {la lb : List Sum} (h : PB w W ga ca gb cb k la lb) (hb : Below W.heap.size W W') : PB w W' ga ca gb cb k la lb :=
  ⟨br hb h.ra, br hb h.rb, h.bw.trans (hb.mono h.bw.size), h.hla, h.hlb, h.ca1, h.ca2, h.cb1, h.cb2, h.k1⟩
theorem PB.sa {w W : World} {ga ca gb cb k : Nat} {la lb : List Sum} (h : PB w W ga ca gb cb k la lb) : SumsAt W (.slice (some ⟨ga, 0, none⟩) k ca) la := ⟨_, ca, by rw [h.hla], by rw [h.hla]; exact h.ca1, h.ca2, .inr ⟨ga, 0, rfl, h.ra⟩⟩
theorem PB.sb {w W : World} {ga ca gb cb k : Nat} {la lb : List Sum} (h : PB w W ga ca gb cb k la lb) : SumsAt W (.slice (some ⟨gb, 0, none⟩) k cb) lb := ⟨_, cb, by rw [h.hlb], by rw [h.hlb]; exact h.cb1, h.cb2, .inr ⟨gb, 0, rfl, h.rb⟩⟩
set_option maxRecDepth 100000 in
set_option maxHeartbeats 4000000 in
theorem pathsBoth_any (l : List Sum) (v : Value) (s : Sum) (f : Nat) (w : World) (hv : SumsAt w v l) (hf : f ≤ 255) : Calls Try.prog 5 #[v, sv s, .int .u8 (f : Int)] w fun e w' => e = .returned (.bool true) ∧ Below w.heap.size w w' := by
  have hb0 := al (Below.refl _ w) (.cells (cellsOf s).toArray 24)
  have hs0 := range_new w (cellsOf s).toArray 24 _ rfl
  have HV := Lib.hid (hv.below hb0 (Nat.le_refl _))
  have HB0 := Lib.hid (And.intro hb0 hs0)
  clear hb0 hs0
  obtain ⟨a, cap, rfl, h1, h2, h3⟩ := hv
  obtain ⟨n, hn⟩ : ∃ n, n = l.length := ⟨_, rfl⟩
  rw [← hn] at h1 HV ⊢
  have HN := Lib.hid hn; clear hn
  unfold maxLen at h2
  have hf0 : (0 : Int) ≤ (f : Int) := by omega
  have hf1 : (f : Int) ≤ 255 := by omega
  by_cases hz : n = 0
  · have hz' : ((n : Int) == 0) = true := by rw [beq_iff_eq]; omega
    clear hz
    go_enter Try.func5, Try.ntmps5
    go_wp2_with fail
    refine (alive_paths (w.alloc (.cells (cellsOf s).toArray 24))).mono ?_
    rintro e w1 ⟨rfl, hb⟩
    go_wp2_with fail
    exact bodyPost_ret (results_tmp rfl _ _ _) rfl ⟨rfl, HB0.out.1.trans (hb.mono HB0.out.1.size)⟩
  have hz' : ((n : Int) == 0) = false := by rw [beq_eq_false_iff_ne]; omega
  by_cases hbig : 100 < n
  · have hbig' : (100 : Int) < (n : Int) := by omega
    go_enter Try.func5, Try.ntmps5
    go_wp2_with fail
    refine (alive_paths (w.alloc (.cells (cellsOf s).toArray 24))).mono ?_
    rintro e w1 ⟨rfl, hb⟩
    go_wp2_with fail
    exact bodyPost_ret (results_tmp rfl _ _ _) rfl ⟨rfl, HB0.out.1.trans (hb.mono HB0.out.1.size)⟩
  have hbig' : ¬ (100 : Int) < (n : Int) := by omega
  have hl0 : l ≠ [] := by intro h; have := HN.out; rw [h] at this; simp at this; omega
  obtain ⟨b, o, rfl, hra⟩ := h3.resolve_left hl0
  have HR := Lib.hid (br HB0.out.1 hra); clear hra h3
  have HN9 : Hid (1 ≤ n ∧ n ≤ 100) := Lib.hid ⟨by omega, by omega⟩
  clear hbig
  go_enter Try.func5, Try.ntmps5
  go_wp2_with fail
  obtain ⟨z, hz0⟩ : ∃ z, z = w.heap.size := ⟨_, rfl⟩
  have HZ := Lib.hid hz0
  rw [← hz0]
  have HZ0 := Lib.hid (hz0 ▸ HB0.out.2)
  clear hz0
  generalize w.alloc (.cells (cellsOf s).toArray 24) = W0 at *
  go_loopw [7] (fun kv W => ∃ j k : Nat, Hid (k = 2 ^ j) ∧ 1 ≤ k ∧ k ≤ n ∧ kv = .int .i64 (k : Int) ∧ W = W0) (fun kv _ => n - (intOf kv).toNat)
  case atStart => exact ⟨0, 1, Lib.hid rfl, Nat.le_refl _, HN9.out.1, rfl, rfl⟩
  case round =>
    obtain ⟨j, k, HKJ, hk1, hkn, rfl, hW⟩ := hrel
    have hW := hW.symm
    subst hW
    have hk9 : (2 : Int) * (k : Int) ≤ 1000 := by have := HN9.out.2; omega
    have w2 : wrap64 ((2 : Int) * (k : Int)) = ((2 * k : Nat) : Int) := by rw [wrapS _ (by omega) (by omega)]; omega
    by_cases h2k : 2 * k ≤ n
    · have h2k' : ((2 * k : Nat) : Int) ≤ (n : Int) := by omega
      have HK2 := Lib.hid (And.intro hk1 h2k)
      clear hk1 hkn
      go_wp2_with fail
      exact ⟨⟨j + 1, 2 * k, Lib.hid (by rw [HKJ.out, Nat.pow_succ]; omega), by have := HK2.out.1; omega, HK2.out.2, rfl, trivial⟩, by have := HK2.out; simp [intOf]; omega⟩
    · have h2k' : ¬ ((2 * k : Nat) : Int) ≤ (n : Int) := by omega
      have HK2 := Lib.hid (And.intro hk1 (And.intro hkn h2k))
      have k0 : (0 : Int) ≤ (k : Int) := by omega
      have k1 : (k : Int) ≤ (n : Int) := by omega
      have k2 : (k : Int) ≤ (cap : Int) := by omega
      have k3 : ¬ ((k : Int) = 0) := by omega
      obtain ⟨la, hla⟩ : ∃ la, la = l.take k := ⟨_, rfl⟩
      have hlal : la.length = k := by rw [hla, List.length_take]; have := HN.out; omega
      have hla0 : la ≠ [] := by intro h; rw [h] at hlal; simp at hlal; omega
      have HTK := Lib.hid (show SumsAt W0 (.slice (some ⟨b, o, none⟩) k cap) la from hla ▸ sums_take (cap := cap) (k := k) HR.out (by have := HN.out; omega) (by omega) (by unfold maxLen; omega))
      have HLA := Lib.hid (And.intro hlal hla0)
      have hlk9 : la.length < 4000000000 := by omega
      have HLK9 := Lib.hid hlk9
      clear hla hlal hla0 hlk9 hk9 w2
      have hlal := HLA.out.1
      have HG1 := Lib.hid trivial
      go_wp2_with (first
        | (have _ := HG1; at_builtin; refine wpList_append_nil rfl _ _ rfl _ la k hlal HK2.out.1 rfl rfl HTK.out (by omega) ?_; intro ga ca W1 ca1 ca2 ho1 hr1 hg1 hb1; have HO1 := Lib.hid (And.intro ca1 (And.intro ca2 (And.intro ho1 (And.intro hr1 (And.intro hg1 hb1))))); have HS1 := Lib.hid (show SumsAt W1 (.slice (some ⟨ga, 0, none⟩) k ca) la from ⟨_, ca, by rw [hlal], by omega, ca2, .inr ⟨ga, 0, rfl, hr1⟩⟩); clear ca1 ca2 ho1 hr1 hg1 hb1 HG1; have HG2 := Lib.hid trivial)
        | (have _ := HG2; at_builtin; refine wpList_append_nil rfl _ _ rfl _ la k hlal HK2.out.1 rfl rfl HS1.out (by omega) ?_; intro gb cb W2 cb1 cb2 ho2 hr2 hg2 hb2; have HO2 := Lib.hid (And.intro cb1 (And.intro cb2 (And.intro ho2 (And.intro hr2 (And.intro hg2 hb2))))); clear cb1 cb2 ho2 hr2 hg2 hb2 HG2))
      obtain ⟨i, hi⟩ : ∃ i, i = f % k := ⟨_, rfl⟩
      have hik : i < k := by rw [hi]; exact Nat.mod_lt _ (by have := HK2.out.1; omega)
      have hmod : (f : Int) % (k : Int) = (i : Int) := by rw [← Int.natCast_emod, hi]
      have i0 : (0 : Int) ≤ (i : Int) := by omega
      have i1 : (i : Int) < (k : Int) := by omega
      have hwf : IntKind.i64.wrap (f : Int) = (f : Int) := by rw [IntKind.wrap_i64]; omega
      have k3n : ¬ (k = 0) := by have := HK2.out.1; omega
      have htm : (f : Int).tmod (k : Int) = (i : Int) := by rw [Int.tmod_eq_emod_of_nonneg hf0]; exact hmod
      have HIK := Lib.hid hik
      clear hi hik
      refine wp_region_sched (fun _ => True) [.t 0, .t 1, .t 2, .t 3, .t 4, .e 5 true, .t 6, .e 7 true] (by kernel_rfl) (by kernel_rfl) (by intro c a d v w h; cases d <;> exact h) ?_
      have hrd : W2.drew.rangeAt gb 0 (cellsAll la) := HO2.out.2.2.2.1
      have htd : W2.drew.there gb 0 (32 * k) := own_there HO2.out.2.2.1
      have hb0d : Below W0.heap.size W0 W2.drew := (HO1.out.2.2.2.2.2.trans (HO2.out.2.2.2.2.2.mono HO1.out.2.2.2.2.2.size)).drew
      have hrad : W2.drew.rangeAt ga 0 (cellsAll la) := br HO2.out.2.2.2.2.2 HO1.out.2.2.2.1
      have hgab : ga ≠ gb := by
        have h1 : ga < W1.heap.size := range_lt (range_at HO1.out.2.2.2.1 (i := 0) (by have := HK2.out.1; omega)) (by intro h; have := length_cellsOf la[0]; rw [h] at this; cases this)
        have := HO2.out.2.2.2.2.1
        omega
      have hzd := br hb0d HZ0.out
      have hgb0 : W0.heap.size ≤ gb := by
        have := HO2.out.2.2.2.2.1
        have := HO1.out.2.2.2.2.2.size
        omega
      have HWD := Lib.hid (And.intro hrd (And.intro htd (And.intro hb0d (And.intro hrad (And.intro hgab (And.intro hzd hgb0))))))
      have HC := Lib.hid (And.intro HO1.out.1 (And.intro HO1.out.2.1 (And.intro HO2.out.1 HO2.out.2.1)))
      clear hrd htd hb0d hrad hgab hzd hgb0 HO1 HO2 HS1
      generalize W2.drew = V2 at *
      iterate 5
        refine wpS_t rfl (v := ?_) (by rfl) (fun W => ?_) ?_
        rotate_left
        · go_simp
          try rfl
        try simp only [Act.put, List.setIfInBounds_toArray, List.set_cons_zero, List.set_cons_succ]
      refine wpS_k rfl (by rfl) (fun K hK => ?_)
      refine wp_load_sum _ (by rfl) z 0 (by rfl) s HWD.out.2.2.2.2.2.1 ?_
      refine hK _ _ ⟨by trivial, ?_⟩; clear hK K
      try simp only [Act.put, List.setIfInBounds_toArray, List.set_cons_zero, List.set_cons_succ]
      iterate 1
        refine wpS_t rfl (v := ?_) (by rfl) (fun W => ?_) ?_
        rotate_left
        · go_simp
          try rfl
        try simp only [Act.put, List.setIfInBounds_toArray, List.set_cons_zero, List.set_cons_succ]
      refine wpS_k rfl (by rfl) (fun K hK => ?_)
      refine wp_store_sum _ _ (by rfl) gb (i * 32) s (by rfl) (by rfl) (fun q hq => by have := HWD.out.2.1 (i * 32 + q) (by have := HIK.out; omega); rwa [Nat.zero_add] at this) ?_
      refine hK _ _ ⟨by trivial, ?_⟩; clear hK K
      try simp only [Act.put, List.setIfInBounds_toArray, List.set_cons_zero, List.set_cons_succ]
      have hrs := range_set (i := i) (t := la) s HWD.out.1 (by rw [hlal]; exact HWD.out.2.1) (by rw [hlal]; exact HIK.out)
      rw [Nat.zero_add] at hrs
      have hks := keeps_setCells_ gb (cellsOf s) (i * 32) V2
      obtain ⟨lb, hlb⟩ : ∃ lb, lb = la.set i s := ⟨_, rfl⟩
      rw [← hlb] at hrs
      have hbw : Below w.heap.size w (V2.setCells gb (i * 32) (cellsOf s)) := HB0.out.1.trans ((((Keeps.of_below (X := fun _ => False) HWD.out.2.2.1).trans' hks (fun q hq => .inr (hq ▸ HWD.out.2.2.2.2.2.2))).below (Nat.le_refl _) (fun _ h => h.elim)).mono HB0.out.1.size)
      have HP3 : Hid (PB w (V2.setCells gb (i * 32) (cellsOf s)) ga ca gb cb k la lb) := Lib.hid ⟨hks.range HWD.out.2.2.2.1 HWD.out.2.2.2.2.1, hrs, hbw, hlal, by rw [hlb, List.length_set]; exact hlal, HC.out.1, HC.out.2.1, HC.out.2.2.1, HC.out.2.2.2, HK2.out.1⟩
      clear hrs hks hbw HWD HC
      generalize V2.setCells gb (i * 32) (cellsOf s) = W3 at *
      have hlbl := HP3.out.hlb
      have hk9 : k < 1000 := by have := HN9.out.2; have := HK2.out.2.1; omega
      have HX : Hid (path nd e0 (la ++ lb) i = path nd e0 la i ++ [rt lb]) := Lib.hid (by rw [rt_eq]; exact path_left nd e0 (j := j) (by rw [hlal, HKJ.out]) (by rw [hlbl, HKJ.out]) (by rw [← HKJ.out]; exact HIK.out))
      have HZZ : Hid (path nd e0 (la ++ lb) (k + i) = path nd e0 lb i ++ [rt la]) := Lib.hid (by rw [rt_eq]; have := path_right nd e0 (j := j) (k := i) (a := la) (b := lb) (by rw [hlal, HKJ.out]) (by rw [hlbl, HKJ.out]); rw [← HKJ.out] at this; exact this)
      have HPL : Hid ((path nd e0 la i).length < 4000000000 ∧ (path nd e0 lb i).length < 4000000000) := Lib.hid (by
        have h1 := plen_le_n i k
        rw [length_path, length_path, hlal, hlbl]
        omega)
      obtain ⟨rA, hrA⟩ : ∃ r, r = rt la := ⟨_, rfl⟩
      obtain ⟨rB, hrB⟩ : ∃ r, r = rt lb := ⟨_, rfl⟩
      rw [← hrA] at HZZ
      rw [← hrB] at HX
      have HRA := Lib.hid hrA
      have HRB := Lib.hid hrB
      obtain ⟨ya, hya⟩ : ∃ y, y = path nd e0 la i := ⟨_, rfl⟩
      obtain ⟨yb, hyb⟩ : ∃ y, y = path nd e0 lb i := ⟨_, rfl⟩
      rw [← hya] at HX HPL
      rw [← hyb] at HZZ HPL
      have HYA := Lib.hid hya
      have HYB := Lib.hid hyb
      clear hlb hrA hrB hya hyb
      refine wpS_done ?_
      have HG1 := Lib.hid trivial
      go_wp2_with (first
        | (have _ := HG1; at_builtin; refine wpList_append_nil rfl _ _ rfl _ la k hlal HK2.out.1 rfl rfl HP3.out.sa (by omega) ?_; intro g4 c4 W4 a1 a2 o4 r4 g4b b4; have HO4 := Lib.hid (And.intro o4 b4); have HR4 := Lib.hid (br b4 HP3.out.rb); clear a1 a2 o4 r4 g4b b4 HG1; have HG2 := Lib.hid trivial)
        | (have _ := HG2; at_builtin; refine wpList_append_sums rfl _ _ rfl W3.heap.size _ la lb k k hlal hlbl rfl HO4.out.1 gb 0 cb rfl HR4.out (by omega) (by omega) HO4.out.2.size ?_; intro g5 c5 W5 o5 hg5 hat5 hlt5; have HO5 := Lib.hid (And.intro o5 hg5); clear o5 hg5 hat5 hlt5 HG2))
      have hbd5 : Below W3.heap.size W3 W5 := HO4.out.2.grown HO5.out.2 HO4.out.2.size (fun q hq => (HO4.out.1.lt q hq).1)
      have hs5 : SumsAt W5 (.slice (some ⟨g5, 0, none⟩) (k + k) c5) (la ++ lb) := by
        have h1 := HO5.out.1
        have h2 : (la ++ lb).length = k + k := by rw [List.length_append, hlal, hlbl]
        rw [← h2] at h1 ⊢
        exact sums_own h1
      have HOF := pathsOf_tight (la ++ lb) i _ W5 hs5 (by rw [List.length_append, hlal]; have := HIK.out; omega) (by rw [List.length_append, hlal, hlbl]; omega)
      rw [HX.out] at HOF
      refine HOF.mono ?_
      rintro e W6 ⟨vx, rfl, ht, hb⟩
      have HT6 := Lib.hid ht
      have HP6 := Lib.hid (HP3.out.below (hbd5.trans (hb.mono hbd5.size)))
      clear HOF hs5 hbd5 ht hb HO4 HO5 HR4 HP3
      go_wp2_with fail
      have HOF := pathsOf_tight la i _ W6 HP6.out.sa (by rw [hlal]; exact HIK.out) (by omega)
      rw [← HYA.out] at HOF
      refine HOF.mono ?_
      rintro e W7 ⟨vy, rfl, ht, hb⟩
      have HT7 := Lib.hid (And.intro (HT6.out.below hb) ht)
      have HP7 := Lib.hid (HP6.out.below hb)
      clear HOF ht hb HT6 HP6
      have HG1 := Lib.hid trivial
      go_wp2_with (first
        | (have _ := HG1; at_builtin; refine wpList_append_nil rfl _ _ rfl _ la k hlal HK2.out.1 rfl rfl HP7.out.sa (by omega) ?_; intro g8 c8 W8 a1 a2 o4 r4 g4b b4; have HO8 := Lib.hid (And.intro o4 b4); have HR8 := Lib.hid (br b4 HP7.out.rb); clear a1 a2 o4 r4 g4b b4 HG1; have HG2 := Lib.hid trivial)
        | (have _ := HG2; at_builtin; refine wpList_append_sums rfl _ _ rfl W7.heap.size _ la lb k k hlal hlbl rfl HO8.out.1 gb 0 cb rfl HR8.out (by omega) (by omega) HO8.out.2.size ?_; intro g9 c9 W9 o5 hg5 hat5 hlt5; have HO9 := Lib.hid (And.intro o5 hg5); clear o5 hg5 hat5 hlt5 HG2))
      have hbd9 : Below W7.heap.size W7 W9 := HO8.out.2.grown HO9.out.2 HO8.out.2.size (fun q hq => (HO8.out.1.lt q hq).1)
      have hs9 : SumsAt W9 (.slice (some ⟨g9, 0, none⟩) (k + k) c9) (la ++ lb) := by
        have h1 := HO9.out.1
        have h2 : (la ++ lb).length = k + k := by rw [List.length_append, hlal, hlbl]
        rw [← h2] at h1 ⊢
        exact sums_own h1
      have HOF := pathsOf_tight (la ++ lb) (k + i) _ W9 hs9 (by rw [List.length_append, hlal, hlbl]; have := HIK.out; omega) (by rw [List.length_append, hlal, hlbl]; omega)
      rw [HZZ.out] at HOF
      refine HOF.mono ?_
      rintro e W10 ⟨vz, rfl, ht, hb⟩
      have hbd10 := hbd9.trans (hb.mono hbd9.size)
      have HT10 := Lib.hid (And.intro (HT7.out.1.below hbd10) (And.intro (HT7.out.2.below hbd10) ht))
      have HP10 := Lib.hid (HP7.out.below hbd10)
      clear HOF hs9 hbd9 hbd10 ht hb HO8 HO9 HR8 HP7 HT7
      go_wp2_with fail
      have HOF := pathsOf_tight lb i _ W10 HP10.out.sb (by rw [hlbl]; exact HIK.out) (by omega)
      rw [← HYB.out] at HOF
      refine HOF.mono ?_
      rintro e W11 ⟨vw, rfl, ht, hb⟩
      have HT11 := Lib.hid (And.intro (HT10.out.1.below hb) (And.intro (HT10.out.2.1.below hb) (And.intro (HT10.out.2.2.below hb) ht)))
      have HP11 := Lib.hid (HP10.out.below hb)
      clear HOF ht hb HT10 HP10
      go_wp2_with fail
      refine (alive_paths W11).mono ?_
      rintro e W12 ⟨rfl, hb⟩
      have HT12 := Lib.hid (And.intro (HT11.out.1.below hb) (And.intro (HT11.out.2.1.below hb) (And.intro (HT11.out.2.2.1.below hb) (HT11.out.2.2.2.below hb))))
      have HP12 := Lib.hid (HP11.out.below hb)
      clear hb HT11 HP11
      go_wp2_with fail
      have HOF := rt_any lb _ W12 HP12.out.sb
      rw [← HRB.out] at HOF
      refine HOF.mono ?_
      rintro e W13 ⟨rfl, hb⟩
      have hba := al (Below.refl _ W13) (.cells (cellsAll [rB]).toArray 24)
      have hb14 := hb.trans (hba.mono hb.size)
      have HT14 := Lib.hid (And.intro (HT12.out.1.below hb14) (And.intro (HT12.out.2.1.below hb14) (And.intro (HT12.out.2.2.1.below hb14) (HT12.out.2.2.2.below hb14))))
      have HP14 := Lib.hid (HP12.out.below hb14)
      have HN14 := Lib.hid (range_new W13 (cellsAll [rB]).toArray 24 (cellsOf rB) (by rw [cellsAll_one]))
      clear HOF hb hba hb14 HT12 HP12
      have HG1 := Lib.hid trivial
      go_wp2_with (first
        | (have _ := HG1; refine BigFrame.wpList_want (by rfl) fun _ hK => wp_build_sums 1 _ rfl [rB] rfl (by omega) (by omega) (by rfl) (hK _ _ ?_); clear HG1 hK; have HG2 := Lib.hid trivial)
        | (have _ := HG2; at_builtin; refine BigFrame.wpList_want (by rfl) fun _ hK => wp_append_tight _ _ rfl _ vy ya rB HT14.out.2.1 (by rfl) W13.heap.size 0 (by rfl) HN14.out HPL.out.1 (fun u W15 hu hb => hK _ _ ?_); have HU := Lib.hid (And.intro hu hb); clear hu hb hK HG2))
      have hb15 := HU.out.2
      have hsz := (al (Below.refl _ W13) (.cells (cellsAll [rB]).toArray 24)).size
      refine (same_sums (ya ++ [rB]) (ya ++ [rB]) vx _ W15 (HT14.out.1.sums.below hb15 (Nat.le_refl _)) HU.out.1).mono ?_
      rw [decide_eq_true rfl]
      rintro e W16 ⟨rfl, hb⟩
      have hb16 := hb15.trans (hb.mono hb15.size)
      have HT16 := Lib.hid (And.intro (HT14.out.2.2.1.below hb16) (HT14.out.2.2.2.below hb16))
      have HP16 := Lib.hid (HP14.out.below hb16)
      clear hb hb15 hb16 hsz HT14 HP14 HU HN14
      go_wp2_with fail
      have HOF := rt_any la _ W16 HP16.out.sa
      rw [← HRA.out] at HOF
      refine HOF.mono ?_
      rintro e W17 ⟨rfl, hb⟩
      have hba := al (Below.refl _ W17) (.cells (cellsAll [rA]).toArray 24)
      have hb18 := hb.trans (hba.mono hb.size)
      have HT18 := Lib.hid (And.intro (HT16.out.1.below hb18) (HT16.out.2.below hb18))
      have HP18 := Lib.hid (HP16.out.below hb18)
      have HN18 := Lib.hid (range_new W17 (cellsAll [rA]).toArray 24 (cellsOf rA) (by rw [cellsAll_one]))
      clear HOF hb hba hb18 HT16 HP16
      have HG1 := Lib.hid trivial
      go_wp2_with (first
        | (have _ := HG1; refine BigFrame.wpList_want (by rfl) fun _ hK => wp_build_sums 1 _ rfl [rA] rfl (by omega) (by omega) (by rfl) (hK _ _ ?_); clear HG1 hK; have HG2 := Lib.hid trivial)
        | (have _ := HG2; at_builtin; refine BigFrame.wpList_want (by rfl) fun _ hK => wp_append_tight _ _ rfl _ vw yb rA HT18.out.2 (by rfl) W17.heap.size 0 (by rfl) HN18.out HPL.out.2 (fun u2 W19 hu hb => hK _ _ ?_); have HU := Lib.hid (And.intro hu hb); clear hu hb hK HG2))
      have hb19 := HU.out.2
      refine (same_sums (yb ++ [rA]) (yb ++ [rA]) vz _ W19 (HT18.out.1.sums.below hb19 (Nat.le_refl _)) HU.out.1).mono ?_
      rw [decide_eq_true rfl]
      rintro e W20 ⟨rfl, hb⟩
      have HF := Lib.hid (HP18.out.bw.trans ((hb19.trans (hb.mono hb19.size)).mono HP18.out.bw.size))
      clear hb hb19 HT18 HP18 HU HN18
      go_wp2_with fail
      exact bodyPost_ret (results_tmp rfl _ _ _) rfl ⟨rfl, HF.out⟩
end Go.Proofs.Ytdkcndgehgmadaa
