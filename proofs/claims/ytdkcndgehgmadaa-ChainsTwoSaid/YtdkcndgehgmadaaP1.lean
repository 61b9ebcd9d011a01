/-
  Walks: paths.Of.
-/
import Derived.Test.YtdkcndgehgmadaaG2
open Go Go.RowKit Alm
namespace Go.Proofs.Ytdkcndgehgmadaa
theorem path_end (l : List Sum) (m : Nat) (h : l.length ≤ 1) : path nd e0 l m = [] := by
  rw [path]; simp [h]
theorem path_left_ (l : List Sum) (m : Nat) (h : 1 < l.length) (hk : m < cut l.length) : path nd e0 l m = path nd e0 (l.take (cut l.length)) m ++ [rt (l.drop (cut l.length))] := by
  conv => lhs; rw [path]
  rw [dif_neg (by omega), rt_eq]; simp [hk]
theorem path_right_ (l : List Sum) (m : Nat) (h : 1 < l.length) (hk : ¬ m < cut l.length) : path nd e0 l m = path nd e0 (l.drop (cut l.length)) (m - cut l.length) ++ [rt (l.take (cut l.length))] := by
  conv => lhs; rw [path]
  rw [dif_neg (by omega), rt_eq]; simp [hk]
set_option maxRecDepth 100000 in
set_option maxHeartbeats 2000000 in
theorem pathsOf_any (l : List Sum) (m0 : Nat) (v : Value) (w : World) (hv : SumsAt w v l) (hm2 : m0 < l.length) (hl : l.length < 1000000) : Calls Try.prog 24 #[v, .int .i64 (m0 : Int)] w (LinkOf w (path nd e0 l m0)) := by
  have hl0 : l ≠ [] := by intro h; rw [h] at hm2; simp at hm2
  obtain ⟨b0, o0, cap0, rfl, hc1, hc2, hr0⟩ := sums_form hv hl0
  have HV := Lib.hid hv; clear hv
  obtain ⟨n0, hn0⟩ : ∃ n, n = l.length := ⟨_, rfl⟩
  rw [← hn0] at hm2 hl HV hc1 ⊢
  have HN0 := Lib.hid hn0; clear hn0
  have k1 : decide ((m0 : Int) < 0) = false := decide_eq_false (by omega)
  have k2 : decide (n0 ≤ m0) = false := decide_eq_false (by omega)
  have k3 : (m0 : Int) ≤ 1000000 := by omega
  unfold maxLen at hc2
  go_enter Try.func24, Try.ntmps24
  go_wp2_with fail
  go_loopw [0, 1, 4] (fun lv fv kv W => ∃ (cur acc : List Sum) (m : Nat), SumsAt w lv cur ∧ fv = .int .i64 (m : Int) ∧ m < cur.length ∧ cur.length + acc.length ≤ n0 ∧ W.ownsRow w.heap.size 24 32 kv acc.length (cellsAll acc) ∧ (acc = [] → kv = .slice none 0 0) ∧ Below w.heap.size w W ∧ path nd e0 l m0 = path nd e0 cur m ++ acc.reverse) (fun lv _ _ _ => lenOf lv)
  case atStart => exact ⟨l, [], m0, HV.out, rfl, by have := HN0.out; omega, by rw [← HN0.out]; simp, World.ownsRow_nil _ _ _ _, fun _ => rfl, Below.refl _ _, by simp⟩
  case round =>
    obtain ⟨cur, acc, m, hS, rfl, hmc, hca, ho, hnil, hB, hlk⟩ := hrel
    have hcur : cur ≠ [] := by intro h; rw [h] at hmc; simp at hmc
    obtain ⟨b, o, cap, rfl, hd1, hd2, hr⟩ := sums_form hS hcur
    obtain ⟨n, hn⟩ : ∃ n, n = cur.length := ⟨_, rfl⟩
    rw [← hn] at hmc hca hd1 hS ⊢
    have HN := Lib.hid hn; clear hn
    have HS := Lib.hid hS; clear hS
    have HR := Lib.hid hr; clear hr
    have HO := Lib.hid ho; clear ho
    have HNIL := Lib.hid hnil; clear hnil
    have HB := Lib.hid hB; clear hB
    have HLK := Lib.hid hlk; clear hlk
    unfold maxLen at hd2
    have hm0' : (0 : Int) ≤ (m : Int) := by omega
    have hnn : (n : Int) ≤ 1000000 := by omega
    by_cases hlt : 1 < n
    · have hlt' : (1 : Int) < (n : Int) := by omega
      have hk1 := cut_lt (n := n) (by omega)
      have hk2 := cut_pos n
      obtain ⟨k, hk⟩ : ∃ k, k = cut n := ⟨_, rfl⟩
      rw [← hk] at hk1 hk2
      have HK := Lib.hid hk; clear hk
      have hk1' : (k : Int) < (n : Int) := by omega
      have hk2' : (0 : Int) ≤ (k : Int) := by omega
      have hkc : (k : Int) < (cap : Int) := by omega
      have hkc2 : (k : Int) ≤ (cap : Int) := by omega
      have hkn2 : (k : Int) ≤ (n : Int) := by omega
      have kc4 : ¬ (cap = k) := by omega
      have kc5 : ¬ (k = cap) := by omega
      go_wp2_with fail
      refine (pathsCut_any n _ (by omega) (by omega)).mono ?_
      rw [← HK.out]
      rintro e1 w1 ⟨rfl, rfl⟩
      have HT : Hid (SumsAt w (.slice (some ⟨b, o, none⟩) k cap) (cur.take k)) := sums_take HR.out (by have := HN.out; omega) (by omega) (by unfold maxLen; omega)
      have HD : Hid (SumsAt w (.slice (some ⟨b, o + k * 32, none⟩) (n - k) (cap - k)) (cur.drop k)) := by
        have := sums_drop (k := k) (cap := cap - k) HR.out (by have := HN.out; omega) (by have := HN.out; omega) (by unfold maxLen; omega)
        rw [← HN.out] at this; exact this
      by_cases hmk : m < k
      · have hmk' : (m : Int) < (k : Int) := by omega
        go_wp2_with fail
        refine wp_region_sched (fun _ => True) [.t 0, .t 1, .t 2, .t 3, .t 7, .t 8, .t 9, .e 4 false, .e 5 false, .e 6 false, .t 10, .t 11] (by kernel_rfl) (by kernel_rfl) (by intro c a d v w h; cases d <;> exact h) ?_
        iterate 7
          refine wpS_t rfl (v := ?_) (by rfl) (fun W => ?_) ?_
          rotate_left
          · go_simp
            try rfl
          try simp only [Act.put, List.setIfInBounds_toArray, List.set_cons_zero, List.set_cons_succ]
        refine wpS_e rfl (by rfl) (fun K hK => ?_)
        go_simp
        refine (rt_any (cur.drop k) _ _ (by exact HD.out.below HB.out.drew (Nat.le_refl _))).mono ?_
        rintro e2 w2 ⟨rfl, hb2⟩
        have HB2 := Lib.hid (HB.out.drew.trans (hb2.mono HB.out.drew.size))
        have HO2 := Lib.hid (own_at (w := wr.drew) HO.out hb2)
        have hlk2 : path nd e0 l m0 = path nd e0 (cur.take k) m ++ (acc ++ [rt (cur.drop k)]).reverse := by
          rw [HLK.out, path_left_ cur m (by rw [← HN.out]; exact hlt) (by rw [← HN.out, ← HK.out]; exact hmk), ← HN.out, ← HK.out]; simp
        generalize rt (cur.drop k) = x at *
        have HLK2 := Lib.hid hlk2
        clear hlk2 hb2 HB HO HLK
        refine hK _ _ ?_; clear hK K
        try simp only [Act.put, List.setIfInBounds_toArray, List.set_cons_zero, List.set_cons_succ]
        refine wpS_e rfl (by rfl) (fun K hK => ?_)
        refine wp_build_sums 1 _ (by rfl) [x] rfl (by omega) (by omega) (by rfl) ?_
        refine hK _ _ ?_; clear hK K
        try simp only [Act.put, List.setIfInBounds_toArray, List.set_cons_zero, List.set_cons_succ]
        have HB3 := Lib.hid (HB2.out.alloc HB2.out.size (.cells (cellsAll [x]).toArray 24))
        have HX3 : Hid ((w2.alloc (.cells (cellsAll [x]).toArray 24)).rangeAt w2.heap.size 0 (cellsAll [x])) := range_new w2 _ _ _ rfl
        refine wpS_e rfl (by rfl) (fun K hK => ?_)
        refine wp_append_sums _ _ (by rfl) w.heap.size _ acc [x] acc.length 1 rfl rfl (by rfl) (HO2.out.alloc _) w2.heap.size 0 1 (by rfl) HX3.out (by omega) (by omega) HB3.out.size ?_
        intro g4 c4 w4 ho4 hg4 hat4 hlt4
        refine hK _ _ ?_; clear hK K
        try simp only [Act.put, List.setIfInBounds_toArray, List.set_cons_zero, List.set_cons_succ]
        have HB4 := Lib.hid (HB3.out.grown hg4 HB3.out.size (fun k hk => (HO2.out.lt k hk).1))
        have HO4 := Lib.hid ho4
        clear ho4 hg4 hat4 hlt4 HB3 HX3
        iterate 2
          refine wpS_t rfl (v := ?_) (by rfl) (fun W => ?_) ?_
          rotate_left
          · go_simp
            try rfl
          try simp only [Act.put, List.setIfInBounds_toArray, List.set_cons_zero, List.set_cons_succ]
        refine wpS_done ?_
        go_wp2_with fail
        refine ⟨⟨cur.take k, acc ++ [x], m, HT.out, rfl, ?_, ?_, ?_, ?_, HB4.out, HLK2.out⟩, ?_⟩
        · rw [List.length_take]; have := HN.out; omega
        · rw [List.length_take, List.length_append, List.length_singleton]; have := HN.out; omega
        · rw [List.length_append, List.length_singleton]; exact HO4.out
        · intro h; cases acc <;> cases h
        · simp [lenOf]; omega
      · have hmk' : ¬ (m : Int) < (k : Int) := by omega
        go_wp2_with fail
        refine wp_region_sched (fun _ => True) [.t 0, .t 1, .t 2, .t 3, .t 7, .t 8, .t 9, .t 10, .t 11, .t 12, .e 4 false, .e 5 false, .e 6 false, .t 13, .t 14, .t 15] (by kernel_rfl) (by kernel_rfl) (by intro c a d v w h; cases d <;> exact h) ?_
        iterate 9
          refine wpS_t rfl (v := ?_) (by rfl) (fun W => ?_) ?_
          rotate_left
          · go_simp
            try rfl
          try simp only [Act.put, List.setIfInBounds_toArray, List.set_cons_zero, List.set_cons_succ]
        have wmk : IntKind.i64.wrap ((m : Int) - (k : Int)) = ((m - k : Nat) : Int) := by rw [IntKind.wrap_i64]; omega
        iterate 1
          refine wpS_t rfl (v := ?_) (by rfl) (fun W => ?_) ?_
          rotate_left
          · go_simp
            try rfl
          try simp only [Act.put, List.setIfInBounds_toArray, List.set_cons_zero, List.set_cons_succ]
        refine wpS_e rfl (by rfl) (fun K hK => ?_)
        go_simp
        refine (rt_any (cur.take k) _ _ (by exact HT.out.below HB.out.drew (Nat.le_refl _))).mono ?_
        rintro e2 w2 ⟨rfl, hb2⟩
        have HB2 := Lib.hid (HB.out.drew.trans (hb2.mono HB.out.drew.size))
        have HO2 := Lib.hid (own_at (w := wr.drew) HO.out hb2)
        have hlk2 : path nd e0 l m0 = path nd e0 (cur.drop k) (m - k) ++ (acc ++ [rt (cur.take k)]).reverse := by
          rw [HLK.out, path_right_ cur m (by rw [← HN.out]; exact hlt) (by rw [← HN.out, ← HK.out]; exact hmk), ← HN.out, ← HK.out]; simp
        generalize rt (cur.take k) = x at *
        have HLK2 := Lib.hid hlk2
        clear hlk2 hb2 HB HO HLK
        refine hK _ _ ?_; clear hK K
        try simp only [Act.put, List.setIfInBounds_toArray, List.set_cons_zero, List.set_cons_succ]
        refine wpS_e rfl (by rfl) (fun K hK => ?_)
        refine wp_build_sums 1 _ (by rfl) [x] rfl (by omega) (by omega) (by rfl) ?_
        refine hK _ _ ?_; clear hK K
        try simp only [Act.put, List.setIfInBounds_toArray, List.set_cons_zero, List.set_cons_succ]
        have HB3 := Lib.hid (HB2.out.alloc HB2.out.size (.cells (cellsAll [x]).toArray 24))
        have HX3 : Hid ((w2.alloc (.cells (cellsAll [x]).toArray 24)).rangeAt w2.heap.size 0 (cellsAll [x])) := range_new w2 _ _ _ rfl
        refine wpS_e rfl (by rfl) (fun K hK => ?_)
        refine wp_append_sums _ _ (by rfl) w.heap.size _ acc [x] acc.length 1 rfl rfl (by rfl) (HO2.out.alloc _) w2.heap.size 0 1 (by rfl) HX3.out (by omega) (by omega) HB3.out.size ?_
        intro g4 c4 w4 ho4 hg4 hat4 hlt4
        refine hK _ _ ?_; clear hK K
        try simp only [Act.put, List.setIfInBounds_toArray, List.set_cons_zero, List.set_cons_succ]
        have HB4 := Lib.hid (HB3.out.grown hg4 HB3.out.size (fun k hk => (HO2.out.lt k hk).1))
        have HO4 := Lib.hid ho4
        clear ho4 hg4 hat4 hlt4 HB3 HX3
        iterate 3
          refine wpS_t rfl (v := ?_) (by rfl) (fun W => ?_) ?_
          rotate_left
          · go_simp
            try rfl
          try simp only [Act.put, List.setIfInBounds_toArray, List.set_cons_zero, List.set_cons_succ]
        refine wpS_done ?_
        go_wp2_with fail
        refine ⟨⟨cur.drop k, acc ++ [x], m - k, HD.out, by congr 1, ?_, ?_, ?_, ?_, HB4.out, HLK2.out⟩, ?_⟩
        · rw [List.length_drop]; have := HN.out; omega
        · rw [List.length_drop, List.length_append, List.length_singleton]; have := HN.out; omega
        · rw [List.length_append, List.length_singleton]; exact HO4.out
        · intro h; cases acc <;> cases h
        · simp [lenOf]; omega
    · have hl2 : path nd e0 l m0 = acc.reverse := by rw [HLK.out, path_end cur m (by rw [← HN.out]; omega)]; simp
      have HL2 := Lib.hid hl2
      have HB4 := HB
      have HS4 := Lib.hid (own_new' HO.out HNIL.out)
      clear HLK hl2 HB HO
      go_wp2_with fail
      have hlt4 : (acc).length < 4000000000 := by omega
      refine (reverse_sums _ w.heap.size _ (acc) HS4.out hlt4).mono ?_
      rintro e5 w5 ⟨rfl, hs5, hk5⟩
      have HB5 := Lib.hid (HB4.out.trans (hk5.below HB4.out.size (fun k hk => HS4.out.own k hk)))
      rw [← HL2.out] at hs5
      clear hk5 hlt4 HS4
      go_wp2_with fail
      refine (clip_sums _ _ _ _ hs5).mono ?_
      rintro e6 w6 ⟨v6, rfl, hs6, rfl⟩
      have HS6 := Lib.hid hs6
      clear hs5 hs6
      go_wp2_with fail
      refine bodyPost_ret (results_tmp2 rfl _ _ _) rfl ?_
      exact ⟨_, rfl, HS6.out, HB5.out⟩
end Go.Proofs.Ytdkcndgehgmadaa
