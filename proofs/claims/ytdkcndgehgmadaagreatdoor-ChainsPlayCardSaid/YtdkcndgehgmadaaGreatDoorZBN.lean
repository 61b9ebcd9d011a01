/-
  Joined: CX2, P1.
-/
import Derived.Test.YtdkcndgehgmadaaGreatDoorZAV
import Derived.Test.YtdkcndgehgmadaaGreatDoorZBM
import Derived.Test.YtdkcndgehgmadaaGreatDoorZAQ
-- Walks: chains: Entry, as a list that lies.
open Go Go.RowKit Alm
namespace Go.Proofs.YtdkcndgehgmadaaGreatDoor
theorem ones_each (l : List UInt8) : ∀ x ∈ ones l, x.length = 1 := fun x hx => by
  obtain ⟨b, _, rfl⟩ := List.mem_map.1 hx
  rfl
set_option maxRecDepth 100000 in
theorem clone_lie (w : World) (v : Value) (l : List UInt8) (h : BytesAt w v l) (hl : l.length < 4000000000) : Calls Tryz.prog 113 #[v] w fun e w' => ∃ v', e = .returned v' ∧ Lie w' w.heap.size 1 v' (ones l) ∧ Below w.heap.size w w' := by
  have e1 := @Lib.run_eql_slice_nil Tryz.prog
  obtain ⟨i0, hi0, hz0⟩ := Option.map_eq_some_iff.1 infoByteZ
  simp only [Prod.mk.injEq] at hz0
  have HI := Lib.hid hi0
  have HZ := Lib.hid hz0
  clear hi0 hz0
  obtain ⟨a, cap, rfl, h1, h2, h3⟩ := h
  by_cases hn : l = []
  · subst hn
    cases a with
    | none =>
      go_enter Tryz.func113, Tryz.ntmps113
      go_wp2_with fail
      refine bodyPost_ret (results_tmp rfl _ _ _) rfl ?_
      exact ⟨_, rfl, .inl ⟨rfl, rfl⟩, Below.refl _ _⟩
    | some a =>
      go_enter Tryz.func113, Tryz.ntmps113
      have hown : (w.alloc (.cells #[] 5)).ownsRow w.heap.size 5 1 (.slice (some ⟨w.heap.size, 0, none⟩) 0 0) 0 [] := World.ownsRow_made w #[] 0 (Nat.le_refl _) (by unfold maxLen; omega) rfl
      go_wp2_with (at_builtin; refine wpList_append_zero rfl _ _ rfl w.heap.size i0 HI.out _ _ _ rfl hown _ _ rfl ?_)
      refine bodyPost_ret (results_tmp rfl _ _ _) rfl ?_
      exact ⟨_, rfl, lie_own (xs := ones []) hown rfl (fun x hx => by cases hx), (al (Below.refl _ _) _)⟩
  · obtain ⟨b, o, rfl, hr⟩ := h3.resolve_left hn
    go_enter Tryz.func113, Tryz.ntmps113
    have hr1 := range_below (al (Below.refl _ _) (.cells #[] 5)) hr (range_lt hr (by intro h; have := length_cells8 l; rw [h] at this; exact hn (List.length_eq_zero_iff.1 (by simp at this; omega))))
    have hown : (w.alloc (.cells #[] 5)).ownsRow w.heap.size 5 1 (.slice (some ⟨w.heap.size, 0, none⟩) 0 0) 0 (cells8 []) := World.ownsRow_made w #[] 0 (Nat.le_refl _) (by unfold maxLen; omega) rfl
    have hB := al (Below.refl w.heap.size w) (.cells #[] 5)
    have hpos : 0 < l.length := List.length_pos_iff.2 hn
    obtain ⟨n, hnl⟩ : ∃ n, n = l.length := ⟨_, rfl⟩
    have HN := Lib.hid hnl
    rw [← hnl] at h1 hpos hl ⊢
    clear hnl h3 hr
    go_wp2_with (at_builtin; refine wpList_append_own _ rfl _ _ _ rfl w.heap.size 5 i0 (.int .u8 0) 1 1 Tryz.underlying65 HI.out HZ.out.1 HZ.out.2.1 HZ.out.2.2 rfl (by decide) _ _ _ rfl hown ⟨b, o, none⟩ n cap (cells8 l) rfl (by rw [length_cells8, HN.out]; omega) (fun j u hj => by rw [Addr.add_mid]; exact hr1 j u hj) (oneCell_cells8 _) (by unfold maxLen; omega) (by omega) (by simp) ?_; intro v' w2 ho3 hg3 hat3)
    have ho4 : w2.ownsRow w.heap.size 5 1 v' l.length (cells8 l) := by
      have := ho3
      rw [Nat.zero_add, HN.out] at this
      exact this
    refine bodyPost_ret (results_tmp rfl _ _ _) rfl ?_
    exact ⟨_, rfl, lie_own (xs := ones l) (by rw [ones_flat]; exact ho4) (ones_len l) (ones_each l), hB.grown hg3 (by simp) (fun k hk => by cases hk; exact Nat.le_refl _)⟩
theorem clip_lie (w : World) (base : Nat) (v : Value) (l : List UInt8) (h : Lie w base 1 v (ones l)) : Calls Tryz.prog 119 #[v] w fun e w' => ∃ v', e = .returned v' ∧ Lie w base 1 v' (ones l) ∧ w = w' := by
  rcases h with ⟨rfl, h0⟩ | ⟨g, cap, rfl, h1, h2, h3, h4, h5, h6, h7⟩
  · go_enter Tryz.func119, Tryz.ntmps119
    go_wp2_with fail
    refine bodyPost_ret (results_tmp rfl _ _ _) rfl ?_
    exact ⟨_, rfl, .inl ⟨rfl, h0⟩, rfl⟩
  · have hn : Lie w base 1 (.slice (some ⟨g, 0, none⟩) (ones l).length (ones l).length) (ones l) := .inr ⟨g, _, rfl, h1, h2, Nat.le_refl _, Nat.le_trans h3 h4, h5, fun j hj => h6 j (by omega), h7⟩
    have HN := Lib.hid hn
    clear hn h1 h2 h5 h6 h7
    obtain ⟨n, hn⟩ : ∃ n, n = (ones l).length := ⟨_, rfl⟩
    rw [← hn] at HN h3 ⊢
    clear hn
    have k1 : (n : Int) ≤ (cap : Int) := by omega
    unfold maxLen at h4
    go_enter Tryz.func119, Tryz.ntmps119
    go_wp2_with fail
    refine bodyPost_ret (results_tmp rfl _ _ _) rfl ?_
    exact ⟨_, rfl, HN.out, rfl⟩
set_option maxRecDepth 100000 in
theorem centry_lie (base : Nat) (w : World) (c : Nat) (l : List (List UInt8)) (h : ChainAt base w c l) (k : Nat) (b : List UInt8) (hk : l[k]? = some b) (hb : b.length < 4000000000) :
    Calls Tryz.prog 35 #[.pointer (some ⟨c, 0, none⟩), .int .u64 (k : Int)] w fun e w' => ∃ v, e = .returned (.tuple #[v, .int .i64 0]) ∧ Lie w' w.heap.size 1 v (ones b) ∧ Below w.heap.size w w' := by
  obtain ⟨f, v, vf, es, h2⟩ := h
  obtain ⟨hkl, hkb⟩ := List.getElem?_eq_some_iff.1 hk
  have HZ := Lib.hid (csize_at base _ c l h2.at_)
  have HC0 := Lib.hid h2.c0
  have hc1 := h2.c1
  have hsh := h2.short
  have hkz : ¬ ((l.length : Int) ≤ (k : Int)) := by omega
  have hke : k < es.length := by rw [h2.len]; exact hkl
  have hE := h2.ents k _ b (List.getElem?_eq_getElem hke) hk
  obtain ⟨a, cap, rfl, k1, k2, k3⟩ := h2.form
  obtain ⟨g, rfl, hr⟩ := k3.resolve_left (by intro h0; rw [h0] at hkl; simp at hkl)
  have hx := ents_at hr hke
  rw [Nat.zero_add] at hx
  have hcv := ent_v hx
  have HBY := Lib.hid hE.bytes
  generalize es[k].v = u at *
  have HCL := Lib.hid (clone_lie w u b HBY.out hb)
  clear h2 hx hE hr hk hkb hke
  unfold maxLen at k2
  have hkl' : (k : Int) < (l.length : Int) := by omega
  have hkc : (k : Int) < 4000000000 := by omega
  have hk0 : (0 : Int) ≤ (k : Int) := by omega
  generalize l.length = n at *
  have hd : decide (n ≤ k) = false := decide_eq_false (by omega)
  clear hb
  go_enter Tryz.func35, Tryz.ntmps35
  go_wp2_with (first
    | (go_at_call 112; refine (cnone_live _ c f HC0.out).mono ?_; rintro e w1 ⟨rfl, rfl⟩)
    | (go_at_call 34; refine HZ.out.mono ?_; rintro e w1 ⟨rfl, rfl⟩))
  refine HCL.out.mono ?_
  rintro e w1 ⟨v1, rfl, hN, hB⟩
  have HB := Lib.hid hB
  have HP := Lib.hid (clip_lie w1 _ v1 b hN)
  clear hN hB HCL
  go_wp2_with fail
  refine HP.out.mono ?_
  rintro e w2 ⟨v2, rfl, hN, rfl⟩
  have HN := Lib.hid hN
  clear hN
  go_wp2_with fail
  exact bodyPost_ret (results_tmp2 rfl _ _ _) rfl ⟨_, rfl, HN.out, HB.out⟩
/-- What an entry is told as. -/
def entOf (l : List (List UInt8)) (k : Nat) : List UInt8 := l.getD k []
theorem chain_entry (base : Nat) (w : World) (c : Nat) (l : List (List UInt8)) (h : ChainAt base w c l) (k : Nat) (hb : ∀ x ∈ l, x.length < 4000000000) :
    Calls Tryz.prog 35 #[.pointer (some ⟨c, 0, none⟩), .int .u64 (k : Int)] w fun e w' => ∃ v, e = .returned (.tuple #[v, .int .i64 (if k < l.length then 0 else 1)]) ∧ Lie w' w.heap.size 1 v (ones (entOf l k)) ∧ Below w.heap.size w w' := by
  by_cases hk : k < l.length
  · rw [if_pos hk]
    have he : entOf l k = l[k] := by unfold entOf; rw [List.getD_eq_getElem?_getD, List.getElem?_eq_getElem hk]; rfl
    rw [he]
    exact centry_lie base w c l h k l[k] (List.getElem?_eq_getElem hk) (hb _ (List.getElem_mem hk))
  · rw [if_neg hk]
    have he : entOf l k = [] := by unfold entOf; rw [List.getD_eq_getElem?_getD, List.getElem?_eq_none (by omega)]; rfl
    rw [he]
    refine (centry_arg base w c l h k (by omega)).mono ?_
    rintro e w' ⟨rfl, rfl⟩
    exact ⟨_, rfl, .inl ⟨rfl, rfl⟩, Below.refl _ _⟩
end Go.Proofs.YtdkcndgehgmadaaGreatDoor
-- Walks: paths.Of.
open Go Go.RowKit Alm
namespace Go.Proofs.YtdkcndgehgmadaaGreatDoor
theorem path_end (l : List Sum) (m : Nat) (h : l.length ≤ 1) : path nd e0 l m = [] := by
  rw [path]; simp [h]
theorem path_left_ (l : List Sum) (m : Nat) (h : 1 < l.length) (hk : m < cut l.length) : path nd e0 l m = path nd e0 (l.take (cut l.length)) m ++ [rt (l.drop (cut l.length))] := by
  conv => lhs; rw [path]
  rw [dif_neg (by omega), rt_eq]; simp [hk]
theorem path_right_ (l : List Sum) (m : Nat) (h : 1 < l.length) (hk : ¬ m < cut l.length) : path nd e0 l m = path nd e0 (l.drop (cut l.length)) (m - cut l.length) ++ [rt (l.take (cut l.length))] := by
  conv => lhs; rw [path]
  rw [dif_neg (by omega), rt_eq]; simp [hk]
set_option maxRecDepth 100000 in
set_option maxHeartbeats 2000000 in
theorem pathsOf_any (l : List Sum) (m0 : Nat) (v : Value) (w : World) (hv : SumsAt w v l) (hm2 : m0 < l.length) (hl : l.length < 1000000) : Calls Tryz.prog 9 #[v, .int .i64 (m0 : Int)] w (LinkOf w (path nd e0 l m0)) := by
  have hl0 : l ≠ [] := by intro h; rw [h] at hm2; simp at hm2
  obtain ⟨b0, o0, cap0, rfl, hc1, hc2, hr0⟩ := sums_form hv hl0
  have HV := Lib.hid hv; clear hv
  obtain ⟨n0, hn0⟩ : ∃ n, n = l.length := ⟨_, rfl⟩
  rw [← hn0] at hm2 hl HV hc1 ⊢
  have HN0 := Lib.hid hn0; clear hn0
  have k1 : decide ((m0 : Int) < 0) = false := decide_eq_false (by omega)
  have k2 : decide (n0 ≤ m0) = false := decide_eq_false (by omega)
  have k3 : (m0 : Int) ≤ 1000000 := by omega
  unfold maxLen at hc2
  go_enter Tryz.func9, Tryz.ntmps9
  go_wp2_with fail
  go_loopw [0, 1, 4] (fun lv fv kv W => ∃ (cur acc : List Sum) (m : Nat), SumsAt w lv cur ∧ fv = .int .i64 (m : Int) ∧ m < cur.length ∧ cur.length + acc.length ≤ n0 ∧ W.ownsRow w.heap.size 24 32 kv acc.length (cellsAll acc) ∧ (acc = [] → kv = .slice none 0 0) ∧ Below w.heap.size w W ∧ path nd e0 l m0 = path nd e0 cur m ++ acc.reverse) (fun lv _ _ _ => lenOf lv)
  case atStart => exact ⟨l, [], m0, HV.out, rfl, by have := HN0.out; omega, by rw [← HN0.out]; simp, World.ownsRow_nil _ _ _ _, fun _ => rfl, Below.refl _ _, by simp⟩
  case round =>
    obtain ⟨cur, acc, m, hS, rfl, hmc, hca, ho, hnil, hB, hlk⟩ := hrel
    have hcur : cur ≠ [] := by intro h; rw [h] at hmc; simp at hmc
    obtain ⟨b, o, cap, rfl, hd1, hd2, hr⟩ := sums_form hS hcur
    obtain ⟨n, hn⟩ : ∃ n, n = cur.length := ⟨_, rfl⟩
    rw [← hn] at hmc hca hd1 hS ⊢
    have HN := Lib.hid hn; clear hn
    have HS := Lib.hid hS; clear hS
    have HR := Lib.hid hr; clear hr
    have HO := Lib.hid ho; clear ho
    have HNIL := Lib.hid hnil; clear hnil
    have HB := Lib.hid hB; clear hB
    have HLK := Lib.hid hlk; clear hlk
    unfold maxLen at hd2
    have hm0' : (0 : Int) ≤ (m : Int) := by omega
    have hnn : (n : Int) ≤ 1000000 := by omega
    by_cases hlt : 1 < n
    · have hlt' : (1 : Int) < (n : Int) := by omega
      have hk1 := cut_lt (n := n) (by omega)
      have hk2 := cut_pos n
      obtain ⟨k, hk⟩ : ∃ k, k = cut n := ⟨_, rfl⟩
      rw [← hk] at hk1 hk2
      have HK := Lib.hid hk; clear hk
      have hk1' : (k : Int) < (n : Int) := by omega
      have hk2' : (0 : Int) ≤ (k : Int) := by omega
      have hkc : (k : Int) < (cap : Int) := by omega
      have hkc2 : (k : Int) ≤ (cap : Int) := by omega
      have hkn2 : (k : Int) ≤ (n : Int) := by omega
      have kc4 : ¬ (cap = k) := by omega
      have kc5 : ¬ (k = cap) := by omega
      go_wp2_with fail
      refine (pathsCut_any n _ (by omega) (by omega)).mono ?_
      rw [← HK.out]
      rintro e1 w1 ⟨rfl, rfl⟩
      have HT : Hid (SumsAt w (.slice (some ⟨b, o, none⟩) k cap) (cur.take k)) := sums_take HR.out (by have := HN.out; omega) (by omega) (by unfold maxLen; omega)
      have HD : Hid (SumsAt w (.slice (some ⟨b, o + k * 32, none⟩) (n - k) (cap - k)) (cur.drop k)) := by
        have := sums_drop (k := k) (cap := cap - k) HR.out (by have := HN.out; omega) (by have := HN.out; omega) (by unfold maxLen; omega)
        rw [← HN.out] at this; exact this
      by_cases hmk : m < k
      · have hmk' : (m : Int) < (k : Int) := by omega
        go_wp2_with fail
        refine wp_region_sched (fun _ => True) [.t 0, .t 1, .t 2, .t 3, .t 7, .t 8, .t 9, .e 4 false, .e 5 false, .e 6 false, .t 10, .t 11] (by kernel_rfl) (by kernel_rfl) (by intro c a d v w h; cases d <;> exact h) ?_
        iterate 7
          refine wpS_t rfl (v := ?_) (by rfl) (fun W => ?_) ?_
          rotate_left
          · go_simp
            try rfl
          try simp only [Act.put, List.setIfInBounds_toArray, List.set_cons_zero, List.set_cons_succ]
        refine wpS_e rfl (by rfl) (fun K hK => ?_)
        go_simp
        refine (rt_any (cur.drop k) _ _ (by exact HD.out.below HB.out.drew (Nat.le_refl _))).mono ?_
        rintro e2 w2 ⟨rfl, hb2⟩
        have HB2 := Lib.hid (HB.out.drew.trans (hb2.mono HB.out.drew.size))
        have HO2 := Lib.hid (own_at (w := wr.drew) HO.out hb2)
        have hlk2 : path nd e0 l m0 = path nd e0 (cur.take k) m ++ (acc ++ [rt (cur.drop k)]).reverse := by
          rw [HLK.out, path_left_ cur m (by rw [← HN.out]; exact hlt) (by rw [← HN.out, ← HK.out]; exact hmk), ← HN.out, ← HK.out]; simp
        generalize rt (cur.drop k) = x at *
        have HLK2 := Lib.hid hlk2
        clear hlk2 hb2 HB HO HLK
        refine hK _ _ ?_; clear hK K
        try simp only [Act.put, List.setIfInBounds_toArray, List.set_cons_zero, List.set_cons_succ]
        refine wpS_e rfl (by rfl) (fun K hK => ?_)
        refine wp_build_sums 1 _ (by rfl) [x] rfl (by omega) (by omega) (by rfl) ?_
        refine hK _ _ ?_; clear hK K
        try simp only [Act.put, List.setIfInBounds_toArray, List.set_cons_zero, List.set_cons_succ]
        have HB3 := Lib.hid (HB2.out.alloc HB2.out.size (.cells (cellsAll [x]).toArray 24))
        have HX3 : Hid ((w2.alloc (.cells (cellsAll [x]).toArray 24)).rangeAt w2.heap.size 0 (cellsAll [x])) := range_new w2 _ _ _ rfl
        refine wpS_e rfl (by rfl) (fun K hK => ?_)
        refine wp_append_sums _ _ (by rfl) w.heap.size _ acc [x] acc.length 1 rfl rfl (by rfl) (HO2.out.alloc _) w2.heap.size 0 1 (by rfl) HX3.out (by omega) (by omega) HB3.out.size ?_
        intro g4 c4 w4 ho4 hg4 hat4 hlt4
        refine hK _ _ ?_; clear hK K
        try simp only [Act.put, List.setIfInBounds_toArray, List.set_cons_zero, List.set_cons_succ]
        have HB4 := Lib.hid (HB3.out.grown hg4 HB3.out.size (fun k hk => (HO2.out.lt k hk).1))
        have HO4 := Lib.hid ho4
        clear ho4 hg4 hat4 hlt4 HB3 HX3
        iterate 2
          refine wpS_t rfl (v := ?_) (by rfl) (fun W => ?_) ?_
          rotate_left
          · go_simp
            try rfl
          try simp only [Act.put, List.setIfInBounds_toArray, List.set_cons_zero, List.set_cons_succ]
        refine wpS_done ?_
        go_wp2_with fail
        refine ⟨⟨cur.take k, acc ++ [x], m, HT.out, rfl, ?_, ?_, ?_, ?_, HB4.out, HLK2.out⟩, ?_⟩
        · rw [List.length_take]; have := HN.out; omega
        · rw [List.length_take, List.length_append, List.length_singleton]; have := HN.out; omega
        · rw [List.length_append, List.length_singleton]; exact HO4.out
        · intro h; cases acc <;> cases h
        · simp [lenOf]; omega
      · have hmk' : ¬ (m : Int) < (k : Int) := by omega
        go_wp2_with fail
        refine wp_region_sched (fun _ => True) [.t 0, .t 1, .t 2, .t 3, .t 7, .t 8, .t 9, .t 10, .t 11, .t 12, .e 4 false, .e 5 false, .e 6 false, .t 13, .t 14, .t 15] (by kernel_rfl) (by kernel_rfl) (by intro c a d v w h; cases d <;> exact h) ?_
        iterate 9
          refine wpS_t rfl (v := ?_) (by rfl) (fun W => ?_) ?_
          rotate_left
          · go_simp
            try rfl
          try simp only [Act.put, List.setIfInBounds_toArray, List.set_cons_zero, List.set_cons_succ]
        have wmk : IntKind.i64.wrap ((m : Int) - (k : Int)) = ((m - k : Nat) : Int) := by rw [IntKind.wrap_i64]; omega
        iterate 1
          refine wpS_t rfl (v := ?_) (by rfl) (fun W => ?_) ?_
          rotate_left
          · go_simp
            try rfl
          try simp only [Act.put, List.setIfInBounds_toArray, List.set_cons_zero, List.set_cons_succ]
        refine wpS_e rfl (by rfl) (fun K hK => ?_)
        go_simp
        refine (rt_any (cur.take k) _ _ (by exact HT.out.below HB.out.drew (Nat.le_refl _))).mono ?_
        rintro e2 w2 ⟨rfl, hb2⟩
        have HB2 := Lib.hid (HB.out.drew.trans (hb2.mono HB.out.drew.size))
        have HO2 := Lib.hid (own_at (w := wr.drew) HO.out hb2)
        have hlk2 : path nd e0 l m0 = path nd e0 (cur.drop k) (m - k) ++ (acc ++ [rt (cur.take k)]).reverse := by
          rw [HLK.out, path_right_ cur m (by rw [← HN.out]; exact hlt) (by rw [← HN.out, ← HK.out]; exact hmk), ← HN.out, ← HK.out]; simp
        generalize rt (cur.take k) = x at *
        have HLK2 := Lib.hid hlk2
        clear hlk2 hb2 HB HO HLK
        refine hK _ _ ?_; clear hK K
        try simp only [Act.put, List.setIfInBounds_toArray, List.set_cons_zero, List.set_cons_succ]
        refine wpS_e rfl (by rfl) (fun K hK => ?_)
        refine wp_build_sums 1 _ (by rfl) [x] rfl (by omega) (by omega) (by rfl) ?_
        refine hK _ _ ?_; clear hK K
        try simp only [Act.put, List.setIfInBounds_toArray, List.set_cons_zero, List.set_cons_succ]
        have HB3 := Lib.hid (HB2.out.alloc HB2.out.size (.cells (cellsAll [x]).toArray 24))
        have HX3 : Hid ((w2.alloc (.cells (cellsAll [x]).toArray 24)).rangeAt w2.heap.size 0 (cellsAll [x])) := range_new w2 _ _ _ rfl
        refine wpS_e rfl (by rfl) (fun K hK => ?_)
        refine wp_append_sums _ _ (by rfl) w.heap.size _ acc [x] acc.length 1 rfl rfl (by rfl) (HO2.out.alloc _) w2.heap.size 0 1 (by rfl) HX3.out (by omega) (by omega) HB3.out.size ?_
        intro g4 c4 w4 ho4 hg4 hat4 hlt4
        refine hK _ _ ?_; clear hK K
        try simp only [Act.put, List.setIfInBounds_toArray, List.set_cons_zero, List.set_cons_succ]
        have HB4 := Lib.hid (HB3.out.grown hg4 HB3.out.size (fun k hk => (HO2.out.lt k hk).1))
        have HO4 := Lib.hid ho4
        clear ho4 hg4 hat4 hlt4 HB3 HX3
        iterate 3
          refine wpS_t rfl (v := ?_) (by rfl) (fun W => ?_) ?_
          rotate_left
          · go_simp
            try rfl
          try simp only [Act.put, List.setIfInBounds_toArray, List.set_cons_zero, List.set_cons_succ]
        refine wpS_done ?_
        go_wp2_with fail
        refine ⟨⟨cur.drop k, acc ++ [x], m - k, HD.out, by congr 1, ?_, ?_, ?_, ?_, HB4.out, HLK2.out⟩, ?_⟩
        · rw [List.length_drop]; have := HN.out; omega
        · rw [List.length_drop, List.length_append, List.length_singleton]; have := HN.out; omega
        · rw [List.length_append, List.length_singleton]; exact HO4.out
        · intro h; cases acc <;> cases h
        · simp [lenOf]; omega
    · have hl2 : path nd e0 l m0 = acc.reverse := by rw [HLK.out, path_end cur m (by rw [← HN.out]; omega)]; simp
      have HL2 := Lib.hid hl2
      have HB4 := HB
      have HS4 := Lib.hid (own_new' HO.out HNIL.out)
      clear HLK hl2 HB HO
      go_wp2_with fail
      have hlt4 : (acc).length < 4000000000 := by omega
      refine (reverse_sums _ w.heap.size _ (acc) HS4.out hlt4).mono ?_
      rintro e5 w5 ⟨rfl, hs5, hk5⟩
      have HB5 := Lib.hid (HB4.out.trans (hk5.below HB4.out.size (fun k hk => HS4.out.own k hk)))
      rw [← HL2.out] at hs5
      clear hk5 hlt4 HS4
      go_wp2_with fail
      refine (clip_sums _ _ _ _ hs5).mono ?_
      rintro e6 w6 ⟨v6, rfl, hs6, rfl⟩
      have HS6 := Lib.hid hs6
      clear hs5 hs6
      go_wp2_with fail
      refine bodyPost_ret (results_tmp2 rfl _ _ _) rfl ?_
      exact ⟨_, rfl, HS6.out, HB5.out⟩
end Go.Proofs.YtdkcndgehgmadaaGreatDoor
