/-
  Joined: P1, P2, P3, P4.
-/
import Derived.Test.YtdkcndgehgmadaaGreatDoorZGA
import Derived.WalkLawsBesides
import Derived.Test.YtdkcndgehgmadaaGreatDoorE0
import Derived.Test.YtdkcndgehgmadaaGreatDoorSched2
import Derived.Recover
-- Walks: paths.Of.
open Go Go.RowKit Alm
namespace Go.Proofs.YtdkcndgehgmadaaGreatDoor
theorem path_end (l : List Sum) (m : Nat) (h : l.length ≤ 1) : path nd e0 l m = [] := by
  rw [path]; simp [h]
theorem path_left_ (l : List Sum) (m : Nat) (h : 1 < l.length) (hk : m < cut l.length) : path nd e0 l m = path nd e0 (l.take (cut l.length)) m ++ [rt (l.drop (cut l.length))] := by
  conv => lhs; rw [path]
  rw [dif_neg (by omega), rt_eq]; simp [hk]
theorem path_right_ (l : List Sum) (m : Nat) (h : 1 < l.length) (hk : ¬ m < cut l.length) : path nd e0 l m = path nd e0 (l.drop (cut l.length)) (m - cut l.length) ++ [rt (l.take (cut l.length))] := by
  conv => lhs; rw [path]
  rw [dif_neg (by omega), rt_eq]; simp [hk]
set_option maxRecDepth 100000 in
set_option maxHeartbeats 2000000 in
theorem pathsOf_any (l : List Sum) (m0 : Nat) (v : Value) (w : World) (hv : SumsAt w v l) (hm2 : m0 < l.length) (hl : l.length < 1000000) : Calls Tryz.prog 9 #[v, .int .i64 (m0 : Int)] w (LinkOf w (path nd e0 l m0)) := by
  have hl0 : l ≠ [] := by intro h; rw [h] at hm2; simp at hm2
  obtain ⟨b0, o0, cap0, rfl, hc1, hc2, hr0⟩ := sums_form hv hl0
  have HV := Lib.hid hv; clear hv
  obtain ⟨n0, hn0⟩ : ∃ n, n = l.length := ⟨_, rfl⟩
  rw [← hn0] at hm2 hl HV hc1 ⊢
  have HN0 := Lib.hid hn0; clear hn0
  have k1 : decide ((m0 : Int) < 0) = false := decide_eq_false (by omega)
  have k2 : decide (n0 ≤ m0) = false := decide_eq_false (by omega)
  have k3 : (m0 : Int) ≤ 1000000 := by omega
  unfold maxLen at hc2
  go_enter Tryz.func9, Tryz.ntmps9
  go_wp2_with fail
  go_loopw [0, 1, 4] (fun lv fv kv W => ∃ (cur acc : List Sum) (m : Nat), SumsAt w lv cur ∧ fv = .int .i64 (m : Int) ∧ m < cur.length ∧ cur.length + acc.length ≤ n0 ∧ W.ownsRow w.heap.size 24 32 kv acc.length (cellsAll acc) ∧ (acc = [] → kv = .slice none 0 0) ∧ Below w.heap.size w W ∧ path nd e0 l m0 = path nd e0 cur m ++ acc.reverse) (fun lv _ _ _ => lenOf lv)
  case atStart => exact ⟨l, [], m0, HV.out, rfl, by have := HN0.out; omega, by rw [← HN0.out]; simp, World.ownsRow_nil _ _ _ _, fun _ => rfl, Below.refl _ _, by simp⟩
  case round =>
    obtain ⟨cur, acc, m, hS, rfl, hmc, hca, ho, hnil, hB, hlk⟩ := hrel
    have hcur : cur ≠ [] := by intro h; rw [h] at hmc; simp at hmc
    obtain ⟨b, o, cap, rfl, hd1, hd2, hr⟩ := sums_form hS hcur
    obtain ⟨n, hn⟩ : ∃ n, n = cur.length := ⟨_, rfl⟩
    rw [← hn] at hmc hca hd1 hS ⊢
    have HN := Lib.hid hn; clear hn
    have HS := Lib.hid hS; clear hS
    have HR := Lib.hid hr; clear hr
    have HO := Lib.hid ho; clear ho
    have HNIL := Lib.hid hnil; clear hnil
    have HB := Lib.hid hB; clear hB
    have HLK := Lib.hid hlk; clear hlk
    unfold maxLen at hd2
    have hm0' : (0 : Int) ≤ (m : Int) := by omega
    have hnn : (n : Int) ≤ 1000000 := by omega
    by_cases hlt : 1 < n
    · have hlt' : (1 : Int) < (n : Int) := by omega
      have hk1 := cut_lt (n := n) (by omega)
      have hk2 := cut_pos n
      obtain ⟨k, hk⟩ : ∃ k, k = cut n := ⟨_, rfl⟩
      rw [← hk] at hk1 hk2
      have HK := Lib.hid hk; clear hk
      have hk1' : (k : Int) < (n : Int) := by omega
      have hk2' : (0 : Int) ≤ (k : Int) := by omega
      have hkc : (k : Int) < (cap : Int) := by omega
      have hkc2 : (k : Int) ≤ (cap : Int) := by omega
      have hkn2 : (k : Int) ≤ (n : Int) := by omega
      have kc4 : ¬ (cap = k) := by omega
      have kc5 : ¬ (k = cap) := by omega
      go_wp2_with fail
      refine (pathsCut_any n _ (by omega) (by omega)).mono ?_
      rw [← HK.out]
      rintro e1 w1 ⟨rfl, rfl⟩
      have HT : Hid (SumsAt w (.slice (some ⟨b, o, none⟩) k cap) (cur.take k)) := sums_take HR.out (by have := HN.out; omega) (by omega) (by unfold maxLen; omega)
      have HD : Hid (SumsAt w (.slice (some ⟨b, o + k * 32, none⟩) (n - k) (cap - k)) (cur.drop k)) := by
        have := sums_drop (k := k) (cap := cap - k) HR.out (by have := HN.out; omega) (by have := HN.out; omega) (by unfold maxLen; omega)
        rw [← HN.out] at this; exact this
      by_cases hmk : m < k
      · have hmk' : (m : Int) < (k : Int) := by omega
        go_wp2_with fail
        refine wp_region_sched (fun _ => True) [.t 0, .t 1, .t 2, .t 3, .t 7, .t 8, .t 9, .e 4 false, .e 5 false, .e 6 false, .t 10, .t 11] (by kernel_rfl) (by kernel_rfl) (by intro c a d v w h; cases d <;> exact h) ?_
        iterate 7
          refine wpS_t rfl (v := ?_) (by rfl) (fun W => ?_) ?_
          rotate_left
          · go_simp
            try rfl
          try simp only [Act.put, List.setIfInBounds_toArray, List.set_cons_zero, List.set_cons_succ]
        refine wpS_e rfl (by rfl) (fun K hK => ?_)
        go_simp
        refine (rt_any (cur.drop k) _ _ (by exact HD.out.below HB.out.drew (Nat.le_refl _))).mono ?_
        rintro e2 w2 ⟨rfl, hb2⟩
        have HB2 := Lib.hid (HB.out.drew.trans (hb2.mono HB.out.drew.size))
        have HO2 := Lib.hid (own_at (w := wr.drew) HO.out hb2)
        have hlk2 : path nd e0 l m0 = path nd e0 (cur.take k) m ++ (acc ++ [rt (cur.drop k)]).reverse := by
          rw [HLK.out, path_left_ cur m (by rw [← HN.out]; exact hlt) (by rw [← HN.out, ← HK.out]; exact hmk), ← HN.out, ← HK.out]; simp
        generalize rt (cur.drop k) = x at *
        have HLK2 := Lib.hid hlk2
        clear hlk2 hb2 HB HO HLK
        refine hK _ _ ?_; clear hK K
        try simp only [Act.put, List.setIfInBounds_toArray, List.set_cons_zero, List.set_cons_succ]
        refine wpS_e rfl (by rfl) (fun K hK => ?_)
        refine wp_build_sums 1 _ (by rfl) [x] rfl (by omega) (by omega) (by rfl) ?_
        refine hK _ _ ?_; clear hK K
        try simp only [Act.put, List.setIfInBounds_toArray, List.set_cons_zero, List.set_cons_succ]
        have HB3 := Lib.hid (HB2.out.alloc HB2.out.size (.cells (cellsAll [x]).toArray 24))
        have HX3 : Hid ((w2.alloc (.cells (cellsAll [x]).toArray 24)).rangeAt w2.heap.size 0 (cellsAll [x])) := range_new w2 _ _ _ rfl
        refine wpS_e rfl (by rfl) (fun K hK => ?_)
        refine wp_append_sums _ _ (by rfl) w.heap.size _ acc [x] acc.length 1 rfl rfl (by rfl) (HO2.out.alloc _) w2.heap.size 0 1 (by rfl) HX3.out (by omega) (by omega) HB3.out.size ?_
        intro g4 c4 w4 ho4 hg4 hat4 hlt4
        refine hK _ _ ?_; clear hK K
        try simp only [Act.put, List.setIfInBounds_toArray, List.set_cons_zero, List.set_cons_succ]
        have HB4 := Lib.hid (HB3.out.grown hg4 HB3.out.size (fun k hk => (HO2.out.lt k hk).1))
        have HO4 := Lib.hid ho4
        clear ho4 hg4 hat4 hlt4 HB3 HX3
        iterate 2
          refine wpS_t rfl (v := ?_) (by rfl) (fun W => ?_) ?_
          rotate_left
          · go_simp
            try rfl
          try simp only [Act.put, List.setIfInBounds_toArray, List.set_cons_zero, List.set_cons_succ]
        refine wpS_done ?_
        go_wp2_with fail
        refine ⟨⟨cur.take k, acc ++ [x], m, HT.out, rfl, ?_, ?_, ?_, ?_, HB4.out, HLK2.out⟩, ?_⟩
        · rw [List.length_take]; have := HN.out; omega
        · rw [List.length_take, List.length_append, List.length_singleton]; have := HN.out; omega
        · rw [List.length_append, List.length_singleton]; exact HO4.out
        · intro h; cases acc <;> cases h
        · simp [lenOf]; omega
      · have hmk' : ¬ (m : Int) < (k : Int) := by omega
        go_wp2_with fail
        refine wp_region_sched (fun _ => True) [.t 0, .t 1, .t 2, .t 3, .t 7, .t 8, .t 9, .t 10, .t 11, .t 12, .e 4 false, .e 5 false, .e 6 false, .t 13, .t 14, .t 15] (by kernel_rfl) (by kernel_rfl) (by intro c a d v w h; cases d <;> exact h) ?_
        iterate 9
          refine wpS_t rfl (v := ?_) (by rfl) (fun W => ?_) ?_
          rotate_left
          · go_simp
            try rfl
          try simp only [Act.put, List.setIfInBounds_toArray, List.set_cons_zero, List.set_cons_succ]
        have wmk : IntKind.i64.wrap ((m : Int) - (k : Int)) = ((m - k : Nat) : Int) := by rw [IntKind.wrap_i64]; omega
        iterate 1
          refine wpS_t rfl (v := ?_) (by rfl) (fun W => ?_) ?_
          rotate_left
          · go_simp
            try rfl
          try simp only [Act.put, List.setIfInBounds_toArray, List.set_cons_zero, List.set_cons_succ]
        refine wpS_e rfl (by rfl) (fun K hK => ?_)
        go_simp
        refine (rt_any (cur.take k) _ _ (by exact HT.out.below HB.out.drew (Nat.le_refl _))).mono ?_
        rintro e2 w2 ⟨rfl, hb2⟩
        have HB2 := Lib.hid (HB.out.drew.trans (hb2.mono HB.out.drew.size))
        have HO2 := Lib.hid (own_at (w := wr.drew) HO.out hb2)
        have hlk2 : path nd e0 l m0 = path nd e0 (cur.drop k) (m - k) ++ (acc ++ [rt (cur.take k)]).reverse := by
          rw [HLK.out, path_right_ cur m (by rw [← HN.out]; exact hlt) (by rw [← HN.out, ← HK.out]; exact hmk), ← HN.out, ← HK.out]; simp
        generalize rt (cur.take k) = x at *
        have HLK2 := Lib.hid hlk2
        clear hlk2 hb2 HB HO HLK
        refine hK _ _ ?_; clear hK K
        try simp only [Act.put, List.setIfInBounds_toArray, List.set_cons_zero, List.set_cons_succ]
        refine wpS_e rfl (by rfl) (fun K hK => ?_)
        refine wp_build_sums 1 _ (by rfl) [x] rfl (by omega) (by omega) (by rfl) ?_
        refine hK _ _ ?_; clear hK K
        try simp only [Act.put, List.setIfInBounds_toArray, List.set_cons_zero, List.set_cons_succ]
        have HB3 := Lib.hid (HB2.out.alloc HB2.out.size (.cells (cellsAll [x]).toArray 24))
        have HX3 : Hid ((w2.alloc (.cells (cellsAll [x]).toArray 24)).rangeAt w2.heap.size 0 (cellsAll [x])) := range_new w2 _ _ _ rfl
        refine wpS_e rfl (by rfl) (fun K hK => ?_)
        refine wp_append_sums _ _ (by rfl) w.heap.size _ acc [x] acc.length 1 rfl rfl (by rfl) (HO2.out.alloc _) w2.heap.size 0 1 (by rfl) HX3.out (by omega) (by omega) HB3.out.size ?_
        intro g4 c4 w4 ho4 hg4 hat4 hlt4
        refine hK _ _ ?_; clear hK K
        try simp only [Act.put, List.setIfInBounds_toArray, List.set_cons_zero, List.set_cons_succ]
        have HB4 := Lib.hid (HB3.out.grown hg4 HB3.out.size (fun k hk => (HO2.out.lt k hk).1))
        have HO4 := Lib.hid ho4
        clear ho4 hg4 hat4 hlt4 HB3 HX3
        iterate 3
          refine wpS_t rfl (v := ?_) (by rfl) (fun W => ?_) ?_
          rotate_left
          · go_simp
            try rfl
          try simp only [Act.put, List.setIfInBounds_toArray, List.set_cons_zero, List.set_cons_succ]
        refine wpS_done ?_
        go_wp2_with fail
        refine ⟨⟨cur.drop k, acc ++ [x], m - k, HD.out, by congr 1, ?_, ?_, ?_, ?_, HB4.out, HLK2.out⟩, ?_⟩
        · rw [List.length_drop]; have := HN.out; omega
        · rw [List.length_drop, List.length_append, List.length_singleton]; have := HN.out; omega
        · rw [List.length_append, List.length_singleton]; exact HO4.out
        · intro h; cases acc <;> cases h
        · simp [lenOf]; omega
    · have hl2 : path nd e0 l m0 = acc.reverse := by rw [HLK.out, path_end cur m (by rw [← HN.out]; omega)]; simp
      have HL2 := Lib.hid hl2
      have HB4 := HB
      have HS4 := Lib.hid (own_new' HO.out HNIL.out)
      clear HLK hl2 HB HO
      go_wp2_with fail
      have hlt4 : (acc).length < 4000000000 := by omega
      refine (reverse_sums _ w.heap.size _ (acc) HS4.out hlt4).mono ?_
      rintro e5 w5 ⟨rfl, hs5, hk5⟩
      have HB5 := Lib.hid (HB4.out.trans (hk5.below HB4.out.size (fun k hk => HS4.out.own k hk)))
      rw [← HL2.out] at hs5
      clear hk5 hlt4 HS4
      go_wp2_with fail
      refine (clip_sums _ _ _ _ hs5).mono ?_
      rintro e6 w6 ⟨v6, rfl, hs6, rfl⟩
      have HS6 := Lib.hid hs6
      clear hs5 hs6
      go_wp2_with fail
      refine bodyPost_ret (results_tmp2 rfl _ _ _) rfl ?_
      exact ⟨_, rfl, HS6.out, HB5.out⟩
end Go.Proofs.YtdkcndgehgmadaaGreatDoor
-- Walks: paths.Check's 'next'.
open Go Go.RowKit Alm
namespace Go.Proofs.YtdkcndgehgmadaaGreatDoor
/-- What paths.Check's 'next' panics with. -/
abbrev few : List PanicEntry := [{ v := .iface 9 (.string ⟨#[116, 111, 111, 32, 102, 101, 119]⟩), recovered := false }]
/-- What next comes to. -/
def PNextOf (B : Nat) (w : World) (c : Nat) (l : List Sum) (e : Ending) (w' : World) : Prop :=
  match l with
  | [] => e = .panicked few ∧ Below w.heap.size w w'
  | s :: r => e = .returned (sv s) ∧ LeftAt B w' c r ∧ Keeps (· = c) w w'
set_option maxRecDepth 100000 in
set_option maxHeartbeats 1000000 in
theorem pnext_any (B : Nat) (w : World) (c : Nat) (l : List Sum) (h : LeftAt B w c l) : Calls Tryz.prog 67 #[.pointer (some ⟨c, 0, none⟩)] w (PNextOf B w c l) := by
  have hc := h.lt
  obtain ⟨v, h1, h2, h3⟩ := h
  have h0 : w.cell? ⟨c, 0, none⟩ = some v := by rw [cell_of_row w c _ _ _ (0, 0) h1]; rfl
  have R0 : Res w 32 (w.alloc (.cells (cells8 (List.replicate 32 0)).toArray 24)) := Res.start _ _ _ _ (by rfl)
  cases l with
  | nil =>
    obtain ⟨a, cap, rfl, _, _, _⟩ := h2
    have hfin : PNextOf B w c [] (.panicked few) (w.alloc (.cells (cells8 (List.replicate 32 0)).toArray 24)) := ⟨rfl, R0.below⟩
    have HF := Lib.hid hfin; clear hfin
    clear h1 h3
    go_enter Tryz.func67, Tryz.ntmps67
    go_wp2_with fail
    exact ⟨rfl, HF.out⟩
  | cons s r =>
    obtain ⟨b, o, cap, rfl, hc1, hc2, hr⟩ := sums_form h2 (by simp)
    have hbc : b ≠ c := (h3 (by simp) b rfl).1
    have HBB := Lib.hid (h3 (by simp) b rfl).2
    have hs := range_at hr (i := 0) (by simp)
    rw [Nat.zero_mul, Nat.add_zero] at hs
    have hs : w.rangeAt b o (cellsOf s) := hs
    have hrr := range_drop hr 1 (by simp)
    rw [Nat.one_mul] at hrr
    have hrr : w.rangeAt b (o + 32) (cellsAll r) := hrr
    have hb : b < w.heap.size := range_lt hs (by intro h; have := length_cellsOf s; rw [h] at this; cases this)
    simp only [List.length_cons] at hc1 h0 h1 ⊢
    obtain ⟨n, hn⟩ : ∃ n, n = r.length := ⟨_, rfl⟩
    rw [← hn] at hc1 h0 h1
    have HN := Lib.hid hn; clear hn
    have HH := Lib.hid h1; clear h1
    have HS := Lib.hid hs; clear hs hr h2 h3
    have HRR := Lib.hid hrr; clear hrr
    unfold maxLen at hc2
    have n1 : (1 : Int) ≤ (n : Int) + 1 := by omega
    have n2 : (n : Int) + 1 ≤ (cap : Int) := by omega
    have n3 : (1 : Int) ≤ (cap : Int) := by omega
    have hne : ((n : Int) + 1 == 0) = false := by rw [beq_eq_false_iff_ne]; omega
    have hpos : (0 : Int) < (n : Int) + 1 := by omega
    go_enter Tryz.func67, Tryz.ntmps67
    go_wp2_with fail
    have hb0 : Below w.heap.size w (w.alloc (.cells (cells8 (List.replicate 32 0)).toArray 24)).drew := R0.drew.below
    have ht0 : (w.alloc (.cells (cells8 (List.replicate 32 0)).toArray 24)).drew.there w.heap.size 0 32 := R0.drew.there
    refine wp_region_sched (fun W => W.cell? ⟨c, 0, none⟩ = some (.slice (some ⟨b, o, none⟩) (n + 1) cap) ∧ W.rangeAt b o (cellsOf s)) [.s 0, .t 1, .s 2, .s 3, .t 4, .e 5 true, .e 6 false] (by kernel_rfl) (by kernel_rfl) (by intro c a d v w h; cases d <;> exact h) ?_
    change wpS _ _ _ _ _ _ _ (w.alloc (.cells (cells8 (List.replicate 32 0)).toArray 24)).drew
    generalize (w.alloc (.cells (cells8 (List.replicate 32 0)).toArray 24)).drew = W0 at *
    have HB0 := Lib.hid hb0; clear hb0 R0
    have HT0 := Lib.hid ht0; clear ht0
    have HC0 := Lib.hid ((HB0.out.cell (p := ⟨c, 0, none⟩) hc).trans h0)
    have HS0 := Lib.hid (range_below HB0.out HS.out hb)
    refine wpS_s (by exact ⟨HC0.out, HS0.out⟩) rfl (v := ?_) (by rfl) (fun W hSW => ?_) ?_
    rotate_left
    · go_simp
      try rfl
    try simp only [Act.put, List.setIfInBounds_toArray, List.set_cons_zero, List.set_cons_succ]
    iterate 1
      refine wpS_t rfl (v := ?_) (by rfl) (fun W => ?_) ?_
      rotate_left
      · go_simp
        try rfl
      try simp only [Act.put, List.setIfInBounds_toArray, List.set_cons_zero, List.set_cons_succ]
    refine wpS_load_sum (by exact ⟨HC0.out, HS0.out⟩) rfl (by rfl) _ (by rfl) b o (by rfl) s (fun W hW => hW.2) ?_
    try simp only [Act.put, List.setIfInBounds_toArray, List.set_cons_zero, List.set_cons_succ]
    refine wpS_s (by exact ⟨HC0.out, HS0.out⟩) rfl (v := ?_) (by rfl) (fun W hSW => ?_) ?_
    rotate_left
    · go_simp
      try rfl
    try simp only [Act.put, List.setIfInBounds_toArray, List.set_cons_zero, List.set_cons_succ]
    clear hs hrr
    obtain ⟨o1, ho1, hS1⟩ : ∃ o1, (if cap = 1 then o else o + 32) = o1 ∧ ∀ W, W.rangeAt b (o + 32) (cellsAll r) → SumsAt W (.slice (some ⟨b, o1, none⟩) n (cap - 1)) r := by
      refine ⟨_, rfl, fun W hW => ?_⟩
      by_cases hcap : cap = 1
      · rw [if_pos hcap]
        have : r = [] := List.length_eq_zero_iff.1 (by have := HN.out; omega)
        exact ⟨_, cap - 1, by rw [HN.out], by rw [← HN.out]; omega, by unfold maxLen; omega, .inl this⟩
      · rw [if_neg hcap]
        exact ⟨_, cap - 1, by rw [HN.out], by rw [← HN.out]; omega, by unfold maxLen; omega, .inr ⟨b, o + 32, rfl, hW⟩⟩
    have HS1 := Lib.hid hS1; clear hS1
    have hsl : ∀ W : World, (Instr.slice 22 (.slice (some ⟨b, o, none⟩) (n + 1) cap) (some (.int .i64 1)) none none).run Tryz.prog W = .ok (.slice (some ⟨b, o1, none⟩) n (cap - 1)) W := by
      intro W
      by_cases hcap : cap = 1
      · have hn0 : n = 0 := by omega
        rw [if_pos hcap] at ho1
        subst hcap hn0 ho1
        go_simp
      · rw [if_neg hcap] at ho1
        subst ho1
        have kc4 : ¬ (cap = 1) := hcap
        go_simp
    clear ho1
    iterate 1
      refine wpS_t rfl (v := ?_) (by rfl) (fun W => ?_) ?_
      rotate_left
      · go_simp
        try rfl
      try simp only [Act.put, List.setIfInBounds_toArray, List.set_cons_zero, List.set_cons_succ]
    clear hsl
    have hcw : c ≠ w.heap.size := Nat.ne_of_lt hc
    have hbw : b ≠ w.heap.size := Nat.ne_of_lt hb
    refine wpS_k rfl (by rfl) (fun K hK => ?_)
    refine wp_store_sum _ _ (by rfl) w.heap.size 0 s (by rfl) (by rfl) HT0.out ?_
    have hk1 := keeps_setCells_ w.heap.size (cellsOf s) 0 W0
    have HR1 := Lib.hid (range_stored w.heap.size (cellsOf s) 0 W0 (by rw [length_cellsOf]; exact World.there_setCells HT0.out _ _ _))
    have HT1 := Lib.hid (World.there_setCells HT0.out w.heap.size 0 (cellsOf s))
    have HC1 := Lib.hid (hk1.cell HC0.out (by exact hcw))
    have HS1' := Lib.hid (hk1.range HS0.out (by exact hbw))
    have HB1 := Lib.hid (setCells_below w.heap.size (Nat.le_refl _) (cellsOf s) 0 w W0 HB0.out)
    generalize W0.setCells w.heap.size 0 (cellsOf s) = W1 at *
    refine hK _ _ ⟨by exact ⟨HC1.out, HS1'.out⟩, ?_⟩; clear hK K
    try simp only [Act.put]
    refine wpS_e rfl (by rfl) (fun K hK => ?_)
    have hh1 : W1.heap[c]? = some (.cells #[.slice (some ⟨b, o, none⟩) (n + 1) cap] 22 (0, 0)) := (HB1.out.block c hc).trans HH.out
    have HH1 := Lib.hid hh1
    have hc1' : W1.cell? ⟨c, 0, none⟩ = some (.slice (some ⟨b, o, none⟩) (n + 1) cap) := HC1.out
    have hf1 : W1.frozen? ⟨c, 0, none⟩ = false := frozen_of_row W1 c _ _ _ hh1
    clear hh1 hk1
    go_simp
    have hk2 : Keeps (· = c) W1 (W1.setCell ⟨c, 0, none⟩ (.slice (some ⟨b, o1, none⟩) n (cap - 1))) := (Keeps.refl (· = c) W1).setCell (p := ⟨c, 0, none⟩) (.inl rfl) _
    have HH2 := Lib.hid (heap_setCell_same W1 c 0 _ _ (.slice (some ⟨b, o1, none⟩) n (cap - 1)) HH1.out)
    have HR2 := Lib.hid (hk2.range HR1.out (fun h => hcw h.symm))
    have HT2 := Lib.hid (hk2.there HT1.out (by omega) (fun h => hcw h.symm))
    have HS2 := Lib.hid (hk2.range (range_below HB1.out HRR.out hb) hbc)
    have HK2 := Lib.hid ((Keeps.of_below (X := (· = c)) HB1.out).trans hk2)
    generalize W1.setCell ⟨c, 0, none⟩ (.slice (some ⟨b, o1, none⟩) n (cap - 1)) = W2 at *
    clear hc1' hf1 hk2
    refine hK _ _ ?_; clear hK K
    try simp only [Act.put, List.setIfInBounds_toArray, List.set_cons_zero, List.set_cons_succ]
    refine wpS_done ?_
    go_wp2_with (first
      | (refine wpList_load_sum rfl _ rfl w.heap.size 0 rfl s HR2.out ?_)
      | (refine wpList_store_sum rfl _ _ rfl w.heap.size 0 s rfl rfl HT2.out ?_))
    have hk3 := keeps_setCells_ w.heap.size (cellsOf s) 0 W2
    refine bodyPost_ret (results_sum Tryz.results67 _ _ _ _ rfl (World.there_setCells HT2.out _ _ _)) rfl ?_
    refine ⟨rfl, ⟨.slice (some ⟨b, o1, none⟩) n (cap - 1), hk3.heap (by simpa using HH2.out) (by exact hcw), HS1.out _ (hk3.range HS2.out (by exact hbw)), fun _ k hk => by
      have : b = k := by simpa [Value.ownBlock] using hk
      exact this ▸ ⟨hbc, HBB.out⟩⟩, HK2.out.trans' hk3 (fun i hi => .inr (by omega))⟩
end Go.Proofs.YtdkcndgehgmadaaGreatDoor
-- Walks: paths.Check's 'leads'.
open Go Go.RowKit Alm
namespace Go.Proofs.YtdkcndgehgmadaaGreatDoor
/-- The functions' words, in variables. -/
abbrev pnextFn (c : Nat) : Value := .func (.func 67) #[] #[.pointer (some ⟨c, 0, none⟩)]
abbrev pleadsFn (A L N : Nat) : Value := .func (.func 68) #[] #[.pointer (some ⟨A, 0, none⟩), .pointer (some ⟨L, 0, none⟩), .pointer (some ⟨N, 0, none⟩)]
/-- What leads comes to. -/
def PLeadsOf (w0 : World) (B : Nat) (c : Nat) (r : Option (Sum × List Sum)) (e : Ending) (w' : World) : Prop :=
  Keeps (· = c) w0 w' ∧ match r with
  | some (s, rest) => e = .returned (sv s) ∧ LeftAt B w' c rest
  | none => e = .panicked few
/-- What leads has before it. -/
structure PLeadsIn (w : World) (A N L c : Nat) (a : Sum) : Prop where
  sum : w.rangeAt A 0 (cellsOf a)
  next : w.cell? ⟨N, 0, none⟩ = some (pnextFn c)
  self : w.cell? ⟨L, 0, none⟩ = some (pleadsFn A L N)
  nA : A ≠ c
  nN : N ≠ c
  nL : L ≠ c
theorem PLeadsIn.keep {w w' : World} {A N L c : Nat} {a : Sum} (h : PLeadsIn w A N L c a) (k : Keeps (· = c) w w') : PLeadsIn w' A N L c a :=
  ⟨k.range h.sum h.nA, k.cell h.next h.nN, k.cell h.self h.nL, h.nA, h.nN, h.nL⟩
theorem PNextOf.keeps {B : Nat} {w w' : World} {c : Nat} {l : List Sum} {e : Ending} (h : PNextOf B w c l e w') : Keeps (· = c) w w' := by
  cases l with
  | nil => exact .of_below h.2
  | cons s r => exact h.2.2
/-- A load of a function's word, whatever its type. -/
theorem wp_load_fnp {o : Oper} {a : Act} {w : World} {K : Act → World → Prop} {Q : Exit → Act → World → Prop} (x : Operand) (ho : o.op = .load 52 x)
    (b : Nat) (v : Value) (hx : a.eval x = .pointer (some ⟨b, 0, none⟩)) (hc : w.cell? ⟨b, 0, none⟩ = some v) (h : K (a.put o.dst v) w) : o.wp Tryz.prog a w K Q := by
  unfold Oper.wp execOp
  simp only [ho, hx]
  go_simp
  exact h
theorem exec_load_fnp {f : Operand → Value} {o : Oper} (x : Operand) (ho : o.op = .load 52 x) (b : Nat) (v : Value) (hx : f x = .pointer (some ⟨b, 0, none⟩)) (W : World) (hc : W.cell? ⟨b, 0, none⟩ = some v) :
    (execOp f o).run Tryz.prog W = .ok (.value v) W := by
  unfold execOp
  simp only [ho, hx]
  go_simp
theorem wpList_load_pleads {ops : Array Oper} {rest : List Oper} {op : Oper} {a : Act} {w : World} {Q : Exit → Act → World → Prop} (hgd : op.guard = none) (x : Operand) (ho : op.op = .load 98 x)
    (b : Nat) (v : Value) (hx : a.eval x = .pointer (some ⟨b, 0, none⟩)) (hc : w.cell? ⟨b, 0, none⟩ = some v)
    (h : wpList Tryz.prog ops Q rest (a.put op.dst v) w) : wpList Tryz.prog ops Q (op :: rest) a w :=
  wpList_plain hgd fun _ hK => by
    unfold Oper.wp execOp
    simp only [ho, hx]
    go_simp
    exact hK _ _ h
/-- The arguments of leads. -/
abbrev pargs (m n : Nat) (A L N : Nat) : Array Value := #[.int .u64 (m : Int), .int .u64 (n : Int), .pointer (some ⟨A, 0, none⟩), .pointer (some ⟨L, 0, none⟩), .pointer (some ⟨N, 0, none⟩)]
set_option maxRecDepth 100000 in
set_option maxHeartbeats 1000000 in
theorem pleads_end (B A N L c : Nat) (a : Sum) (m : Nat) (p : List Sum) (w : World) (hI : PLeadsIn w A N L c a) (hp : LeftAt B w c p) : Calls Tryz.prog 68 (pargs m 1 A L N) w (PLeadsOf w B c (some (a, p))) := by
  have R0 : Res w 32 (w.alloc (.cells (cells8 (List.replicate 32 0)).toArray 24)) := Res.start _ _ _ _ (by rfl)
  have HA := Lib.hid (R0.range hI.sum)
  have hfin : PLeadsOf w B c (some (a, p)) (.returned (sv a)) ((w.alloc (.cells (cells8 (List.replicate 32 0)).toArray 24)).setCells w.heap.size 0 (cellsOf a)) :=
    ⟨.of_below (R0.store _).below, rfl, hp.below (R0.store _).below⟩
  have HF := Lib.hid hfin; clear hfin hI hp
  go_enter Tryz.func68, Tryz.ntmps68
  go_wp2_with (first
      | (refine wpList_load_sum rfl _ rfl A 0 rfl a HA.out ?_)
      | (refine wpList_store_sum rfl _ _ rfl w.heap.size 0 a rfl rfl R0.there ?_))
  refine bodyPost_ret (results_sum Tryz.results68 _ _ _ _ rfl (World.there_setCells R0.there _ _ _)) rfl ?_
  exact HF.out
/-- The last step on the left; on the right. -/
noncomputable def ponLeft (r : Option (Sum × List Sum)) : Option (Sum × List Sum) := match r with
  | some (x, s :: q) => some (nd x s, q)
  | _ => none
noncomputable def ponRight (r : Option (Sum × List Sum)) : Option (Sum × List Sum) := match r with
  | some (x, s :: q) => some (nd s x, q)
  | _ => none
set_option maxRecDepth 100000 in
set_option maxHeartbeats 1000000 in
theorem pleads_left (B A N L c : Nat) (a : Sum) (m n : Nat) (r : Option (Sum × List Sum)) (w : World) (hB : B ≤ w.heap.size) (hI : PLeadsIn w A N L c a) (hc0 : c < w.heap.size)
    (_hmn : m < n) (hn1 : 1 < n) (hn9 : n < 18446744073709551616) (hk : m < cut n)
    (ih : ∀ W, Below w.heap.size w W → Calls Tryz.prog 68 (pargs m (cut n) A L N) W (PLeadsOf W B c r)) :
    Calls Tryz.prog 68 (pargs m n A L N) w (PLeadsOf w B c (ponLeft r)) := by
  have R0 : Res w 32 (w.alloc (.cells (cells8 (List.replicate 32 0)).toArray 24)) := Res.start _ _ _ _ (by rfl)
  have HL := Lib.hid (R0.cell hI.self)
  have HW := Lib.hid (And.intro hB (And.intro hI (And.intro hc0 R0)))
  have HIH := Lib.hid ih
  clear ih hI hB R0 hc0
  obtain ⟨k, hkk⟩ : ∃ k, k = cut n := ⟨_, rfl⟩
  rw [← hkk] at hk HIH
  have HK := Lib.hid hkk; clear hkk
  have k1 : ((n : Int) == 1) = false := by rw [beq_eq_false_iff_ne]; omega
  have k2 : decide (n = 1) = false := decide_eq_false (by omega)
  have k2' : ¬ (n = 1) := by omega
  have k3 : decide (m < k) = true := decide_eq_true hk
  have k3' : (m : Int) < (k : Int) := by omega
  go_enter Tryz.func68, Tryz.ntmps68
  go_wp2_with (first
      | (go_at_call 61; refine (pathsCut_any n _ (by omega) (by omega)).mono ?_; rw [← HK.out]; rintro e1 w1 ⟨rfl, rfl⟩)
      | (refine wpList_load_pleads rfl _ rfl L (pleadsFn A L N) rfl HL.out ?_))
  have hb1 : Below w.heap.size w (w.alloc (.cells (cells8 (List.replicate 32 0)).toArray 24)) := HW.out.2.2.2.below
  refine (HIH.out (w.alloc (.cells (cells8 (List.replicate 32 0)).toArray 24)) hb1).mono ?_
  intro e1 w2 hl
  obtain ⟨hk2, ht⟩ := hl
  have hK2 := (Keeps.of_below (X := (· = c)) hb1).trans hk2
  have HK2 := Lib.hid hK2
  rcases r with _ | ⟨s, q⟩
  · cases ht
    exact ⟨rfl, HK2.out, rfl⟩
  · obtain ⟨rfl, hq⟩ := ht
    have hc0 := HW.out.2.2.1
    have n9 : w.heap.size ≠ c := Nat.ne_of_gt hc0
    have HT2 := Lib.hid (hk2.there HW.out.2.2.2.there (by decide) n9)
    have HQ2 := Lib.hid hq
    have HI2 := Lib.hid (HW.out.2.1.keep hK2)
    clear hK2 hk2 hq hc0 n9 hb1
    have HG := Lib.hid trivial
    go_wp2_with (have _ := HG; refine wpList_var_sum (by rfl) rfl _ _ rfl s rfl rfl ?_; intro W3 hb3 hr3 _ hlt3; clear HG)
    have hsz : w.heap.size < w2.heap.size := there_lt HT2.out (by decide)
    have HT3 := Lib.hid (there_block (hb3.block _ hsz) HT2.out)
    have HQ3 := Lib.hid (HQ2.out.below hb3)
    have hK3 := HK2.out.trans (.of_below hb3)
    have HI3 := Lib.hid (HW.out.2.1.keep hK3)
    have HK3 := Lib.hid hK3
    have HR3 := Lib.hid hr3
    have HSZ := Lib.hid hsz
    clear hK3 hsz hb3 hr3 hlt3 HT2 HQ2 HI2 HK2
    generalize w2.heap.size = q9 at *
    refine wp_region_sched (fun W => W.rangeAt q9 0 (cellsOf s)) [.s 0, .e 1 true, .e 2 true, .e 3 false, .e 4 false] (by kernel_rfl) (by kernel_rfl) (by intro c a d v w h; cases d <;> exact h) ?_
    have HS := Lib.hid (show W3.drew.rangeAt q9 0 (cellsOf s) from HR3.out)
    have HT := Lib.hid (show W3.drew.there w.heap.size 0 32 from HT3.out)
    have HQ := Lib.hid (HQ3.out.below (Below.refl W3.heap.size W3).drew)
    have HI := Lib.hid (HI3.out.keep (.of_below (Below.refl W3.heap.size W3).drew))
    have HKK := Lib.hid (HK3.out.trans (.of_below (Below.refl W3.heap.size W3).drew))
    clear HR3 HT3 HQ3 HI3 HK3
    have HN9 : Hid (w.heap.size ≠ c ∧ q9 ≠ c) := Lib.hid ⟨Nat.ne_of_gt HW.out.2.2.1, by have := HW.out.2.2.1; have := HSZ.out; omega⟩
    generalize W3.drew = V at *
    refine wpS_load_sum (by exact HS.out) rfl (by rfl) _ (by rfl) q9 0 (by rfl) s (fun V hV => hV) ?_
    try simp only [Act.put, List.setIfInBounds_toArray, List.set_cons_zero, List.set_cons_succ]
    refine wpS_k rfl (by rfl) (fun K hK => ?_)
    refine wp_load_fnp _ (by rfl) N (pnextFn c) (by rfl) HI.out.next ?_
    refine hK _ _ ⟨by exact HS.out, ?_⟩; clear hK K
    try simp only [Act.put, List.setIfInBounds_toArray, List.set_cons_zero, List.set_cons_succ]
    refine wpS_k rfl (by rfl) (fun K hK => ?_)
    go_simp
    refine (pnext_any B V c q HQ.out).mono ?_
    intro e4 w4 hn
    rcases q with _ | ⟨t, q⟩
    · obtain ⟨rfl, hb⟩ := hn
      exact ⟨rfl, HKK.out.trans (.of_below hb), rfl⟩
    · obtain ⟨rfl, hl, hk⟩ := hn
      have HS4 := Lib.hid (hk.range HS.out HN9.out.2)
      have HT4 := Lib.hid (hk.there HT.out (by decide) HN9.out.1)
      have HL4 := Lib.hid hl
      have HK4 := Lib.hid (HKK.out.trans hk)
      clear hl hk
      refine hK _ _ ⟨by exact HS4.out, ?_⟩; clear hK K
      try simp only [Act.put, List.setIfInBounds_toArray, List.set_cons_zero, List.set_cons_succ]
      refine wpS_e rfl (by rfl) (fun K hK => ?_)
      go_simp
      refine (nd_any s t _).mono ?_
      rintro e6 w6 ⟨rfl, hb6⟩
      have HT6 := Lib.hid ((Keeps.of_below (X := fun _ => False) hb6).there HT4.out (by decide) (fun h => h))
      have hk9 := keeps_setCells_ w.heap.size (cellsOf (nd s t)) 0 w6
      have HF : Hid (PLeadsOf w B c (some (nd s t, q)) (.returned (sv (nd s t))) (w6.setCells w.heap.size 0 (cellsOf (nd s t)))) := Lib.hid
        ⟨(HK4.out.trans (.of_below hb6)).trans' hk9 (fun i hi => .inr (Nat.le_of_eq hi.symm)), rfl, (HL4.out.below hb6).keep hk9 (fun e => HN9.out.1 e.symm) (fun k hk _ => hk ▸ HW.out.1)⟩
      clear hb6 hk9
      refine hK _ _ ?_; clear hK K
      try simp only [Act.put, List.setIfInBounds_toArray, List.set_cons_zero, List.set_cons_succ]
      refine wpS_e rfl (by rfl) (fun K hK => ?_)
      refine wp_store_sum _ _ (by rfl) w.heap.size 0 (nd s t) (by rfl) (by rfl) HT6.out ?_
      refine hK _ _ ?_; clear hK K
      try simp only [Act.put]
      refine wpS_done ?_
      go_wp2_with fail
      refine bodyPost_ret (results_sum Tryz.results68 _ _ _ _ rfl (World.there_setCells HT6.out _ _ _)) rfl ?_
      exact HF.out
set_option maxRecDepth 100000 in
set_option maxHeartbeats 1000000 in
theorem pleads_right (B A N L c : Nat) (a : Sum) (m n : Nat) (r : Option (Sum × List Sum)) (w : World) (hB : B ≤ w.heap.size) (hI : PLeadsIn w A N L c a) (hc0 : c < w.heap.size)
    (hmn : m < n) (hn1 : 1 < n) (hn9 : n < 18446744073709551616) (hk : ¬ m < cut n) (hkn : cut n < n)
    (ih : ∀ W, Below w.heap.size w W → Calls Tryz.prog 68 (pargs (m - cut n) (n - cut n) A L N) W (PLeadsOf W B c r)) :
    Calls Tryz.prog 68 (pargs m n A L N) w (PLeadsOf w B c (ponRight r)) := by
  have R0 : Res w 32 (w.alloc (.cells (cells8 (List.replicate 32 0)).toArray 24)) := Res.start _ _ _ _ (by rfl)
  have HL := Lib.hid (R0.cell hI.self)
  have HW := Lib.hid (And.intro hB (And.intro hI (And.intro hc0 R0)))
  have HIH := Lib.hid ih
  clear ih hI hB R0 hc0
  obtain ⟨k, hkk⟩ : ∃ k, k = cut n := ⟨_, rfl⟩
  rw [← hkk] at hk HIH hkn
  have HK := Lib.hid hkk; clear hkk
  have k1 : ((n : Int) == 1) = false := by rw [beq_eq_false_iff_ne]; omega
  have k2 : decide (n = 1) = false := decide_eq_false (by omega)
  have k2' : ¬ (n = 1) := by omega
  have k3 : decide (m < k) = false := decide_eq_false hk
  have k3' : ¬ ((m : Int) < (k : Int)) := by omega
  have k4 : ((m : Int) - (k : Int)) = ((m - k : Nat) : Int) := by omega
  have k5 : ((n : Int) - (k : Int)) = ((n - k : Nat) : Int) := by omega
  have k6 : IntKind.u64.wrap ((m : Int) - (k : Int)) = ((m - k : Nat) : Int) := by
    rw [k4]; simp only [IntKind.wrap, IntKind.bits, IntKind.signed, Bool.false_and, Bool.false_eq_true, if_false]; omega
  have k7 : IntKind.u64.wrap ((n : Int) - (k : Int)) = ((n - k : Nat) : Int) := by
    rw [k5]; simp only [IntKind.wrap, IntKind.bits, IntKind.signed, Bool.false_and, Bool.false_eq_true, if_false]; omega
  clear k4 k5
  go_enter Tryz.func68, Tryz.ntmps68
  go_wp2_with (first
      | (go_at_call 61; refine (pathsCut_any n _ (by omega) (by omega)).mono ?_; rw [← HK.out]; rintro e1 w1 ⟨rfl, rfl⟩)
      | (refine wpList_load_pleads rfl _ rfl L (pleadsFn A L N) rfl HL.out ?_))
  have hb1 : Below w.heap.size w (w.alloc (.cells (cells8 (List.replicate 32 0)).toArray 24)) := HW.out.2.2.2.below
  refine (HIH.out (w.alloc (.cells (cells8 (List.replicate 32 0)).toArray 24)) hb1).mono ?_
  intro e1 w2 hl
  obtain ⟨hk2, ht⟩ := hl
  have hK2 := (Keeps.of_below (X := (· = c)) hb1).trans hk2
  have HK2 := Lib.hid hK2
  rcases r with _ | ⟨s, q⟩
  · cases ht
    exact ⟨rfl, HK2.out, rfl⟩
  · obtain ⟨rfl, hq⟩ := ht
    have hc0 := HW.out.2.2.1
    have n9 : w.heap.size ≠ c := Nat.ne_of_gt hc0
    have HT2 := Lib.hid (hk2.there HW.out.2.2.2.there (by decide) n9)
    have HQ2 := Lib.hid hq
    have HI2 := Lib.hid (HW.out.2.1.keep hK2)
    clear hK2 hk2 hq hc0 n9 hb1
    have HG := Lib.hid trivial
    go_wp2_with (have _ := HG; refine wpList_var_sum (by rfl) rfl _ _ rfl s rfl rfl ?_; intro W3 hb3 hr3 _ hlt3; clear HG)
    have hsz : w.heap.size < w2.heap.size := there_lt HT2.out (by decide)
    have HT3 := Lib.hid (there_block (hb3.block _ hsz) HT2.out)
    have HQ3 := Lib.hid (HQ2.out.below hb3)
    have hK3 := HK2.out.trans (.of_below hb3)
    have HI3 := Lib.hid (HW.out.2.1.keep hK3)
    have HK3 := Lib.hid hK3
    have HR3 := Lib.hid hr3
    have HSZ := Lib.hid hsz
    clear hK3 hsz hb3 hr3 hlt3 HT2 HQ2 HI2 HK2
    generalize w2.heap.size = q9 at *
    refine wp_region_sched (fun W => W.rangeAt q9 0 (cellsOf s) ∧ W.cell? ⟨N, 0, none⟩ = some (pnextFn c)) [.s 0, .s 2, .e 1 true, .e 3 false, .e 4 false] (by kernel_rfl) (by kernel_rfl) (by intro c a d v w h; cases d <;> exact h) ?_
    have HS := Lib.hid (show W3.drew.rangeAt q9 0 (cellsOf s) from HR3.out)
    have HT := Lib.hid (show W3.drew.there w.heap.size 0 32 from HT3.out)
    have HQ := Lib.hid (HQ3.out.below (Below.refl W3.heap.size W3).drew)
    have HI := Lib.hid (HI3.out.keep (.of_below (Below.refl W3.heap.size W3).drew))
    have HKK := Lib.hid (HK3.out.trans (.of_below (Below.refl W3.heap.size W3).drew))
    clear HR3 HT3 HQ3 HI3 HK3
    have HN9 : Hid (w.heap.size ≠ c ∧ q9 ≠ c) := Lib.hid ⟨Nat.ne_of_gt HW.out.2.2.1, by have := HW.out.2.2.1; have := HSZ.out; omega⟩
    generalize W3.drew = V at *
    refine wpS_s (by exact ⟨HS.out, HI.out.next⟩) rfl (by rfl) (v := pnextFn c) (fun W hW => exec_load_fnp _ (by rfl) N (pnextFn c) (by rfl) W hW.2) ?_
    try simp only [Act.put, List.setIfInBounds_toArray, List.set_cons_zero, List.set_cons_succ]
    refine wpS_load_sum (by exact ⟨HS.out, HI.out.next⟩) rfl (by rfl) _ (by rfl) q9 0 (by rfl) s (fun V hV => hV.1) ?_
    try simp only [Act.put, List.setIfInBounds_toArray, List.set_cons_zero, List.set_cons_succ]
    refine wpS_k rfl (by rfl) (fun K hK => ?_)
    go_simp
    refine (pnext_any B V c q HQ.out).mono ?_
    intro e4 w4 hn
    rcases q with _ | ⟨t, q⟩
    · obtain ⟨rfl, hb⟩ := hn
      exact ⟨rfl, HKK.out.trans (.of_below hb), rfl⟩
    · obtain ⟨rfl, hl, hk⟩ := hn
      have HS4 := Lib.hid (And.intro (hk.range HS.out HN9.out.2) (hk.cell HI.out.next HI.out.nN))
      have HT4 := Lib.hid (hk.there HT.out (by decide) HN9.out.1)
      have HL4 := Lib.hid hl
      have HK4 := Lib.hid (HKK.out.trans hk)
      clear hl hk
      refine hK _ _ ⟨by exact HS4.out, ?_⟩; clear hK K
      try simp only [Act.put, List.setIfInBounds_toArray, List.set_cons_zero, List.set_cons_succ]
      refine wpS_e rfl (by rfl) (fun K hK => ?_)
      go_simp
      refine (nd_any t s _).mono ?_
      rintro e6 w6 ⟨rfl, hb6⟩
      have HT6 := Lib.hid ((Keeps.of_below (X := fun _ => False) hb6).there HT4.out (by decide) (fun h => h))
      have hk9 := keeps_setCells_ w.heap.size (cellsOf (nd t s)) 0 w6
      have HF : Hid (PLeadsOf w B c (some (nd t s, q)) (.returned (sv (nd t s))) (w6.setCells w.heap.size 0 (cellsOf (nd t s)))) := Lib.hid
        ⟨(HK4.out.trans (.of_below hb6)).trans' hk9 (fun i hi => .inr (Nat.le_of_eq hi.symm)), rfl, (HL4.out.below hb6).keep hk9 (fun e => HN9.out.1 e.symm) (fun k hk _ => hk ▸ HW.out.1)⟩
      clear hb6 hk9
      refine hK _ _ ?_; clear hK K
      try simp only [Act.put, List.setIfInBounds_toArray, List.set_cons_zero, List.set_cons_succ]
      refine wpS_e rfl (by rfl) (fun K hK => ?_)
      refine wp_store_sum _ _ (by rfl) w.heap.size 0 (nd t s) (by rfl) (by rfl) HT6.out ?_
      refine hK _ _ ?_; clear hK K
      try simp only [Act.put]
      refine wpS_done ?_
      go_wp2_with fail
      refine bodyPost_ret (results_sum Tryz.results68 _ _ _ _ rfl (World.there_setCells HT6.out _ _ _)) rfl ?_
      exact HF.out
theorem pleads_step (a : Sum) (m n : Nat) (p : List Sum) (h : ¬ n ≤ 1) : leads nd a m n p = if m < cut n then ponLeft (leads nd a m (cut n) p) else ponRight (leads nd a (m - cut n) (n - cut n) p) := by
  rw [leads, dif_neg h]
  by_cases hk : m < cut n
  · rw [if_pos hk, if_pos hk]
    generalize leads nd a m (cut n) p = r
    rcases r with _ | ⟨x, _ | ⟨s, q⟩⟩ <;> rfl
  · rw [if_neg hk, if_neg hk]
    generalize leads nd a (m - cut n) (n - cut n) p = r
    rcases r with _ | ⟨x, _ | ⟨s, q⟩⟩ <;> rfl
theorem pleads_any (B A N L c : Nat) (a : Sum) : ∀ (d n m : Nat) (p : List Sum) (w : World), n ≤ d → 1 ≤ n → m < n → n < 18446744073709551616 → B ≤ w.heap.size → PLeadsIn w A N L c a → LeftAt B w c p →
    Calls Tryz.prog 68 (pargs m n A L N) w (PLeadsOf w B c (leads nd a m n p)) := by
  intro d
  induction d with
  | zero => intro n m p w h0 h1; omega
  | succ d ih =>
    intro n m p w h0 h1 h2 h3 hB hI hp
    by_cases hn : n ≤ 1
    · have : n = 1 := by omega
      subst this
      rw [leads, dif_pos hn]
      exact pleads_end B A N L c a m p w hI hp
    · have hc0 := hp.lt
      have hk1 := cut_lt (n := n) (by omega)
      have hk2 := cut_pos n
      rw [pleads_step a m n p hn]
      by_cases hk : m < cut n
      · rw [if_pos hk]
        exact pleads_left B A N L c a m n _ w hB hI hc0 h2 (by omega) h3 hk (fun W hb => ih (cut n) m p W (by omega) (by omega) hk (by omega) (Nat.le_trans hB hb.size) (hI.keep (.of_below hb)) (hp.below hb))
      · rw [if_neg hk]
        exact pleads_right B A N L c a m n _ w hB hI hc0 h2 (by omega) h3 hk (by omega) (fun W hb => ih (n - cut n) (m - cut n) p W (by omega) (by omega) (by omega) (by omega) (Nat.le_trans hB hb.size) (hI.keep (.of_below hb)) (hp.below hb))
end Go.Proofs.YtdkcndgehgmadaaGreatDoor
-- Walks: paths.Check.
open Go Go.RowKit Alm
namespace Go.Proofs.YtdkcndgehgmadaaGreatDoor
theorem caught_ (p : Addr) (x : Bool) (u : TypeId) (pv : Value) (older : List PanicEntry) (w : World) (hc : w.cell? p = some (.bool x)) (hz : w.frozen? p = false) :
    CallsD Tryz.prog 66 #[.pointer (some p)] (.panicking ({ v := .iface u pv, recovered := false } :: older)) w fun e u' w' =>
      e = .returned (.tuple #[]) ∧ u' = .panicking ({ v := .iface u pv, recovered := true } :: older) ∧ w' = w.setCell p (.bool false) := by
  refine callsD_of_wpS Tryz.func66 rfl fun c₀ cs hu => ?_
  apply wpS_seq
  apply wpS_region
  simp [wpOpsS, go_sem, recoverD, hu, Tryz.ntmps66, Exit.thenS]
  apply wpS_seq
  apply wpS_region
  simp [wpOpsS, go_sem, Exit.thenS]
  refine wpS_cond (t := true) (by simp [Act.eval, Array.replicate]) ?_
  simp only [if_true]
  apply wpS_region
  simp [wpOpsS, go_sem, hc, hz, bodyPostS, results, Tryz.results66]
theorem idle_ (p : Addr) (w : World) :
    CallsD Tryz.prog 66 #[.pointer (some p)] .returning w fun e u' w' => e = .returned (.tuple #[]) ∧ u' = .returning ∧ w' = w := by
  refine callsD_of_wpS Tryz.func66 rfl fun c₀ cs hu => ?_
  apply wpS_seq
  apply wpS_region
  simp [wpOpsS, go_sem, recoverD, hu, Tryz.ntmps66, Exit.thenS]
  apply wpS_seq
  apply wpS_region
  simp [wpOpsS, go_sem, Exit.thenS]
  refine wpS_cond (t := false) (by simp [Act.eval, Array.replicate]) ?_
  simp only [Bool.false_eq_true, if_false]
  refine wpS_of_wp (wp_skip ?_)
  cases c₀
  simp_all [bodyPostS, results, Tryz.results66]
theorem exec_load_pleads {f : Operand → Value} {o : Oper} (x : Operand) (ho : o.op = .load 98 x) (b : Nat) (v : Value) (hx : f x = .pointer (some ⟨b, 0, none⟩)) (W : World) (hc : W.cell? ⟨b, 0, none⟩ = some v) :
    (execOp f o).run Tryz.prog W = .ok (.value v) W := by
  unfold execOp
  simp only [ho, hx]
  go_simp
/-- Whether a path is let be. -/
noncomputable def pathBe (leaf : Sum) (m n : Nat) (p : List Sum) (root : Sum) : Bool :=
  decide (m < n) && (match leads nd leaf m n p with
    | some (s, []) => decide (s = root)
    | _ => false)
set_option maxRecDepth 100000 in
set_option maxHeartbeats 1000000 in
theorem pcheck_out (a : Sum) (m n : Nat) (v : Value) (p : List Sum) (b : Sum) (w : World) (hv : SumsAt w v p) (h : n ≤ m) :
    Calls Tryz.prog 12 #[sv a, .int .u64 (m : Int), .int .u64 (n : Int), v, sv b] w fun e w' => e = .returned (.bool false) ∧ Below w.heap.size w w' := by
  obtain ⟨ad, cap, rfl, _, _, _⟩ := hv
  have hmf : ∀ (fn : Fn) (first cap : Array Value) (w : World), (Instr.makeFunc fn first cap).run Tryz.prog w = .ok (.func fn first cap) w := fun _ _ _ _ => rfl
  have HB : Hid (Below w.heap.size w ((((w.alloc (.cells (cellsOf a).toArray 24)).alloc (.cells #[.slice ad p.length cap] 22)).alloc (.cells (cellsOf b).toArray 24)).alloc (.cells #[.bool false] 4))) := Lib.hid (al (al (al (al (Below.refl _ _) _) _) _) _)
  have k1 : decide (n ≤ m) = true := decide_eq_true h
  have k2 : (n : Int) ≤ (m : Int) := by omega
  go_enter_defers Tryz.func12, Tryz.ntmps12
  go_wp2_with fail
  have HC : Hid ((((((w.alloc (.cells (cellsOf a).toArray 24)).alloc (.cells #[.slice ad p.length cap] 22)).alloc (.cells (cellsOf b).toArray 24)).alloc (.cells #[.bool false] 4))).cell? ⟨w.heap.size + 1 + 1 + 1, 0, none⟩ = some (.bool false)) := Lib.hid (by
    have := range_new (((w.alloc (.cells (cellsOf a).toArray 24)).alloc (.cells #[.slice ad p.length cap] 22)).alloc (.cells (cellsOf b).toArray 24)) #[.bool false] 4 _ rfl 0 _ rfl
    simp only [World.size_alloc] at this; exact this)
  have hc := HC.out
  generalize ((((w.alloc (.cells (cellsOf a).toArray 24)).alloc (.cells #[.slice ad p.length cap] 22)).alloc (.cells (cellsOf b).toArray 24)).alloc (.cells #[.bool false] 4)) = V at *
  have HBO := HB.out
  simp [bodyPostD, Leaves, results, Tryz.results12, go_sem, hc]
  exact HBO
set_option maxRecDepth 100000 in
set_option maxHeartbeats 1000000 in
theorem pcheck_in (a : Sum) (m n : Nat) (v : Value) (p : List Sum) (b : Sum) (w : World) (hv : SumsAt w v p) (h : m < n) (hn : n < 18446744073709551616) :
    Calls Tryz.prog 12 #[sv a, .int .u64 (m : Int), .int .u64 (n : Int), v, sv b] w fun e w' => e = .returned (.bool (pathBe a m n p b)) ∧ Below w.heap.size w w' := by
  obtain ⟨w1, hw1⟩ : ∃ W, W = w.alloc (.cells (cellsOf a).toArray 24) := ⟨_, rfl⟩
  obtain ⟨w2, hw2⟩ : ∃ W, W = w1.alloc (.cells #[v] 22) := ⟨_, rfl⟩
  obtain ⟨w3, hw3⟩ : ∃ W, W = w2.alloc (.cells (cellsOf b).toArray 24) := ⟨_, rfl⟩
  obtain ⟨w4, hw4⟩ : ∃ W, W = w3.alloc (.cells #[.bool false] 4) := ⟨_, rfl⟩
  obtain ⟨w5, hw5⟩ : ∃ W, W = w4.alloc (.cells #[pnextFn (w.heap.size + 1)] 52) := ⟨_, rfl⟩
  obtain ⟨w6, hw6⟩ : ∃ W, W = w5.alloc (.cells #[pleadsFn w.heap.size (w.heap.size + 1 + 1 + 1 + 1 + 1) (w.heap.size + 1 + 1 + 1 + 1)] 98) := ⟨_, rfl⟩
  have z1 : w1.heap.size = w.heap.size + 1 := by rw [hw1]; exact Array.size_push _
  have z2 : w2.heap.size = w.heap.size + 1 + 1 := by rw [hw2, ← z1]; exact Array.size_push _
  have z3 : w3.heap.size = w.heap.size + 1 + 1 + 1 := by rw [hw3, ← z2]; exact Array.size_push _
  have z4 : w4.heap.size = w.heap.size + 1 + 1 + 1 + 1 := by rw [hw4, ← z3]; exact Array.size_push _
  have z5 : w5.heap.size = w.heap.size + 1 + 1 + 1 + 1 + 1 := by rw [hw5, ← z4]; exact Array.size_push _
  have z6 : w6.heap.size = w.heap.size + 1 + 1 + 1 + 1 + 1 + 1 := by rw [hw6, ← z5]; exact Array.size_push _
  have b1 : Below w.heap.size w w1 := by rw [hw1]; exact al (Below.refl _ _) _
  have b2 : Below w1.heap.size w1 w2 := by rw [hw2]; exact al (Below.refl _ _) _
  have b3 : Below w2.heap.size w2 w3 := by rw [hw3]; exact al (Below.refl _ _) _
  have b4 : Below w3.heap.size w3 w4 := by rw [hw4]; exact al (Below.refl _ _) _
  have b5 : Below w4.heap.size w4 w5 := by rw [hw5]; exact al (Below.refl _ _) _
  have b6 : Below w5.heap.size w5 w6 := by rw [hw6]; exact al (Below.refl _ _) _
  have b46 : Below w4.heap.size w4 w6 := b5.trans (b6.mono (by omega))
  have b36 : Below w3.heap.size w3 w6 := b4.trans (b46.mono (by omega))
  have b26 : Below w2.heap.size w2 w6 := b3.trans (b36.mono (by omega))
  have b16 : Below w1.heap.size w1 w6 := b2.trans (b26.mono (by omega))
  have b06 : Below w.heap.size w w6 := b1.trans (b16.mono (by omega))
  have f1 : w6.rangeAt w.heap.size 0 (cellsOf a) := (Keeps.of_below (X := fun _ => False) b16).range (by rw [hw1]; exact range_new w _ _ _ rfl) (fun h => h)
  have f2 : w6.heap[w.heap.size + 1]? = some (.cells #[v] 22 (0, 0)) := (Keeps.of_below (X := fun _ => False) b26).heap (by rw [hw2, ← z1]; exact Array.getElem?_push_size) (fun h => h)
  have f3 : w6.rangeAt (w.heap.size + 1 + 1) 0 (cellsOf b) := (Keeps.of_below (X := fun _ => False) b36).range (by rw [hw3, ← z2]; exact range_new w2 _ _ _ rfl) (fun h => h)
  have f4 : w6.heap[w.heap.size + 1 + 1 + 1]? = some (.cells #[.bool false] 4 (0, 0)) := (Keeps.of_below (X := fun _ => False) b46).heap (by rw [hw4, ← z3]; exact Array.getElem?_push_size) (fun h => h)
  have f5 : w6.cell? ⟨w.heap.size + 1 + 1 + 1 + 1, 0, none⟩ = some (pnextFn (w.heap.size + 1)) := (Keeps.of_below (X := fun _ => False) b6).cell (a := ⟨w.heap.size + 1 + 1 + 1 + 1, 0, none⟩) (by rw [hw5, ← z4]; exact range_new w4 _ _ [_] rfl 0 _ rfl) (fun h => h)
  have f6 : w6.cell? ⟨w.heap.size + 1 + 1 + 1 + 1 + 1, 0, none⟩ = some (pleadsFn w.heap.size (w.heap.size + 1 + 1 + 1 + 1 + 1) (w.heap.size + 1 + 1 + 1 + 1)) := by rw [hw6, ← z5]; exact range_new w5 _ _ [_] rfl 0 _ rfl
  have hI : PLeadsIn w6 w.heap.size (w.heap.size + 1 + 1 + 1 + 1) (w.heap.size + 1 + 1 + 1 + 1 + 1) (w.heap.size + 1) a := ⟨f1, f5, f6, by omega, by omega, by omega⟩
  have hv6 : SumsAt w6 v p := (Keeps.of_below (X := fun _ => False) b06).sums hv (fun _ _ h => h)
  have hlf : LeftAt w.heap.size w6 (w.heap.size + 1) p := ⟨v, f2, hv6, fun hp k hk => by
    obtain ⟨bb, o, cap, rfl, _, _, hr⟩ := sums_form hv hp
    have e : bb = k := by simpa [Value.ownBlock] using hk
    have : bb < w.heap.size := range_lt hr (by
      intro h
      have h3 := congrArg List.length h
      rw [length_cellsAll] at h3
      have : p.length = 0 := by simp only [List.length_nil] at h3; omega
      exact hp (List.length_eq_zero_iff.1 this))
    omega⟩
  have hld := fun W (hb : Below w6.heap.size w6 W) => pleads_any w.heap.size w.heap.size (w.heap.size + 1 + 1 + 1 + 1) (w.heap.size + 1 + 1 + 1 + 1 + 1) (w.heap.size + 1) a n n m p W (Nat.le_refl _) (by omega) h hn (Nat.le_trans (by omega) hb.size) (hI.keep (.of_below hb)) (hlf.below hb)
  have hbe : pathBe a m n p b = (match leads nd a m n p with
      | some (s, []) => decide (s = b)
      | _ => false) := by
    unfold pathBe
    rw [decide_eq_true h]; rfl
  rw [hbe]
  generalize leads nd a m n p = r at *
  have HX := Lib.hid (And.intro hld (And.intro b06 (And.intro z6 (And.intro f3 (And.intro f4 hI)))))
  have HE : Hid (w6 = ((((((w.alloc (.cells (cellsOf a).toArray 24)).alloc (.cells #[v] 22)).alloc (.cells (cellsOf b).toArray 24)).alloc (.cells #[.bool false] 4)).alloc (.cells #[pnextFn (w.heap.size + 1)] 52)).alloc (.cells #[pleadsFn w.heap.size (w.heap.size + 1 + 1 + 1 + 1 + 1) (w.heap.size + 1 + 1 + 1 + 1)] 98))) := Lib.hid (by rw [hw6, hw5, hw4, hw3, hw2, hw1])
  clear hld b1 b2 b3 b4 b5 b6 b46 b36 b26 b16 b06 f1 f2 f3 f4 f5 f6 hI hv6 hlf hbe z1 z2 z3 z4 z5 z6 hw6 hw5 hw4 hw3 hw2 hw1
  obtain ⟨ad, cap, rfl, _, _, _⟩ := hv
  have hmf : ∀ (fn : Fn) (first cap : Array Value) (w : World), (Instr.makeFunc fn first cap).run Tryz.prog w = .ok (.func fn first cap) w := fun _ _ _ _ => rfl
  have k1 : decide (n ≤ m) = false := decide_eq_false (by omega)
  have k2 : ¬ (n : Int) ≤ (m : Int) := by omega
  have hst1 := fun W => run_store Tryz.prog W ⟨w.heap.size + 1 + 1 + 1 + 1, 0, none⟩ (pnextFn (w.heap.size + 1)) .plain rfl
  have hst2 := fun W => run_store Tryz.prog W ⟨w.heap.size + 1 + 1 + 1 + 1 + 1, 0, none⟩ (pleadsFn w.heap.size (w.heap.size + 1 + 1 + 1 + 1 + 1) (w.heap.size + 1 + 1 + 1 + 1)) .plain rfl
  clear h
  go_enter_defers Tryz.func12, Tryz.ntmps12
  go_wp2_with fail
  clear hst1 hst2
  rw [← HE.out]
  have hres : ∀ t1 t2 : Array Value, t1.getD 10 undef = t2.getD 10 undef → results Tryz.f12 t1 = results Tryz.f12 t2 := fun t1 t2 h => by
    have e1 : t1[10]?.getD undef = t2[10]?.getD undef := by simpa using h
    simp [results, Tryz.results12, e1]
  refine wp_region_sched2 (fun V => V.cell? ⟨w.heap.size + 1 + 1 + 1 + 1 + 1, 0, none⟩ = some (pleadsFn w.heap.size (w.heap.size + 1 + 1 + 1 + 1 + 1) (w.heap.size + 1 + 1 + 1 + 1)) ∧ V.rangeAt (w.heap.size + 1 + 1) 0 (cellsOf b)) [.t 1, .t 2, .s 0, .s 4, .e 3 true, .t 5, .t 6, .e 7 false, .t 8, .t 9, .t 10, .e 11 false] (by kernel_rfl) (by kernel_rfl) 10 (by kernel_rfl) ?_ ?_
  · intro c a1 a2 w' hd ht hh
    have hh : Leaves _ _ a1.tmps _ a1.defers (.panicking c) w' := hh
    change Leaves _ _ a2.tmps _ a2.defers (.panicking c) w'
    rw [← hd]
    exact leaves_same (hres _ _ ht) _ _ _ hh
  obtain ⟨c, hcd⟩ : ∃ c, c = w.heap.size + 1 := ⟨_, rfl⟩
  obtain ⟨d, hdd⟩ : ∃ d, d = w.heap.size + 1 + 1 + 1 := ⟨_, rfl⟩
  obtain ⟨L, hLd⟩ : ∃ d, d = w.heap.size + 1 + 1 + 1 + 1 + 1 := ⟨_, rfl⟩
  obtain ⟨N, hNd⟩ : ∃ d, d = w.heap.size + 1 + 1 + 1 + 1 := ⟨_, rfl⟩
  obtain ⟨R, hRd⟩ : ∃ d, d = w.heap.size + 1 + 1 := ⟨_, rfl⟩
  rw [← hLd, ← hNd, ← hdd, ← hRd, ← hcd] at HX
  rw [← hLd, ← hNd, ← hdd, ← hRd, ← hcd]
  have HD := Lib.hid (And.intro (show w.heap.size ≤ c by omega) (And.intro (show w.heap.size ≤ d by omega) (And.intro (show d ≠ c by omega) (And.intro (show R ≠ c by omega) (show L ≠ c by omega)))))
  have hbd := (Below.refl w6.heap.size w6).drew
  have hkd := Keeps.of_below (X := fun _ => False) hbd
  have HS := Lib.hid (show w6.drew.cell? ⟨L, 0, none⟩ = some (pleadsFn w.heap.size L N) ∧ w6.drew.rangeAt R 0 (cellsOf b) from ⟨hkd.cell HX.out.2.2.2.2.2.self (fun h => h), hkd.range HX.out.2.2.2.1 (fun h => h)⟩)
  have HF4 := Lib.hid (hkd.heap HX.out.2.2.2.2.1 (fun h => h))
  have HLD := Lib.hid (HX.out.1 w6.drew hbd)
  have HB := Lib.hid (HX.out.2.1.trans (hbd.mono HX.out.2.1.size))
  clear hbd hkd HX HE hres hcd hdd hLd hNd hRd
  generalize w6.drew = V at *
  iterate 2
    refine wpS_t rfl (v := ?_) (by rfl) (fun W => ?_) ?_
    rotate_left
    · go_simp
      try rfl
    try simp only [Act.put, List.setIfInBounds_toArray, List.set_cons_zero, List.set_cons_succ]
  refine wpS_s (by exact HS.out) rfl (by rfl) (v := pleadsFn w.heap.size L N) (fun W hW => exec_load_pleads _ (by rfl) L _ (by rfl) W hW.1) ?_
  try simp only [Act.put, List.setIfInBounds_toArray, List.set_cons_zero, List.set_cons_succ]
  refine wpS_load_sum (by exact HS.out) rfl (by rfl) _ (by rfl) R 0 (by rfl) b (fun V hV => hV.2) ?_
  try simp only [Act.put, List.setIfInBounds_toArray, List.set_cons_zero, List.set_cons_succ]
  refine wpS_k rfl (by rfl) (fun K hK => ?_)
  go_simp
  refine HLD.out.mono ?_
  intro e w7 hl
  obtain ⟨hk, ht⟩ := hl
  have HF7 := Lib.hid (hk.heap HF4.out HD.out.2.2.1)
  have hk7 := ((Keeps.of_below (X := (· = c)) HB.out).trans hk).mono (Y := fun k => w.heap.size ≤ k) (fun k hk => hk ▸ HD.out.1)
  have hc0 : w7.cell? ⟨d, 0, none⟩ = some (.bool false) := by rw [cell_of_row w7 _ _ _ _ (0, 0) HF7.out]; rfl
  have hfz : w7.frozen? ⟨d, 0, none⟩ = false := frozen_of_row w7 d _ _ _ HF7.out
  have HEND : ∀ x : Bool, Hid (Below w.heap.size w (w7.setCell ⟨d, 0, none⟩ (.bool x)) ∧ (w7.setCell ⟨d, 0, none⟩ (.bool x)).cell? ⟨d, 0, none⟩ = some (.bool x)) := fun x => Lib.hid ⟨(hk7.setCell (p := ⟨d, 0, none⟩) (.inl HD.out.2.1) _).below (Nat.le_refl _) (fun k hk => hk), by
    have e1 := heap_setCell_same w7 d 0 _ _ (.bool x) HF7.out
    rw [cell_of_row _ _ _ _ _ (0, 0) e1]; rfl⟩
  rcases r with _ | ⟨s, q⟩
  · cases ht
    change bodyPostD _ _ _ (.panic few) _ w7
    refine leaves_cons (f := 66) (args := #[.pointer (some ⟨d, 0, none⟩)]) (by simp) (by simp [go_sem]) ?_
    refine (caught_ ⟨d, 0, none⟩ false _ _ [] w7 hc0 hfz).mono ?_
    rintro e u' w'' ⟨rfl, rfl, rfl⟩
    have h2 := (HEND false).out.2
    have h1 := (HEND false).out.1
    generalize w7.setCell ⟨d, 0, none⟩ (.bool false) = W9 at *
    simp [Leaves, settle, results, Tryz.results12, go_sem, h2]
    exact h1
  · obtain ⟨rfl, hq⟩ := ht
    have HS7 := Lib.hid (And.intro (hk.cell HS.out.1 HD.out.2.2.2.2) (hk.range HS.out.2 HD.out.2.2.2.1))
    obtain ⟨vq, g1, g2, _⟩ := hq
    obtain ⟨aq, cq, rfl, _, _, _⟩ := g2
    have hcc : w7.cell? ⟨c, 0, none⟩ = some (.slice aq q.length cq) := by rw [cell_of_row w7 _ _ _ _ (0, 0) g1]; rfl
    have HCC := Lib.hid (And.intro hcc (And.intro hc0 hfz))
    clear hk hk7 g1 hcc hc0 hfz
    refine hK _ _ ⟨by exact HS7.out, ?_⟩; clear hK K
    try simp only [Act.put, List.setIfInBounds_toArray, List.set_cons_zero, List.set_cons_succ]
    by_cases hsb : s = b
    · subst hsb
      have heq := eq_sums_same s
      iterate 2
        refine wpS_t rfl (v := ?_) (by rfl) (fun W => ?_) ?_
        rotate_left
        · go_simp
          try rfl
        try simp only [Act.put, List.setIfInBounds_toArray, List.set_cons_zero, List.set_cons_succ]
      have hcc := HCC.out.1
      refine wpS_e rfl (by rfl) (fun K hK => ?_)
      go_simp
      refine hK _ _ ?_; clear hK K
      try simp only [Act.put, List.setIfInBounds_toArray, List.set_cons_zero, List.set_cons_succ]
      clear hcc
      rcases q with _ | ⟨t, q⟩
      · skip
        iterate 3
          refine wpS_t rfl (v := ?_) (by rfl) (fun W => ?_) ?_
          rotate_left
          · go_simp
            try rfl
          try simp only [Act.put, List.setIfInBounds_toArray, List.set_cons_zero, List.set_cons_succ]
        have hc0 := HCC.out.2.1
        have hfz := HCC.out.2.2
        refine wpS_e rfl (by rfl) (fun K hK => ?_)
        go_simp
        refine hK _ _ ?_; clear hK K
        try simp only [Act.put, List.setIfInBounds_toArray, List.set_cons_zero, List.set_cons_succ]
        clear hc0 hfz
        refine wpS_done ?_
        have h2 := (HEND true).out.2
        have h1 := (HEND true).out.1
        generalize w7.setCell ⟨d, 0, none⟩ (.bool true) = W9 at *
        go_wp2_with fail
        refine leaves_cons (f := 66) (args := #[.pointer (some ⟨d, 0, none⟩)]) (by simp) (by simp [go_sem]) ?_
        refine (idle_ ⟨d, 0, none⟩ W9).mono ?_
        rintro e u' w'' ⟨rfl, rfl, rfl⟩
        simp [Leaves, settle, results, Tryz.results12, go_sem, h2]
        exact h1
      · obtain ⟨k, hk⟩ : ∃ k, k = (t :: q).length := ⟨_, rfl⟩
        have hne : ((k : Int) == 0) = false := by rw [beq_eq_false_iff_ne]; simp only [List.length_cons] at hk; omega
        rw [← hk]
        clear hk
        iterate 3
          refine wpS_t rfl (v := ?_) (by rfl) (fun W => ?_) ?_
          rotate_left
          · go_simp
            try rfl
          try simp only [Act.put, List.setIfInBounds_toArray, List.set_cons_zero, List.set_cons_succ]
        have hc0 := HCC.out.2.1
        have hfz := HCC.out.2.2
        refine wpS_e rfl (by rfl) (fun K hK => ?_)
        go_simp
        refine hK _ _ ?_; clear hK K
        try simp only [Act.put, List.setIfInBounds_toArray, List.set_cons_zero, List.set_cons_succ]
        clear hc0 hfz
        refine wpS_done ?_
        have h2 := (HEND false).out.2
        have h1 := (HEND false).out.1
        generalize w7.setCell ⟨d, 0, none⟩ (.bool false) = W9 at *
        go_wp2_with fail
        refine leaves_cons (f := 66) (args := #[.pointer (some ⟨d, 0, none⟩)]) (by simp) (by simp [go_sem]) ?_
        refine (idle_ ⟨d, 0, none⟩ W9).mono ?_
        rintro e u' w'' ⟨rfl, rfl, rfl⟩
        simp [Leaves, settle, results, Tryz.results12, go_sem, h2]
        exact h1
    · rcases q with _ | ⟨t, q⟩
      · skip
        have hes : ∀ w : World, (Op.equalIn 10000 24 (.agg (cellsOf s).toArray) (.agg (cellsOf b).toArray)).run Tryz.prog w = .ok false w := fun w => by rw [eq_sums]; simp [hsb]
        iterate 2
          refine wpS_t rfl (v := ?_) (by rfl) (fun W => ?_) ?_
          rotate_left
          · go_simp
            try rfl
          try simp only [Act.put, List.setIfInBounds_toArray, List.set_cons_zero, List.set_cons_succ]
        refine wpS_e_skip rfl (by rfl) ?_
        try simp only [Act.put, List.setIfInBounds_toArray, List.set_cons_zero, List.set_cons_succ]
        iterate 2
          refine wpS_t_skip rfl (by rfl) ?_
          try simp only [Act.put, List.setIfInBounds_toArray, List.set_cons_zero, List.set_cons_succ]
        iterate 1
          refine wpS_t rfl (v := ?_) (by rfl) (fun W => ?_) ?_
          rotate_left
          · go_simp
            try rfl
          try simp only [Act.put, List.setIfInBounds_toArray, List.set_cons_zero, List.set_cons_succ]
        have hc0 := HCC.out.2.1
        have hfz := HCC.out.2.2
        refine wpS_e rfl (by rfl) (fun K hK => ?_)
        go_simp
        refine hK _ _ ?_; clear hK K
        try simp only [Act.put, List.setIfInBounds_toArray, List.set_cons_zero, List.set_cons_succ]
        clear hc0 hfz
        refine wpS_done ?_
        have h2 := (HEND false).out.2
        have h1 := (HEND false).out.1
        generalize w7.setCell ⟨d, 0, none⟩ (.bool false) = W9 at *
        go_wp2_with fail
        refine leaves_cons (f := 66) (args := #[.pointer (some ⟨d, 0, none⟩)]) (by simp) (by simp [go_sem]) ?_
        refine (idle_ ⟨d, 0, none⟩ W9).mono ?_
        rintro e u' w'' ⟨rfl, rfl, rfl⟩
        simp [Leaves, settle, results, Tryz.results12, go_sem, h2]
        first | exact h1 | exact ⟨hsb, h1⟩
      · skip
        have hes : ∀ w : World, (Op.equalIn 10000 24 (.agg (cellsOf s).toArray) (.agg (cellsOf b).toArray)).run Tryz.prog w = .ok false w := fun w => by rw [eq_sums]; simp [hsb]
        iterate 2
          refine wpS_t rfl (v := ?_) (by rfl) (fun W => ?_) ?_
          rotate_left
          · go_simp
            try rfl
          try simp only [Act.put, List.setIfInBounds_toArray, List.set_cons_zero, List.set_cons_succ]
        refine wpS_e_skip rfl (by rfl) ?_
        try simp only [Act.put, List.setIfInBounds_toArray, List.set_cons_zero, List.set_cons_succ]
        iterate 2
          refine wpS_t_skip rfl (by rfl) ?_
          try simp only [Act.put, List.setIfInBounds_toArray, List.set_cons_zero, List.set_cons_succ]
        iterate 1
          refine wpS_t rfl (v := ?_) (by rfl) (fun W => ?_) ?_
          rotate_left
          · go_simp
            try rfl
          try simp only [Act.put, List.setIfInBounds_toArray, List.set_cons_zero, List.set_cons_succ]
        have hc0 := HCC.out.2.1
        have hfz := HCC.out.2.2
        refine wpS_e rfl (by rfl) (fun K hK => ?_)
        go_simp
        refine hK _ _ ?_; clear hK K
        try simp only [Act.put, List.setIfInBounds_toArray, List.set_cons_zero, List.set_cons_succ]
        clear hc0 hfz
        refine wpS_done ?_
        have h2 := (HEND false).out.2
        have h1 := (HEND false).out.1
        generalize w7.setCell ⟨d, 0, none⟩ (.bool false) = W9 at *
        go_wp2_with fail
        refine leaves_cons (f := 66) (args := #[.pointer (some ⟨d, 0, none⟩)]) (by simp) (by simp [go_sem]) ?_
        refine (idle_ ⟨d, 0, none⟩ W9).mono ?_
        rintro e u' w'' ⟨rfl, rfl, rfl⟩
        simp [Leaves, settle, results, Tryz.results12, go_sem, h2]
        first | exact h1 | exact ⟨hsb, h1⟩
end Go.Proofs.YtdkcndgehgmadaaGreatDoor
