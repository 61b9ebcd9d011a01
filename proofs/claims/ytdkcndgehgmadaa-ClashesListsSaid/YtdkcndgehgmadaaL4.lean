/-
  Walks: clashes.lists.
-/
import Derived.Test.YtdkcndgehgmadaaL3
open Go Go.RowKit Alm
namespace Go.Proofs.Ytdkcndgehgmadaa
theorem rt_split (l : List Sum) (h : 2 ≤ l.length) : rt l = nd (rt (l.take (cut l.length))) (rt (l.drop (cut l.length))) := by
  rw [rt_eq]; exact root_split nd e0 h
theorem rt_lf (l : List (List UInt8)) (h : 2 ≤ l.length) : rt (l.map lf) = nd (rt ((l.take (cut l.length)).map lf)) (rt ((l.drop (cut l.length)).map lf)) := by
  rw [rt_split _ (by rw [List.length_map]; exact h), List.length_map, List.map_take, List.map_drop]
/-- What stands in the two lists' variable. -/
abbrev SZ (l : List (List UInt8)) : Prop := ∀ x ∈ l, x.length < 900000
set_option maxRecDepth 100000 in
set_option maxHeartbeats 2000000 in
theorem lists_step (a b : List (List UInt8)) (va vb : Value) (w : World) (ha : ListsAt w va a) (hb : ListsAt w vb b) (h1 : 1 ≤ a.length) (hab : a.length = b.length) (hne : ¬ a = b) (hrt : rt (a.map lf) = rt (b.map lf)) (hn : a.length < 1000000) (hsa : SZ a) (hsb : SZ b)
    (ih : ∀ (a' b' : List (List UInt8)) (va vb : Value) (w : World), a'.length < a.length → ListsAt w va a' → ListsAt w vb b' → 1 ≤ a'.length → a'.length = b'.length → ¬ a' = b' → rt (a'.map lf) = rt (b'.map lf) → SZ a' → SZ b' → Calls Try.prog 95 #[.agg #[va, vb]] w (ClashOf w)) :
    Calls Try.prog 95 #[.agg #[va, vb]] w (ClashOf w) := by
  have IH := Lib.hid ih; clear ih
  have HA := Lib.hid ha
  have HB := Lib.hid hb
  have a0 : a ≠ [] := by intro h; rw [h] at h1; simp at h1
  have b0 : b ≠ [] := by intro h; rw [hab, h] at h1; simp at h1
  obtain ⟨ba, oa, ca, rfl, a1, a2⟩ := ha.form a0
  obtain ⟨bb, ob, cb, rfl, b1, b2⟩ := hb.form b0
  have hbw := al (Below.refl _ w) (.cells #[.slice (some ⟨ba, oa, none⟩) a.length ca, .slice (some ⟨bb, ob, none⟩) b.length cb] 128)
  have ht := two_new w (.slice (some ⟨ba, oa, none⟩) a.length ca) (.slice (some ⟨bb, ob, none⟩) b.length cb) 128
  have HT := Lib.hid (And.intro ht (And.intro hbw (And.intro (ha.below hbw) (hb.below hbw))))
  have HX := Lib.hid (And.intro hne (And.intro hrt (And.intro hsa hsb)))
  clear ht hbw a0 b0 ha hb hne hrt hsa hsb
  rw [← hab] at HT b1 HB ⊢
  obtain ⟨n, hnl⟩ : ∃ n, n = a.length := ⟨_, rfl⟩
  rw [← hnl] at HT HA HB a1 b1 h1 hn IH ⊢
  have HN := Lib.hid (And.intro hnl (hnl.trans hab))
  clear hnl hab
  unfold maxLen at a2 b2
  go_enter Try.func95, Try.ntmps95
  go_wp2_with fail
  obtain ⟨z, hz⟩ : ∃ z, z = w.heap.size := ⟨_, rfl⟩
  have hT1 := HT.out.1
  rw [← hz] at hT1 ⊢
  have HT1 := Lib.hid hT1
  have HT2 := Lib.hid HT.out.2
  clear hz hT1 HT
  generalize w.alloc (.cells #[.slice (some ⟨ba, oa, none⟩) n ca, .slice (some ⟨bb, ob, none⟩) n cb] 128) = W at *
  refine wp_region_sched (fun V => V.cell? ⟨z, 0, none⟩ = some (.slice (some ⟨ba, oa, none⟩) n ca) ∧ V.cell? ⟨z, 1, none⟩ = some (.slice (some ⟨bb, ob, none⟩) n cb)) [.t 0, .t 2, .s 1, .t 4, .e 3 true, .t 5] (by kernel_rfl) (by kernel_rfl) (by intro c a d v w h; cases d <;> exact h) ?_
  have HS := Lib.hid (show W.drew.cell? ⟨z, 0, none⟩ = some (.slice (some ⟨ba, oa, none⟩) n ca) ∧ W.drew.cell? ⟨z, 1, none⟩ = some (.slice (some ⟨bb, ob, none⟩) n cb) from HT1.out)
  have hbd := (Below.refl W.heap.size W).drew
  have HW := Lib.hid (And.intro HT2.out.1.drew (And.intro (HT2.out.2.1.below hbd) (HT2.out.2.2.below hbd)))
  clear hbd HT1 HT2
  generalize W.drew = V at *
  iterate 2
    refine wpS_t rfl (v := ?_) (by rfl) (fun W => ?_) ?_
    rotate_left
    · go_simp
      try rfl
    try simp only [Act.put, List.setIfInBounds_toArray, List.set_cons_zero, List.set_cons_succ]
  refine wpS_s (by exact HS.out) rfl (v := ?_) (by rfl) (fun W hSW => ?_) ?_
  rotate_left
  · go_simp
    try rfl
  try simp only [Act.put, List.setIfInBounds_toArray, List.set_cons_zero, List.set_cons_succ]
  iterate 1
    refine wpS_t rfl (v := ?_) (by rfl) (fun W => ?_) ?_
    rotate_left
    · go_simp
      try rfl
    try simp only [Act.put, List.setIfInBounds_toArray, List.set_cons_zero, List.set_cons_succ]
  have g := HS.out.2
  refine wpS_k rfl (by rfl) (fun K hK => ?_)
  go_simp
  refine hK _ _ ⟨by exact HS.out, ?_⟩; clear hK K
  try simp only [Act.put, List.setIfInBounds_toArray, List.set_cons_zero, List.set_cons_succ]
  clear g
  iterate 1
    refine wpS_t rfl (v := ?_) (by rfl) (fun W => ?_) ?_
    rotate_left
    · go_simp
      try rfl
    try simp only [Act.put, List.setIfInBounds_toArray, List.set_cons_zero, List.set_cons_succ]
  refine wpS_done ?_
  clear HS
  by_cases h2 : n = 1
  · have h2' : ((n : Int) == 1) = true := by rw [beq_iff_eq]; omega
    obtain ⟨x, hx⟩ : ∃ x, a = [x] := List.length_eq_one_iff.1 (by have := HN.out.1; omega)
    obtain ⟨y, hy⟩ : ∃ x, b = [x] := List.length_eq_one_iff.1 (by have := HN.out.2; omega)
    subst hx hy
    obtain ⟨u1, hu1, hx1⟩ := HW.out.2.1.cell (sp := none) (j := 0) (by simp)
    obtain ⟨u2, hu2, hy1⟩ := HW.out.2.2.cell (sp := none) (j := 0) (by simp)
    rw [Nat.add_zero] at hu1 hu2
    have HU := Lib.hid (And.intro hu1 hu2)
    have HXY := Lib.hid (And.intro hx1 hy1)
    have hne : ¬ x = y := fun h => HX.out.1 (by rw [h])
    have hlf : lf x = lf y := by
      have := HX.out.2.1
      rw [List.map_cons, List.map_nil, List.map_cons, List.map_nil, rt_one, rt_one] at this
      exact this
    have HE := Lib.hid (And.intro hne (And.intro hlf (And.intro (HX.out.2.2.1 x (by simp)) (HX.out.2.2.2 y (by simp)))))
    clear hu1 hu2 hx1 hy1 hne hlf HX HA HB IH
    subst h2
    go_wp2_with fail
    refine wp_region_sched (fun V => V.cell? ⟨ba, oa, none⟩ = some u1 ∧ V.cell? ⟨bb, ob, none⟩ = some u2) [.t 0, .t 1, .t 3, .t 4, .s 2, .e 5 true, .e 6 true] (by kernel_rfl) (by kernel_rfl) (by intro c a d v w h; cases d <;> exact h) ?_
    have HS := Lib.hid (show V.drew.cell? ⟨ba, oa, none⟩ = some u1 ∧ V.drew.cell? ⟨bb, ob, none⟩ = some u2 from HU.out)
    have hbd := (Below.refl V.heap.size V).drew
    have HV2 := Lib.hid (And.intro (bytes_below HXY.out.1 hbd (Nat.le_refl _)) (And.intro (bytes_below HXY.out.2 hbd (Nat.le_refl _)) HW.out.1.drew))
    clear hbd HU HXY HW
    generalize V.drew = V2 at *
    iterate 4
      refine wpS_t rfl (v := ?_) (by rfl) (fun W => ?_) ?_
      rotate_left
      · go_simp
        try rfl
      try simp only [Act.put, List.setIfInBounds_toArray, List.set_cons_zero, List.set_cons_succ]
    refine wpS_s (by exact HS.out) rfl (v := ?_) (by rfl) (fun W hSW => ?_) ?_
    rotate_left
    · go_simp
      try rfl
    try simp only [Act.put, List.setIfInBounds_toArray, List.set_cons_zero, List.set_cons_succ]
    have g := HS.out.2
    refine wpS_k rfl (by rfl) (fun K hK => ?_)
    go_simp
    refine hK _ _ ⟨by exact HS.out, ?_⟩; clear hK K
    try simp only [Act.put, List.setIfInBounds_toArray, List.set_cons_zero, List.set_cons_succ]
    clear g
    refine wpS_k rfl (by rfl) (fun K hK => ?_)
    go_simp
    refine (ends_any x y u1 u2 V2 HV2.out.1 HV2.out.2.1 HE.out.2.2.1 HE.out.2.2.2 HE.out.1 HE.out.2.1).mono ?_
    intro e w3 h
    have hF := h.from_ HV2.out.2.2
    obtain ⟨va, vb, A, B, rfl, _⟩ := h
    exact ⟨rfl, hF⟩
  · have h2' : ((n : Int) == 1) = false := by rw [beq_eq_false_iff_ne]; omega
    obtain ⟨k, hk⟩ : ∃ k, k = cut n := ⟨_, rfl⟩
    have hk1 : 1 ≤ k := by rw [hk]; exact cut_pos n
    have hkn : k < n := by rw [hk]; exact cut_lt (by omega)
    have HK := Lib.hid (And.intro hk (And.intro hk1 hkn))
    have k0 : (0 : Int) ≤ (k : Int) := by omega
    have k1 : (k : Int) ≤ (n : Int) := by omega
    have k2 : (k : Int) ≤ (ca : Int) := by omega
    have k3 : (k : Int) ≤ (cb : Int) := by omega
    have k4 : ¬ (ca = k) := by omega
    have k5 : ¬ (cb = k) := by omega
    have k6 : ¬ (k = ca) := by omega
    have k7 : ¬ (k = cb) := by omega
    have hnda : rt (a.map lf) = nd (rt ((a.take k).map lf)) (rt ((a.drop k).map lf)) := by
      have := rt_lf a (by have := HN.out.1; omega)
      rw [← HN.out.1, ← hk] at this; exact this
    have hndb : rt (b.map lf) = nd (rt ((b.take k).map lf)) (rt ((b.drop k).map lf)) := by
      have := rt_lf b (by have := HN.out.2; omega)
      rw [← HN.out.2, ← hk] at this; exact this
    have hnn : nd (rt ((a.take k).map lf)) (rt ((a.drop k).map lf)) = nd (rt ((b.take k).map lf)) (rt ((b.drop k).map lf)) := by rw [← hnda, ← hndb]; exact HX.out.2.1
    have HNN := Lib.hid hnn
    clear hk hk1 hkn hnda hndb hnn
    go_wp2_with fail
    refine (ccut_any n V (by omega) (by omega)).mono ?_
    rw [← HK.out.1]
    rintro e V1 ⟨rfl, rfl⟩
    go_wp2_with fail
    have hsd := sides_any a k ba oa ca V (by rw [← HN.out.1]; exact HW.out.2.1) HK.out.2.1 (by rw [← HN.out.1]; exact HK.out.2.2) (by have := HN.out.1; omega) (fun x hx => by have := HX.out.2.2.1 x hx; omega)
    rw [← HN.out.1] at hsd
    obtain ⟨A1, hA1⟩ : ∃ r, r = rt ((a.take k).map lf) := ⟨_, rfl⟩
    obtain ⟨A2, hA2⟩ : ∃ r, r = rt ((a.drop k).map lf) := ⟨_, rfl⟩
    obtain ⟨B1, hB1⟩ : ∃ r, r = rt ((b.take k).map lf) := ⟨_, rfl⟩
    obtain ⟨B2, hB2⟩ : ∃ r, r = rt ((b.drop k).map lf) := ⟨_, rfl⟩
    rw [← hA1, ← hA2] at hsd
    have hN2 := HNN.out
    rw [← hA1, ← hA2, ← hB1, ← hB2] at hN2
    have HN2 := Lib.hid hN2
    have HE := Lib.hid (And.intro (And.intro hA1 hA2) (And.intro hB1 hB2))
    clear hN2 hA1 hA2 hB1 hB2 HNN
    refine hsd.mono ?_
    rintro e V1 ⟨rfl, hb⟩
    have HW1 := Lib.hid (And.intro (HW.out.1.trans (hb.mono HW.out.1.size)) (And.intro (HW.out.2.1.below hb) (HW.out.2.2.below hb)))
    clear hsd hb HW
    go_wp2_with fail
    have hsd := sides_any b k bb ob cb V1 (by rw [← HN.out.2]; exact HW1.out.2.2) HK.out.2.1 (by rw [← HN.out.2]; exact HK.out.2.2) (by have := HN.out.2; omega) (fun x hx => by have := HX.out.2.2.2 x hx; omega)
    rw [← HN.out.2, ← HE.out.2.1, ← HE.out.2.2] at hsd
    refine hsd.mono ?_
    rintro e V2 ⟨rfl, hb⟩
    have HW2 := Lib.hid (And.intro (HW1.out.1.trans (hb.mono HW1.out.1.size)) (And.intro (HW1.out.2.1.below hb) (HW1.out.2.2.below hb)))
    clear hsd hb HW1
    go_wp2_with fail
    by_cases hpp : A1 = B1 ∧ A2 = B2
    · obtain ⟨rfl, rfl⟩ := hpp
      refine (apart_same A1 A2 V2).mono ?_
      rintro e V3 ⟨rfl, hb⟩
      have HW3 := Lib.hid (And.intro (HW2.out.1.trans (hb.mono HW2.out.1.size)) (And.intro (HW2.out.2.1.below hb) (HW2.out.2.2.below hb)))
      clear hb HW2
      go_wp2_with fail
      refine wp_region_sched (fun _ => True) [.t 0, .t 1, .t 2, .t 3, .t 4, .t 5, .e 6 true] (by kernel_rfl) (by kernel_rfl) (by intro c a d v w h; cases d <;> exact h) ?_
      have hbd := (Below.refl V3.heap.size V3).drew
      have HW4 := Lib.hid (And.intro HW3.out.1.drew (And.intro (HW3.out.2.1.below hbd) (HW3.out.2.2.below hbd)))
      clear hbd HW3
      generalize V3.drew = V4 at *
      iterate 6
        refine wpS_t rfl (v := ?_) (by rfl) (fun W => ?_) ?_
        rotate_left
        · go_simp
          try rfl
        try simp only [Act.put, List.setIfInBounds_toArray, List.set_cons_zero, List.set_cons_succ]
      refine wpS_k rfl (by rfl) (fun K hK => ?_)
      go_simp
      have hka : k ≤ a.length := by have := HK.out.2.2; have := HN.out.1; omega
      have hkb : k ≤ b.length := by have := HK.out.2.2; have := HN.out.2; omega
      have HKL := Lib.hid (And.intro hka hkb)
      clear hka hkb
      refine (same_any (a.take k) (b.take k) _ _ V4 (HW4.out.2.1.take k HKL.out.1) (HW4.out.2.2.take k HKL.out.2) (by rw [List.length_take]; have := HN.out.1; omega)).mono ?_
      rintro e V5 ⟨rfl, rfl⟩
      refine hK _ _ ⟨by trivial, ?_⟩; clear hK K
      try simp only [Act.put, List.setIfInBounds_toArray, List.set_cons_zero, List.set_cons_succ]
      refine wpS_done ?_
      have hba : a = a.take k ++ a.drop k := (List.take_append_drop k a).symm
      have hbb : b = b.take k ++ b.drop k := (List.take_append_drop k b).symm
      by_cases htt : a.take k = b.take k
      · rw [decide_eq_true htt]
        have hdd : ¬ a.drop k = b.drop k := fun h => HX.out.1 (by rw [hba, hbb, htt, h])
        have HR := Lib.hid (And.intro hdd (HE.out.1.2.symm.trans HE.out.2.2))
        clear htt hdd hba hbb
        go_wp2_with fail
        refine wp_region_sched (fun _ => True) [.t 0, .t 1, .t 2, .t 3, .t 4, .t 5, .t 6, .e 7 true] (by kernel_rfl) (by kernel_rfl) (by intro c a d v w h; cases d <;> exact h) ?_
        have hbd := (Below.refl V4.heap.size V4).drew
        have HW5 := Lib.hid (And.intro HW4.out.1.drew (And.intro (HW4.out.2.1.below hbd) (HW4.out.2.2.below hbd)))
        clear hbd HW4
        generalize V4.drew = V5 at *
        iterate 7
          refine wpS_t rfl (v := ?_) (by rfl) (fun W => ?_) ?_
          rotate_left
          · go_simp
            try rfl
          try simp only [Act.put, List.setIfInBounds_toArray, List.set_cons_zero, List.set_cons_succ]
        refine wpS_k rfl (by rfl) (fun K hK => ?_)
        go_simp
        have hla := HW5.out.2.1.drop k (ca - k) HKL.out.1 (by rw [← HN.out.1]; omega) (by unfold maxLen; omega)
        have hlb := HW5.out.2.2.drop k (cb - k) HKL.out.2 (by rw [← HN.out.2]; omega) (by unfold maxLen; omega)
        rw [← HN.out.1] at hla
        rw [← HN.out.2] at hlb
        refine (IH.out (a.drop k) (b.drop k) _ _ V5 (by rw [List.length_drop]; have := HN.out.1; have := HK.out.2.1; omega) hla hlb (by rw [List.length_drop]; have := HN.out.1; have := HK.out.2.2; omega) (by rw [List.length_drop, List.length_drop]; have := HN.out; omega) HR.out.1 HR.out.2 (fun x hx => HX.out.2.2.1 x (List.mem_of_mem_drop hx)) (fun x hx => HX.out.2.2.2 x (List.mem_of_mem_drop hx))).mono ?_
        intro e w3 h
        have hF := h.from_ HW5.out.1
        obtain ⟨va, vb, A, B, rfl, _⟩ := h
        exact ⟨rfl, hF⟩
      · rw [decide_eq_false htt]
        have HR := Lib.hid (And.intro htt (HE.out.1.1.symm.trans HE.out.2.1))
        clear htt hba hbb
        go_wp2_with fail
        refine wp_region_sched (fun _ => True) [.t 0, .t 1, .t 2, .t 3, .t 4, .t 5, .t 6, .e 7 true] (by kernel_rfl) (by kernel_rfl) (by intro c a d v w h; cases d <;> exact h) ?_
        have hbd := (Below.refl V4.heap.size V4).drew
        have HW5 := Lib.hid (And.intro HW4.out.1.drew (And.intro (HW4.out.2.1.below hbd) (HW4.out.2.2.below hbd)))
        clear hbd HW4
        generalize V4.drew = V5 at *
        iterate 7
          refine wpS_t rfl (v := ?_) (by rfl) (fun W => ?_) ?_
          rotate_left
          · go_simp
            try rfl
          try simp only [Act.put, List.setIfInBounds_toArray, List.set_cons_zero, List.set_cons_succ]
        refine wpS_k rfl (by rfl) (fun K hK => ?_)
        go_simp
        refine (IH.out (a.take k) (b.take k) _ _ V5 (by rw [List.length_take]; have := HN.out.1; have := HK.out.2.2; omega) (HW5.out.2.1.take k HKL.out.1) (HW5.out.2.2.take k HKL.out.2) (by rw [List.length_take]; have := HN.out.1; have := HK.out.2.1; omega) (by rw [List.length_take, List.length_take]; have := HN.out; omega) HR.out.1 HR.out.2 (fun x hx => HX.out.2.2.1 x (List.mem_of_mem_take hx)) (fun x hx => HX.out.2.2.2 x (List.mem_of_mem_take hx))).mono ?_
        intro e w3 h
        have hF := h.from_ HW5.out.1
        obtain ⟨va, vb, A, B, rfl, _⟩ := h
        exact ⟨rfl, hF⟩
    · refine (apart_clash A1 A2 B1 B2 V2 hpp HN2.out).mono ?_
      intro e w3 h
      have hF := h.from_ HW2.out.1
      obtain ⟨va, vb, A, B, rfl, _⟩ := h
      exact ⟨rfl, hF⟩
theorem lists_any : ∀ (d : Nat) (a b : List (List UInt8)) (va vb : Value) (w : World), a.length ≤ d → ListsAt w va a → ListsAt w vb b → 1 ≤ a.length → a.length = b.length → ¬ a = b → rt (a.map lf) = rt (b.map lf) → a.length < 1000000 → SZ a → SZ b →
    Calls Try.prog 95 #[.agg #[va, vb]] w (ClashOf w) := by
  intro d
  induction d with
  | zero => intro a b va vb w h _ _ h1; omega
  | succ d ih =>
    intro a b va vb w hd ha hb h1 hab hne hrt hn hsa hsb
    exact lists_step a b va vb w ha hb h1 hab hne hrt hn hsa hsb (fun a' b' va vb w hl ha hb h1 hab hne hrt hsa hsb => ih a' b' va vb w (by omega) ha hb h1 hab hne hrt (by omega) hsa hsb)
end Go.Proofs.Ytdkcndgehgmadaa
