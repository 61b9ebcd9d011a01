/-
  Walks: the law ClashesIs.
-/
import Derived.Test.YtdkcndgehgmadaaB7
import Derived.Test.YtdkcndgehgmadaaB4
open Go Go.RowKit Alm
namespace Go.Proofs.Ytdkcndgehgmadaa
theorem isB_same (a b : List UInt8) (h : a = b) : isB a b = false ∧ isB b a = false := by
  subst h; unfold isB; simp
theorem isB_not (a b : List UInt8) (h : ¬ a = b) : isB a b = decide (sh a = sh b) ∧ isB b a = decide (sh a = sh b) := by
  have h2 : ¬ b = a := fun e => h e.symm
  unfold isB
  rw [decide_eq_false h, decide_eq_false h2]
  refine ⟨rfl, ?_⟩
  by_cases hs : sh a = sh b
  · rw [hs]; rfl
  · have hs2 : ¬ sh b = sh a := fun e => hs e.symm
    rw [decide_eq_false hs, decide_eq_false hs2]; rfl
set_option maxRecDepth 100000 in
set_option maxHeartbeats 2000000 in
theorem clashesIs_any (a b : List UInt8) (va vb : Value) (w : World) (ha : BytesAt w va a) (hb : BytesAt w vb b) (hla : a.length < 281474976710656) (hlb : b.length < 281474976710656) : Calls Try.prog 17 #[cv va vb] w fun e w' => e = .returned (.bool true) ∧ Below w.heap.size w w' := by
  have hb0 := al (Below.refl _ w) (.cells #[va, vb] 75)
  have HB0 := Lib.hid hb0
  have HT := Lib.hid (two_new w va vb 75)
  have HA := Lib.hid (bytes_below ha hb0 (Nat.le_refl _))
  have HBB := Lib.hid (bytes_below hb hb0 (Nat.le_refl _))
  obtain ⟨aa, ca, rfl, a1, a2, a3⟩ := ha
  obtain ⟨ab, cb, rfl, b1, b2, b3⟩ := hb
  clear a3 b3 hb0
  obtain ⟨n, hn⟩ : ∃ n, n = a.length := ⟨_, rfl⟩
  obtain ⟨m, hm⟩ : ∃ n, n = b.length := ⟨_, rfl⟩
  rw [← hn] at HT HA HBB HB0 hla ⊢
  rw [← hm] at HT HA HBB HB0 hlb ⊢
  have HN := Lib.hid (And.intro hn hm)
  clear hn hm a1 a2 b1 b2
  have n1 : (n : Int) < 281474976710656 := by omega
  have n2 : (m : Int) < 281474976710656 := by omega
  have c0 := HT.out.1
  have c1 := HT.out.2
  by_cases hbig : 20000 < n + m
  · have hbig' : (20000 : Int) < (n : Int) + (m : Int) := by omega
    go_enter Try.func17, Try.ntmps17
    go_wp2_with fail
    refine (alive_clashes _).mono ?_
    rintro e w1 ⟨rfl, hb⟩
    have HF := Lib.hid (HB0.out.trans (hb.mono HB0.out.size))
    clear hb c0 c1
    go_wp2_with fail
    exact bodyPost_ret (results_tmp rfl _ _ _) rfl ⟨rfl, HF.out⟩
  have hbig' : ¬ (20000 : Int) < (n : Int) + (m : Int) := by omega
  have HL : Hid (a.length < 1000000 ∧ b.length < 1000000) := Lib.hid (by have := HN.out; omega)
  go_enter Try.func17, Try.ntmps17
  go_wp2_with fail
  obtain ⟨z, hz⟩ : ∃ z, z = w.heap.size := ⟨_, rfl⟩
  rw [← hz] at HT ⊢
  clear hz c0 c1 n1 n2 hbig'
  generalize w.alloc (.cells #[.slice aa n ca, .slice ab m cb] 75) = W at *
  have HI : Hid (∀ V, Below W.heap.size W V → Calls Try.prog 51 #[cv (.slice aa n ca) (.slice ab m cb)] V fun e w' => e = .returned (.bool (isB a b)) ∧ Below V.heap.size V w') := Lib.hid (fun V hV => is_any a b _ _ V (bytes_below HA.out hV (Nat.le_refl _)) (bytes_below HBB.out hV (Nat.le_refl _)) HL.out.1 HL.out.2)
  have HJ : Hid (∀ V, Below W.heap.size W V → Calls Try.prog 51 #[cv (.slice ab m cb) (.slice aa n ca)] V fun e w' => e = .returned (.bool (isB b a)) ∧ Below V.heap.size V w') := Lib.hid (fun V hV => is_any b a _ _ V (bytes_below HBB.out hV (Nat.le_refl _)) (bytes_below HA.out hV (Nat.le_refl _)) HL.out.2 HL.out.1)
  have HK : Hid (∀ V, Below W.heap.size W V → Calls Try.prog 52 #[.slice aa n ca, .slice ab m cb] V fun e w' => e = .returned (.bool (decide (a = b))) ∧ Below V.heap.size V w') := Lib.hid (fun V hV => same_bytes a b _ _ V (bytes_below HA.out hV (Nat.le_refl _)) (bytes_below HBB.out hV (Nat.le_refl _)))
  have HSA : Hid (∀ V, Below W.heap.size W V → Calls Try.prog 49 #[.slice aa n ca] V fun e w' => e = .returned (sv (sh a)) ∧ Below V.heap.size V w') := Lib.hid (fun V hV => sh_any a _ V (bytes_below HA.out hV (Nat.le_refl _)) (by have := HL.out.1; omega))
  have HSB : Hid (∀ V, Below W.heap.size W V → Calls Try.prog 49 #[.slice ab m cb] V fun e w' => e = .returned (sv (sh b)) ∧ Below V.heap.size V w') := Lib.hid (fun V hV => sh_any b _ V (bytes_below HBB.out hV (Nat.le_refl _)) (by have := HL.out.2; omega))
  have HSS : Hid (∀ V, Below W.heap.size W V → V.cell? ⟨z, 0, none⟩ = some (.slice aa n ca) ∧ V.cell? ⟨z, 1, none⟩ = some (.slice ab m cb) ∧ Below W.heap.size W V) := Lib.hid (fun V hV => ⟨bc HT.out.1 hV, bc HT.out.2 hV, hV⟩)
  clear HA HBB HT
  refine (HI.out W (Below.refl _ _)).mono ?_
  rintro e V1 ⟨rfl, hb⟩
  have HS := Lib.hid hb
  clear hb
  by_cases hab : a = b
  · have HD : Hid (decide (a = b) = true) := Lib.hid (decide_eq_true hab)
    have h2 := isB_same a b hab
    have HR2 := Lib.hid h2.2
    rw [h2.1]
    clear h2 hab
    go_wp2_with fail
    refine wp_region_sched (fun V => V.cell? ⟨z, 0, none⟩ = some (.slice aa n ca) ∧ V.cell? ⟨z, 1, none⟩ = some (.slice ab m cb) ∧ Below W.heap.size W V) [.e 0 true, .t 1, .t 2, .t 3, .t 5, .s 4, .e 6 true, .e 7 true, .t 8, .t 9, .t 10, .t 13, .s 11, .s 14, .e 12 true, .e 15 true, .t 16, .t 17, .t 18, .t 19, .t 20, .t 21, .t 22, .t 24, .s 23, .e 25 true, .t 26, .e 27 true, .t 28, .t 29, .t 30] (by kernel_rfl) (by kernel_rfl) (by intro c a d v w h; cases d <;> exact h) ?_
    replace HS := Lib.hid HS.out.drew
    generalize V1.drew = V at *
    refine wpS_k rfl (by rfl) (fun K hK => ?_)
    go_simp
    refine (alive_clashes V).mono ?_
    rintro e V ⟨rfl, hb⟩
    replace HS := Lib.hid (HS.out.trans (hb.mono HS.out.size)); clear hb
    refine hK _ _ ⟨by exact HSS.out _ HS.out, ?_⟩; clear hK K
    try simp only [Act.put, List.setIfInBounds_toArray, List.set_cons_zero, List.set_cons_succ]
    iterate 4
      refine wpS_t rfl (v := ?_) (by rfl) (fun W => ?_) ?_
      rotate_left
      · go_simp
        try rfl
      try simp only [Act.put, List.setIfInBounds_toArray, List.set_cons_zero, List.set_cons_succ]
    refine wpS_s (by exact HSS.out _ HS.out) rfl (v := ?_) (by rfl) (fun W hSW => ?_) ?_
    rotate_left
    · go_simp
      try rfl
    try simp only [Act.put, List.setIfInBounds_toArray, List.set_cons_zero, List.set_cons_succ]
    have g := (HSS.out _ HS.out).2.1
    refine wpS_k rfl (by rfl) (fun K hK => ?_)
    go_simp
    refine hK _ _ ⟨by exact HSS.out _ HS.out, ?_⟩; clear hK K
    try simp only [Act.put, List.setIfInBounds_toArray, List.set_cons_zero, List.set_cons_succ]
    clear g
    refine wpS_k rfl (by rfl) (fun K hK => ?_)
    go_simp
    refine (HK.out V HS.out).mono ?_
    rw [HD.out]
    rintro e V ⟨rfl, hb⟩
    replace HS := Lib.hid (HS.out.trans (hb.mono HS.out.size)); clear hb
    refine hK _ _ ⟨by exact HSS.out _ HS.out, ?_⟩; clear hK K
    try simp only [Act.put, List.setIfInBounds_toArray, List.set_cons_zero, List.set_cons_succ]
    iterate 2
      refine wpS_t rfl (v := ?_) (by rfl) (fun W => ?_) ?_
      rotate_left
      · go_simp
        try rfl
      try simp only [Act.put, List.setIfInBounds_toArray, List.set_cons_zero, List.set_cons_succ]
    iterate 2
      refine wpS_t_skip rfl (by rfl) ?_
      try simp only [Act.put, List.setIfInBounds_toArray, List.set_cons_zero, List.set_cons_succ]
    iterate 2
      refine wpS_s_skip (by exact HSS.out _ HS.out) rfl (by rfl) ?_
      try simp only [Act.put, List.setIfInBounds_toArray, List.set_cons_zero, List.set_cons_succ]
    refine wpS_k_skip (by exact HSS.out _ HS.out) rfl (by rfl) ?_
    try simp only [Act.put, List.setIfInBounds_toArray, List.set_cons_zero, List.set_cons_succ]
    refine wpS_k_skip (by exact HSS.out _ HS.out) rfl (by rfl) ?_
    try simp only [Act.put, List.setIfInBounds_toArray, List.set_cons_zero, List.set_cons_succ]
    iterate 1
      refine wpS_t_skip rfl (by rfl) ?_
      try simp only [Act.put, List.setIfInBounds_toArray, List.set_cons_zero, List.set_cons_succ]
    iterate 7
      refine wpS_t rfl (v := ?_) (by rfl) (fun W => ?_) ?_
      rotate_left
      · go_simp
        try rfl
      try simp only [Act.put, List.setIfInBounds_toArray, List.set_cons_zero, List.set_cons_succ]
    refine wpS_s (by exact HSS.out _ HS.out) rfl (v := ?_) (by rfl) (fun W hSW => ?_) ?_
    rotate_left
    · go_simp
      try rfl
    try simp only [Act.put, List.setIfInBounds_toArray, List.set_cons_zero, List.set_cons_succ]
    have g := (HSS.out _ HS.out).1
    refine wpS_k rfl (by rfl) (fun K hK => ?_)
    go_simp
    refine hK _ _ ⟨by exact HSS.out _ HS.out, ?_⟩; clear hK K
    try simp only [Act.put, List.setIfInBounds_toArray, List.set_cons_zero, List.set_cons_succ]
    clear g
    iterate 1
      refine wpS_t rfl (v := ?_) (by rfl) (fun W => ?_) ?_
      rotate_left
      · go_simp
        try rfl
      try simp only [Act.put, List.setIfInBounds_toArray, List.set_cons_zero, List.set_cons_succ]
    refine wpS_k rfl (by rfl) (fun K hK => ?_)
    go_simp
    refine (HJ.out V HS.out).mono ?_
    rw [HR2.out]
    rintro e V ⟨rfl, hb⟩
    replace HS := Lib.hid (HS.out.trans (hb.mono HS.out.size)); clear hb
    refine hK _ _ ⟨by exact HSS.out _ HS.out, ?_⟩; clear hK K
    try simp only [Act.put, List.setIfInBounds_toArray, List.set_cons_zero, List.set_cons_succ]
    iterate 3
      refine wpS_t rfl (v := ?_) (by rfl) (fun W => ?_) ?_
      rotate_left
      · go_simp
        try rfl
      try simp only [Act.put, List.setIfInBounds_toArray, List.set_cons_zero, List.set_cons_succ]
    refine wpS_done ?_
    go_wp2_with fail
    exact bodyPost_ret (results_tmp rfl _ _ _) rfl ⟨rfl, HB0.out.trans (HS.out.mono HB0.out.size)⟩
  · have HD : Hid (decide (a = b) = false) := Lib.hid (decide_eq_false hab)
    have h2 := isB_not a b hab
    obtain ⟨s, hs⟩ : ∃ s, s = sh a := ⟨_, rfl⟩
    obtain ⟨t, ht⟩ : ∃ s, s = sh b := ⟨_, rfl⟩
    rw [← hs, ← ht] at h2
    have HRS := Lib.hid hs
    have HRT := Lib.hid ht
    clear hs ht hab
    by_cases hst : s = t
    · rw [decide_eq_true hst] at h2
      have HR2 := Lib.hid h2.2
      have hes : ∀ w : World, (Op.equalIn 10000 24 (.agg (cellsOf s).toArray) (.agg (cellsOf t).toArray)).run Try.prog w = .ok true w := fun w => by rw [eq_sums]; simp [hst]
      have HES := Lib.hid hes
      rw [h2.1]
      clear h2 hes hst
      go_wp2_with fail
      refine wp_region_sched (fun V => V.cell? ⟨z, 0, none⟩ = some (.slice aa n ca) ∧ V.cell? ⟨z, 1, none⟩ = some (.slice ab m cb) ∧ Below W.heap.size W V) [.e 0 true, .t 1, .t 2, .t 3, .t 5, .s 4, .e 6 true, .e 7 true, .t 8, .t 9, .t 10, .t 13, .s 11, .s 14, .e 12 true, .e 15 true, .t 16, .t 17, .t 18, .t 19, .t 20, .t 21, .t 22, .t 24, .s 23, .e 25 true, .t 26, .e 27 true, .t 28, .t 29, .t 30] (by kernel_rfl) (by kernel_rfl) (by intro c a d v w h; cases d <;> exact h) ?_
      replace HS := Lib.hid HS.out.drew
      generalize V1.drew = V at *
      refine wpS_k rfl (by rfl) (fun K hK => ?_)
      go_simp
      refine (alive_clashes V).mono ?_
      rintro e V ⟨rfl, hb⟩
      replace HS := Lib.hid (HS.out.trans (hb.mono HS.out.size)); clear hb
      refine hK _ _ ⟨by exact HSS.out _ HS.out, ?_⟩; clear hK K
      try simp only [Act.put, List.setIfInBounds_toArray, List.set_cons_zero, List.set_cons_succ]
      iterate 4
        refine wpS_t rfl (v := ?_) (by rfl) (fun W => ?_) ?_
        rotate_left
        · go_simp
          try rfl
        try simp only [Act.put, List.setIfInBounds_toArray, List.set_cons_zero, List.set_cons_succ]
      refine wpS_s (by exact HSS.out _ HS.out) rfl (v := ?_) (by rfl) (fun W hSW => ?_) ?_
      rotate_left
      · go_simp
        try rfl
      try simp only [Act.put, List.setIfInBounds_toArray, List.set_cons_zero, List.set_cons_succ]
      have g := (HSS.out _ HS.out).2.1
      refine wpS_k rfl (by rfl) (fun K hK => ?_)
      go_simp
      refine hK _ _ ⟨by exact HSS.out _ HS.out, ?_⟩; clear hK K
      try simp only [Act.put, List.setIfInBounds_toArray, List.set_cons_zero, List.set_cons_succ]
      clear g
      refine wpS_k rfl (by rfl) (fun K hK => ?_)
      go_simp
      refine (HK.out V HS.out).mono ?_
      rw [HD.out]
      rintro e V ⟨rfl, hb⟩
      replace HS := Lib.hid (HS.out.trans (hb.mono HS.out.size)); clear hb
      refine hK _ _ ⟨by exact HSS.out _ HS.out, ?_⟩; clear hK K
      try simp only [Act.put, List.setIfInBounds_toArray, List.set_cons_zero, List.set_cons_succ]
      iterate 2
        refine wpS_t rfl (v := ?_) (by rfl) (fun W => ?_) ?_
        rotate_left
        · go_simp
          try rfl
        try simp only [Act.put, List.setIfInBounds_toArray, List.set_cons_zero, List.set_cons_succ]
      iterate 2
        refine wpS_t rfl (v := ?_) (by rfl) (fun W => ?_) ?_
        rotate_left
        · go_simp
          try rfl
        try simp only [Act.put, List.setIfInBounds_toArray, List.set_cons_zero, List.set_cons_succ]
      refine wpS_s (by exact HSS.out _ HS.out) rfl (v := ?_) (by rfl) (fun W hSW => ?_) ?_
      rotate_left
      · go_simp
        try rfl
      try simp only [Act.put, List.setIfInBounds_toArray, List.set_cons_zero, List.set_cons_succ]
      refine wpS_s (by exact HSS.out _ HS.out) rfl (v := ?_) (by rfl) (fun W hSW => ?_) ?_
      rotate_left
      · go_simp
        try rfl
      try simp only [Act.put, List.setIfInBounds_toArray, List.set_cons_zero, List.set_cons_succ]
      refine wpS_k rfl (by rfl) (fun K hK => ?_)
      go_simp
      refine (HSA.out V HS.out).mono ?_
      rw [← HRS.out]
      rintro e V ⟨rfl, hb⟩
      replace HS := Lib.hid (HS.out.trans (hb.mono HS.out.size)); clear hb
      refine hK _ _ ⟨by exact HSS.out _ HS.out, ?_⟩; clear hK K
      try simp only [Act.put, List.setIfInBounds_toArray, List.set_cons_zero, List.set_cons_succ]
      refine wpS_k rfl (by rfl) (fun K hK => ?_)
      go_simp
      refine (HSB.out V HS.out).mono ?_
      rw [← HRT.out]
      rintro e V ⟨rfl, hb⟩
      replace HS := Lib.hid (HS.out.trans (hb.mono HS.out.size)); clear hb
      refine hK _ _ ⟨by exact HSS.out _ HS.out, ?_⟩; clear hK K
      try simp only [Act.put, List.setIfInBounds_toArray, List.set_cons_zero, List.set_cons_succ]
      have hes := HES.out
      iterate 1
        refine wpS_t rfl (v := ?_) (by rfl) (fun W => ?_) ?_
        rotate_left
        · go_simp
          try rfl
        try simp only [Act.put, List.setIfInBounds_toArray, List.set_cons_zero, List.set_cons_succ]
      clear hes
      iterate 7
        refine wpS_t rfl (v := ?_) (by rfl) (fun W => ?_) ?_
        rotate_left
        · go_simp
          try rfl
        try simp only [Act.put, List.setIfInBounds_toArray, List.set_cons_zero, List.set_cons_succ]
      refine wpS_s (by exact HSS.out _ HS.out) rfl (v := ?_) (by rfl) (fun W hSW => ?_) ?_
      rotate_left
      · go_simp
        try rfl
      try simp only [Act.put, List.setIfInBounds_toArray, List.set_cons_zero, List.set_cons_succ]
      have g := (HSS.out _ HS.out).1
      refine wpS_k rfl (by rfl) (fun K hK => ?_)
      go_simp
      refine hK _ _ ⟨by exact HSS.out _ HS.out, ?_⟩; clear hK K
      try simp only [Act.put, List.setIfInBounds_toArray, List.set_cons_zero, List.set_cons_succ]
      clear g
      iterate 1
        refine wpS_t rfl (v := ?_) (by rfl) (fun W => ?_) ?_
        rotate_left
        · go_simp
          try rfl
        try simp only [Act.put, List.setIfInBounds_toArray, List.set_cons_zero, List.set_cons_succ]
      refine wpS_k rfl (by rfl) (fun K hK => ?_)
      go_simp
      refine (HJ.out V HS.out).mono ?_
      rw [HR2.out]
      rintro e V ⟨rfl, hb⟩
      replace HS := Lib.hid (HS.out.trans (hb.mono HS.out.size)); clear hb
      refine hK _ _ ⟨by exact HSS.out _ HS.out, ?_⟩; clear hK K
      try simp only [Act.put, List.setIfInBounds_toArray, List.set_cons_zero, List.set_cons_succ]
      iterate 3
        refine wpS_t rfl (v := ?_) (by rfl) (fun W => ?_) ?_
        rotate_left
        · go_simp
          try rfl
        try simp only [Act.put, List.setIfInBounds_toArray, List.set_cons_zero, List.set_cons_succ]
      refine wpS_done ?_
      go_wp2_with fail
      exact bodyPost_ret (results_tmp rfl _ _ _) rfl ⟨rfl, HB0.out.trans (HS.out.mono HB0.out.size)⟩
    · rw [decide_eq_false hst] at h2
      have HR2 := Lib.hid h2.2
      have hes : ∀ w : World, (Op.equalIn 10000 24 (.agg (cellsOf s).toArray) (.agg (cellsOf t).toArray)).run Try.prog w = .ok false w := fun w => by rw [eq_sums]; simp [hst]
      have HES := Lib.hid hes
      rw [h2.1]
      clear h2 hes hst
      go_wp2_with fail
      refine wp_region_sched (fun V => V.cell? ⟨z, 0, none⟩ = some (.slice aa n ca) ∧ V.cell? ⟨z, 1, none⟩ = some (.slice ab m cb) ∧ Below W.heap.size W V) [.e 0 true, .t 1, .t 2, .t 3, .t 5, .s 4, .e 6 true, .e 7 true, .t 8, .t 9, .t 10, .t 13, .s 11, .s 14, .e 12 true, .e 15 true, .t 16, .t 17, .t 18, .t 19, .t 20, .t 21, .t 22, .t 24, .s 23, .e 25 true, .t 26, .e 27 true, .t 28, .t 29, .t 30] (by kernel_rfl) (by kernel_rfl) (by intro c a d v w h; cases d <;> exact h) ?_
      replace HS := Lib.hid HS.out.drew
      generalize V1.drew = V at *
      refine wpS_k rfl (by rfl) (fun K hK => ?_)
      go_simp
      refine (alive_clashes V).mono ?_
      rintro e V ⟨rfl, hb⟩
      replace HS := Lib.hid (HS.out.trans (hb.mono HS.out.size)); clear hb
      refine hK _ _ ⟨by exact HSS.out _ HS.out, ?_⟩; clear hK K
      try simp only [Act.put, List.setIfInBounds_toArray, List.set_cons_zero, List.set_cons_succ]
      iterate 4
        refine wpS_t rfl (v := ?_) (by rfl) (fun W => ?_) ?_
        rotate_left
        · go_simp
          try rfl
        try simp only [Act.put, List.setIfInBounds_toArray, List.set_cons_zero, List.set_cons_succ]
      refine wpS_s (by exact HSS.out _ HS.out) rfl (v := ?_) (by rfl) (fun W hSW => ?_) ?_
      rotate_left
      · go_simp
        try rfl
      try simp only [Act.put, List.setIfInBounds_toArray, List.set_cons_zero, List.set_cons_succ]
      have g := (HSS.out _ HS.out).2.1
      refine wpS_k rfl (by rfl) (fun K hK => ?_)
      go_simp
      refine hK _ _ ⟨by exact HSS.out _ HS.out, ?_⟩; clear hK K
      try simp only [Act.put, List.setIfInBounds_toArray, List.set_cons_zero, List.set_cons_succ]
      clear g
      refine wpS_k rfl (by rfl) (fun K hK => ?_)
      go_simp
      refine (HK.out V HS.out).mono ?_
      rw [HD.out]
      rintro e V ⟨rfl, hb⟩
      replace HS := Lib.hid (HS.out.trans (hb.mono HS.out.size)); clear hb
      refine hK _ _ ⟨by exact HSS.out _ HS.out, ?_⟩; clear hK K
      try simp only [Act.put, List.setIfInBounds_toArray, List.set_cons_zero, List.set_cons_succ]
      iterate 2
        refine wpS_t rfl (v := ?_) (by rfl) (fun W => ?_) ?_
        rotate_left
        · go_simp
          try rfl
        try simp only [Act.put, List.setIfInBounds_toArray, List.set_cons_zero, List.set_cons_succ]
      iterate 2
        refine wpS_t rfl (v := ?_) (by rfl) (fun W => ?_) ?_
        rotate_left
        · go_simp
          try rfl
        try simp only [Act.put, List.setIfInBounds_toArray, List.set_cons_zero, List.set_cons_succ]
      refine wpS_s (by exact HSS.out _ HS.out) rfl (v := ?_) (by rfl) (fun W hSW => ?_) ?_
      rotate_left
      · go_simp
        try rfl
      try simp only [Act.put, List.setIfInBounds_toArray, List.set_cons_zero, List.set_cons_succ]
      refine wpS_s (by exact HSS.out _ HS.out) rfl (v := ?_) (by rfl) (fun W hSW => ?_) ?_
      rotate_left
      · go_simp
        try rfl
      try simp only [Act.put, List.setIfInBounds_toArray, List.set_cons_zero, List.set_cons_succ]
      refine wpS_k rfl (by rfl) (fun K hK => ?_)
      go_simp
      refine (HSA.out V HS.out).mono ?_
      rw [← HRS.out]
      rintro e V ⟨rfl, hb⟩
      replace HS := Lib.hid (HS.out.trans (hb.mono HS.out.size)); clear hb
      refine hK _ _ ⟨by exact HSS.out _ HS.out, ?_⟩; clear hK K
      try simp only [Act.put, List.setIfInBounds_toArray, List.set_cons_zero, List.set_cons_succ]
      refine wpS_k rfl (by rfl) (fun K hK => ?_)
      go_simp
      refine (HSB.out V HS.out).mono ?_
      rw [← HRT.out]
      rintro e V ⟨rfl, hb⟩
      replace HS := Lib.hid (HS.out.trans (hb.mono HS.out.size)); clear hb
      refine hK _ _ ⟨by exact HSS.out _ HS.out, ?_⟩; clear hK K
      try simp only [Act.put, List.setIfInBounds_toArray, List.set_cons_zero, List.set_cons_succ]
      have hes := HES.out
      iterate 1
        refine wpS_t rfl (v := ?_) (by rfl) (fun W => ?_) ?_
        rotate_left
        · go_simp
          try rfl
        try simp only [Act.put, List.setIfInBounds_toArray, List.set_cons_zero, List.set_cons_succ]
      clear hes
      iterate 7
        refine wpS_t rfl (v := ?_) (by rfl) (fun W => ?_) ?_
        rotate_left
        · go_simp
          try rfl
        try simp only [Act.put, List.setIfInBounds_toArray, List.set_cons_zero, List.set_cons_succ]
      refine wpS_s (by exact HSS.out _ HS.out) rfl (v := ?_) (by rfl) (fun W hSW => ?_) ?_
      rotate_left
      · go_simp
        try rfl
      try simp only [Act.put, List.setIfInBounds_toArray, List.set_cons_zero, List.set_cons_succ]
      have g := (HSS.out _ HS.out).1
      refine wpS_k rfl (by rfl) (fun K hK => ?_)
      go_simp
      refine hK _ _ ⟨by exact HSS.out _ HS.out, ?_⟩; clear hK K
      try simp only [Act.put, List.setIfInBounds_toArray, List.set_cons_zero, List.set_cons_succ]
      clear g
      iterate 1
        refine wpS_t rfl (v := ?_) (by rfl) (fun W => ?_) ?_
        rotate_left
        · go_simp
          try rfl
        try simp only [Act.put, List.setIfInBounds_toArray, List.set_cons_zero, List.set_cons_succ]
      refine wpS_k rfl (by rfl) (fun K hK => ?_)
      go_simp
      refine (HJ.out V HS.out).mono ?_
      rw [HR2.out]
      rintro e V ⟨rfl, hb⟩
      replace HS := Lib.hid (HS.out.trans (hb.mono HS.out.size)); clear hb
      refine hK _ _ ⟨by exact HSS.out _ HS.out, ?_⟩; clear hK K
      try simp only [Act.put, List.setIfInBounds_toArray, List.set_cons_zero, List.set_cons_succ]
      iterate 3
        refine wpS_t rfl (v := ?_) (by rfl) (fun W => ?_) ?_
        rotate_left
        · go_simp
          try rfl
        try simp only [Act.put, List.setIfInBounds_toArray, List.set_cons_zero, List.set_cons_succ]
      refine wpS_done ?_
      go_wp2_with fail
      exact bodyPost_ret (results_tmp rfl _ _ _) rfl ⟨rfl, HB0.out.trans (HS.out.mono HB0.out.size)⟩
end Go.Proofs.Ytdkcndgehgmadaa
