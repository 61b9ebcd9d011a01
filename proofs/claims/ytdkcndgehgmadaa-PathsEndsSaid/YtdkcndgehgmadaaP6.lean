/-
  Walks: the law PathsEnds.
-/
import Derived.Test.YtdkcndgehgmadaaP5
import Derived.Test.YtdkcndgehgmadaaArgs4
open Go Go.RowKit Alm
namespace Go.Proofs.Ytdkcndgehgmadaa
/-- What is said of a path, in a variable. -/
def PSaidAt (W : World) (z : Nat) (a : Sum) (m n : Nat) (v : Value) (b : Sum) : Prop :=
  W.rangeAt z 0 (cellsOf a) ∧ W.cell? ⟨z, 32, none⟩ = some (.int .u64 (m : Int)) ∧ W.cell? ⟨z, 33, none⟩ = some (.int .u64 (n : Int)) ∧ W.cell? ⟨z, 34, none⟩ = some v ∧ W.rangeAt z 35 (cellsOf b)
theorem PSaidAt.below {W W' : World} {z m n : Nat} {a b : Sum} {v : Value} (h : PSaidAt W z a m n v b) (hb : Below W.heap.size W W') : PSaidAt W' z a m n v b := by
  have k := Keeps.of_below (X := fun _ => False) hb
  exact ⟨k.range h.1 (fun h => h), k.cell (a := ⟨z, 32, none⟩) h.2.1 (fun h => h), k.cell (a := ⟨z, 33, none⟩) h.2.2.1 (fun h => h), k.cell (a := ⟨z, 34, none⟩) h.2.2.2.1 (fun h => h), k.range h.2.2.2.2 (fun h => h)⟩
theorem psaid_new (w : World) (m n : Nat) (a b : Sum) (v : Value) : PSaidAt (w.alloc (.cells (cellsOf a ++ [Value.int .u64 (m : Int), .int .u64 (n : Int), v] ++ cellsOf b).toArray 34)) w.heap.size a m n v b := by
  have h := range_new w (cellsOf a ++ [Value.int .u64 (m : Int), .int .u64 (n : Int), v] ++ cellsOf b).toArray 34 _ rfl
  rw [List.toList_toArray, range_append, range_append] at h
  obtain ⟨⟨h1, h2⟩, h3⟩ := h
  simp only [List.length_append, length_cellsOf, List.length_cons, List.length_nil, Nat.zero_add, Nat.reduceAdd] at h2 h3
  exact ⟨h1, h2 0 _ rfl, h2 1 _ rfl, h2 2 _ rfl, h3⟩
theorem wpList_box_psaid {ops : Array Oper} {rest : List Oper} {op : Oper} {a : Act} {w : World} {Q : Exit → Act → World → Prop} (hgd : op.guard = none) (x : Operand) (ho : op.op = .box 34 x)
    (s : Sum) (m n : Nat) (v : Value) (t : Sum) (hx : a.eval x = said10 s m n v t)
    (h : ∀ W', Below w.heap.size w W' → PSaidAt W' w.heap.size s m n v t → wpList Try.prog ops Q rest (a.put op.dst (.pointer (some ⟨w.heap.size, 0, none⟩))) W') : wpList Try.prog ops Q (op :: rest) a w :=
  wpList_plain hgd fun _ hK => by
    have h := h _ (al (Below.refl _ w) _) (psaid_new w m n s t v)
    unfold Oper.wp execOp
    simp only [ho, hx]
    go_simp
    simp only [List.cons_append, List.nil_append, List.append_assoc] at h
    exact hK _ _ h
theorem pse {w1 V V' : World} {z n : Nat} {v : Value} (h : V.cell? ⟨z, 33, none⟩ = some (.int .u64 (n : Int)) ∧ V.cell? ⟨z, 34, none⟩ = some v ∧ Below w1.heap.size w1 V) (hb : Below V.heap.size V V') :
    V'.cell? ⟨z, 33, none⟩ = some (.int .u64 (n : Int)) ∧ V'.cell? ⟨z, 34, none⟩ = some v ∧ Below w1.heap.size w1 V' := by
  have k := Keeps.of_below (X := fun _ => False) hb
  exact ⟨k.cell (a := ⟨z, 33, none⟩) h.1 (fun h => h), k.cell (a := ⟨z, 34, none⟩) h.2.1 (fun h => h), h.2.2.trans (hb.mono h.2.2.size)⟩
set_option maxRecDepth 100000 in
set_option maxHeartbeats 2000000 in
theorem pathsEnds_any (a : Sum) (m n : Nat) (v : Value) (l : List Sum) (b : Sum) (w : World) (hv : SumsAt w v l) : Calls Try.prog 4 #[said10 a m n v b] w fun e w' => e = .returned (.bool true) ∧ Below w.heap.size w w' := by
  have HV := Lib.hid hv
  obtain ⟨ad, cap, rfl, h1, h2, h3⟩ := hv
  obtain ⟨k, hk⟩ : ∃ n, n = l.length := ⟨_, rfl⟩
  rw [← hk] at h1 HV ⊢
  have HN := Lib.hid hk; clear hk h3
  unfold maxLen at h2
  by_cases hbig : 200 < k
  · have hbig' : (200 : Int) < (k : Int) := by omega
    go_enter Try.func4, Try.ntmps4
    go_wp2_with (refine wpList_box_psaid rfl _ rfl a m n _ b rfl ?_; intro W1 hb1 hs1; have HB := Lib.hid hb1; have hc := hs1.2.2.2.1; clear hb1 hs1)
    refine (alive_paths W1).mono ?_
    rintro e w1 ⟨rfl, hb⟩
    go_wp2_with fail
    exact bodyPost_ret (results_tmp rfl _ _ _) rfl ⟨rfl, HB.out.trans (hb.mono HB.out.size)⟩
  · have hbig' : ¬ (200 : Int) < (k : Int) := by omega
    obtain ⟨x, hx⟩ : ∃ x, x = max m n := ⟨_, rfl⟩
    have hxn : n ≤ x := by omega
    have hmax : max (m : Int) (n : Int) = (x : Int) := by omega
    clear hx
    go_enter Try.func4, Try.ntmps4
    have HBX := Lib.hid trivial
    go_wp2_with (have _ := HBX; refine wpList_box_psaid rfl _ rfl a m n _ b rfl ?_; intro W1 hb1 hs1; have HB := Lib.hid hb1; have HW2 := Lib.hid hs1; have hc0 := hs1.2.1; have hc1 := hs1.2.2.1; have hc := hs1.2.2.2.1; clear hb1 hs1 HBX)
    obtain ⟨z, hz⟩ : ∃ z, z = w.heap.size := ⟨_, rfl⟩
    rw [← hz] at HW2 hc0 hc1 hc ⊢
    have hzz := hz
    clear hz hc0 hc1 hc
    have HV1 := Lib.hid (HV.out.below HB.out (Nat.le_refl _))
    have HA := Lib.hid HW2.out.1
    have HBB := Lib.hid HW2.out.2.2.2.2
    have HS0 : Hid (∀ {V}, Below W1.heap.size W1 V → V.cell? ⟨z, 33, none⟩ = some (.int .u64 (n : Int)) ∧ V.cell? ⟨z, 34, none⟩ = some (.slice ad k cap) ∧ Below W1.heap.size W1 V) := Lib.hid (fun h => pse ⟨HW2.out.2.2.1, HW2.out.2.2.2.1, Below.refl _ _⟩ h)
    clear hmax hzz
    refine wp_region_sched (fun V => V.cell? ⟨z, 33, none⟩ = some (.int .u64 (n : Int)) ∧ V.cell? ⟨z, 34, none⟩ = some (.slice ad k cap) ∧ Below W1.heap.size W1 V) [.e 0 true, .t 1, .t 2, .t 4, .t 5, .t 7, .t 9, .s 3, .s 6, .s 8, .e 10 true, .e 11 true, .t 12, .t 13, .t 14, .t 15, .t 17, .t 19, .t 22, .s 16, .s 18, .s 20, .s 23, .t 24, .t 25, .e 21 true, .t 26, .t 27, .t 29, .s 28, .e 30 true, .t 31, .t 32, .t 33, .t 34, .t 35] (by kernel_rfl) (by kernel_rfl) (by intro c a d v w h; cases d <;> exact h) ?_
    have HS := Lib.hid (HS0.out (Below.refl _ _).drew)
    generalize W1.drew = V at *
    refine wpS_k rfl (by rfl) (fun K hK => ?_)
    go_simp
    refine (alive_paths V).mono ?_
    rintro e V ⟨rfl, hb⟩
    replace HS := Lib.hid (pse HS.out hb); clear hb
    refine hK _ _ ⟨by exact HS.out, ?_⟩; clear hK K
    try simp only [Act.put, List.setIfInBounds_toArray, List.set_cons_zero, List.set_cons_succ]
    iterate 6
      refine wpS_t rfl (v := ?_) (by rfl) (fun W => ?_) ?_
      rotate_left
      · go_simp
        try rfl
      try simp only [Act.put, List.setIfInBounds_toArray, List.set_cons_zero, List.set_cons_succ]
    refine wpS_load_sum (by exact HS.out) rfl (by rfl) _ (by rfl) z 0 (by rfl) a (fun V hV => br hV.2.2 HA.out) ?_
    try simp only [Act.put, List.setIfInBounds_toArray, List.set_cons_zero, List.set_cons_succ]
    refine wpS_s (by exact HS.out) rfl (v := ?_) (by rfl) (fun W hSW => ?_) ?_
    rotate_left
    · go_simp
      try rfl
    try simp only [Act.put, List.setIfInBounds_toArray, List.set_cons_zero, List.set_cons_succ]
    refine wpS_s (by exact HS.out) rfl (v := ?_) (by rfl) (fun W hSW => ?_) ?_
    rotate_left
    · go_simp
      try rfl
    try simp only [Act.put, List.setIfInBounds_toArray, List.set_cons_zero, List.set_cons_succ]
    refine wpS_k rfl (by rfl) (fun K hK => ?_)
    refine wp_load_sum _ (by rfl) z 35 (by rfl) b (br HS.out.2.2 HBB.out) ?_
    refine hK _ _ ⟨by exact HS.out, ?_⟩; clear hK K
    try simp only [Act.put, List.setIfInBounds_toArray, List.set_cons_zero, List.set_cons_succ]
    refine wpS_k rfl (by rfl) (fun K hK => ?_)
    go_simp
    refine (pcheck_out a x n (.slice ad k cap) l b V (HV1.out.below HS.out.2.2 (Nat.le_refl _)) hxn).mono ?_
    rintro e V ⟨rfl, hb⟩
    replace HS := Lib.hid (pse HS.out hb); clear hb
    refine hK _ _ ⟨by exact HS.out, ?_⟩; clear hK K
    try simp only [Act.put, List.setIfInBounds_toArray, List.set_cons_zero, List.set_cons_succ]
    iterate 7
      refine wpS_t rfl (v := ?_) (by rfl) (fun W => ?_) ?_
      rotate_left
      · go_simp
        try rfl
      try simp only [Act.put, List.setIfInBounds_toArray, List.set_cons_zero, List.set_cons_succ]
    refine wpS_load_sum (by exact HS.out) rfl (by rfl) _ (by rfl) z 0 (by rfl) a (fun V hV => br hV.2.2 HA.out) ?_
    try simp only [Act.put, List.setIfInBounds_toArray, List.set_cons_zero, List.set_cons_succ]
    refine wpS_s (by exact HS.out) rfl (v := ?_) (by rfl) (fun W hSW => ?_) ?_
    rotate_left
    · go_simp
      try rfl
    try simp only [Act.put, List.setIfInBounds_toArray, List.set_cons_zero, List.set_cons_succ]
    refine wpS_load_sum (by exact HS.out) rfl (by rfl) _ (by rfl) z 35 (by rfl) b (fun V hV => br hV.2.2 HBB.out) ?_
    try simp only [Act.put, List.setIfInBounds_toArray, List.set_cons_zero, List.set_cons_succ]
    refine wpS_s (by exact HS.out) rfl (v := ?_) (by rfl) (fun W hSW => ?_) ?_
    rotate_left
    · go_simp
      try rfl
    try simp only [Act.put, List.setIfInBounds_toArray, List.set_cons_zero, List.set_cons_succ]
    have HCK := Lib.hid (pcheck_in a 0 1 (.slice ad k cap) l b V (HV1.out.below HS.out.2.2 (Nat.le_refl _)) (by omega) (by omega))
    by_cases hk0 : k = 0
    · have h0 : ((k : Int) == 0) = true := by rw [beq_iff_eq]; omega
      have hl : l = [] := by have := HN.out; exact List.length_eq_zero_iff.1 (by omega)
      clear hk0
      by_cases hab : a = b
      · have hr : pathBe a 0 1 l b = true := by rw [pathBe_one, decide_eq_true hl, decide_eq_true hab]; rfl
        have HR := Lib.hid hr; clear hr hl
        subst hab
        have heq := eq_sums_same a
        iterate 2
          refine wpS_t rfl (v := ?_) (by rfl) (fun W => ?_) ?_
          rotate_left
          · go_simp
            try rfl
          try simp only [Act.put, List.setIfInBounds_toArray, List.set_cons_zero, List.set_cons_succ]
        refine wpS_k rfl (by rfl) (fun K hK => ?_)
        go_simp
        refine HCK.out.mono ?_
        rw [HR.out]
        rintro e V ⟨rfl, hb⟩
        replace HS := Lib.hid (pse HS.out hb); clear hb
        refine hK _ _ ⟨by exact HS.out, ?_⟩; clear hK K
        try simp only [Act.put, List.setIfInBounds_toArray, List.set_cons_zero, List.set_cons_succ]
        iterate 3
          refine wpS_t rfl (v := ?_) (by rfl) (fun W => ?_) ?_
          rotate_left
          · go_simp
            try rfl
          try simp only [Act.put, List.setIfInBounds_toArray, List.set_cons_zero, List.set_cons_succ]
        refine wpS_load_sum (by exact HS.out) rfl (by rfl) _ (by rfl) z 0 (by rfl) a (fun V hV => br hV.2.2 HA.out) ?_
        try simp only [Act.put, List.setIfInBounds_toArray, List.set_cons_zero, List.set_cons_succ]
        refine wpS_k rfl (by rfl) (fun K hK => ?_)
        refine wp_load_sum _ (by rfl) z 35 (by rfl) a (br HS.out.2.2 HBB.out) ?_
        refine hK _ _ ⟨by exact HS.out, ?_⟩; clear hK K
        try simp only [Act.put, List.setIfInBounds_toArray, List.set_cons_zero, List.set_cons_succ]
        iterate 5
          refine wpS_t rfl (v := ?_) (by rfl) (fun W => ?_) ?_
          rotate_left
          · go_simp
            try rfl
          try simp only [Act.put, List.setIfInBounds_toArray, List.set_cons_zero, List.set_cons_succ]
        refine wpS_done ?_
        go_wp2_with fail
        exact bodyPost_ret (results_tmp rfl _ _ _) rfl ⟨rfl, HB.out.trans (HS.out.2.2.mono HB.out.size)⟩
      · have hr : pathBe a 0 1 l b = false := by rw [pathBe_one, decide_eq_true hl, decide_eq_false hab]; rfl
        have HR := Lib.hid hr; clear hr hl
        have heq : ∀ w : World, (Op.equalIn 10000 24 (.agg (cellsOf a).toArray) (.agg (cellsOf b).toArray)).run Try.prog w = .ok false w := fun w => by rw [eq_sums]; simp [hab]
        clear hab
        iterate 2
          refine wpS_t rfl (v := ?_) (by rfl) (fun W => ?_) ?_
          rotate_left
          · go_simp
            try rfl
          try simp only [Act.put, List.setIfInBounds_toArray, List.set_cons_zero, List.set_cons_succ]
        refine wpS_k rfl (by rfl) (fun K hK => ?_)
        go_simp
        refine HCK.out.mono ?_
        rw [HR.out]
        rintro e V ⟨rfl, hb⟩
        replace HS := Lib.hid (pse HS.out hb); clear hb
        refine hK _ _ ⟨by exact HS.out, ?_⟩; clear hK K
        try simp only [Act.put, List.setIfInBounds_toArray, List.set_cons_zero, List.set_cons_succ]
        iterate 3
          refine wpS_t rfl (v := ?_) (by rfl) (fun W => ?_) ?_
          rotate_left
          · go_simp
            try rfl
          try simp only [Act.put, List.setIfInBounds_toArray, List.set_cons_zero, List.set_cons_succ]
        refine wpS_load_sum (by exact HS.out) rfl (by rfl) _ (by rfl) z 0 (by rfl) a (fun V hV => br hV.2.2 HA.out) ?_
        try simp only [Act.put, List.setIfInBounds_toArray, List.set_cons_zero, List.set_cons_succ]
        refine wpS_k rfl (by rfl) (fun K hK => ?_)
        refine wp_load_sum _ (by rfl) z 35 (by rfl) b (br HS.out.2.2 HBB.out) ?_
        refine hK _ _ ⟨by exact HS.out, ?_⟩; clear hK K
        try simp only [Act.put, List.setIfInBounds_toArray, List.set_cons_zero, List.set_cons_succ]
        iterate 5
          refine wpS_t rfl (v := ?_) (by rfl) (fun W => ?_) ?_
          rotate_left
          · go_simp
            try rfl
          try simp only [Act.put, List.setIfInBounds_toArray, List.set_cons_zero, List.set_cons_succ]
        refine wpS_done ?_
        go_wp2_with fail
        exact bodyPost_ret (results_tmp rfl _ _ _) rfl ⟨rfl, HB.out.trans (HS.out.2.2.mono HB.out.size)⟩
    · have h0 : ((k : Int) == 0) = false := by rw [beq_eq_false_iff_ne]; omega
      have hr : pathBe a 0 1 l b = false := by rw [pathBe_one, decide_eq_false (by intro h; have := HN.out; rw [h] at this; simp at this; omega)]; rfl
      have HR := Lib.hid hr; clear hr hk0
      iterate 2
        refine wpS_t rfl (v := ?_) (by rfl) (fun W => ?_) ?_
        rotate_left
        · go_simp
          try rfl
        try simp only [Act.put, List.setIfInBounds_toArray, List.set_cons_zero, List.set_cons_succ]
      refine wpS_k rfl (by rfl) (fun K hK => ?_)
      go_simp
      refine HCK.out.mono ?_
      rw [HR.out]
      rintro e V ⟨rfl, hb⟩
      replace HS := Lib.hid (pse HS.out hb); clear hb
      refine hK _ _ ⟨by exact HS.out, ?_⟩; clear hK K
      try simp only [Act.put, List.setIfInBounds_toArray, List.set_cons_zero, List.set_cons_succ]
      iterate 1
        refine wpS_t rfl (v := ?_) (by rfl) (fun W => ?_) ?_
        rotate_left
        · go_simp
          try rfl
        try simp only [Act.put, List.setIfInBounds_toArray, List.set_cons_zero, List.set_cons_succ]
      iterate 2
        refine wpS_t_skip rfl (by rfl) ?_
        try simp only [Act.put, List.setIfInBounds_toArray, List.set_cons_zero, List.set_cons_succ]
      iterate 1
        refine wpS_s_skip (by exact HS.out) rfl (by rfl) ?_
        try simp only [Act.put, List.setIfInBounds_toArray, List.set_cons_zero, List.set_cons_succ]
      refine wpS_k_skip (by exact HS.out) rfl (by rfl) ?_
      try simp only [Act.put, List.setIfInBounds_toArray, List.set_cons_zero, List.set_cons_succ]
      iterate 1
        refine wpS_t_skip rfl (by rfl) ?_
        try simp only [Act.put, List.setIfInBounds_toArray, List.set_cons_zero, List.set_cons_succ]
      iterate 4
        refine wpS_t rfl (v := ?_) (by rfl) (fun W => ?_) ?_
        rotate_left
        · go_simp
          try rfl
        try simp only [Act.put, List.setIfInBounds_toArray, List.set_cons_zero, List.set_cons_succ]
      refine wpS_done ?_
      go_wp2_with fail
      exact bodyPost_ret (results_tmp rfl _ _ _) rfl ⟨rfl, HB.out.trans (HS.out.2.2.mono HB.out.size)⟩
end Go.Proofs.Ytdkcndgehgmadaa
