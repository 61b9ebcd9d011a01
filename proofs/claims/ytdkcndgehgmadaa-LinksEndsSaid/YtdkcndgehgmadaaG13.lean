/-
  Walks: the law LinksEnds.
-/
import Derived.Test.YtdkcndgehgmadaaG11
import Derived.Test.YtdkcndgehgmadaaArgs2
open Go Go.RowKit Alm
namespace Go.Proofs.Ytdkcndgehgmadaa
/-- What is said of a link, in a variable. -/
def SaidAt (W : World) (z : Nat) (m n : Nat) (a b : Sum) (v : Value) : Prop :=
  W.cell? ⟨z, 0, none⟩ = some (.int .u64 (m : Int)) ∧ W.cell? ⟨z, 1, none⟩ = some (.int .u64 (n : Int)) ∧ W.rangeAt z 2 (cellsOf a) ∧ W.rangeAt z 34 (cellsOf b) ∧ W.cell? ⟨z, 66, none⟩ = some v
theorem SaidAt.below {W W' : World} {z m n : Nat} {a b : Sum} {v : Value} (h : SaidAt W z m n a b v) (hb : Below W.heap.size W W') : SaidAt W' z m n a b v := by
  have k := Keeps.of_below (X := fun _ => False) hb
  exact ⟨k.cell (a := ⟨z, 0, none⟩) h.1 (fun h => h), k.cell (a := ⟨z, 1, none⟩) h.2.1 (fun h => h), k.range h.2.2.1 (fun h => h), k.range h.2.2.2.1 (fun h => h), k.cell (a := ⟨z, 66, none⟩) h.2.2.2.2 (fun h => h)⟩
theorem said_new (w : World) (m n : Nat) (a b : Sum) (v : Value) : SaidAt (w.alloc (.cells ([Value.int .u64 (m : Int), .int .u64 (n : Int)] ++ cellsOf a ++ cellsOf b ++ [v]).toArray 53)) w.heap.size m n a b v := by
  have h := range_new w ([Value.int .u64 (m : Int), .int .u64 (n : Int)] ++ cellsOf a ++ cellsOf b ++ [v]).toArray 53 _ rfl
  rw [List.toList_toArray, range_append, range_append, range_append] at h
  obtain ⟨⟨⟨h1, h2⟩, h3⟩, h4⟩ := h
  simp only [List.length_append, length_cellsOf, List.length_cons, List.length_nil, Nat.zero_add, Nat.reduceAdd] at h2 h3 h4
  exact ⟨h1 0 _ rfl, h1 1 _ rfl, h2, h3, h4 0 _ rfl⟩
theorem wpList_box_said {ops : Array Oper} {rest : List Oper} {op : Oper} {a : Act} {w : World} {Q : Exit → Act → World → Prop} (hgd : op.guard = none) (x : Operand) (ho : op.op = .box 53 x)
    (m n : Nat) (s t : Sum) (v : Value) (hx : a.eval x = said11 m n s t v)
    (h : ∀ W', Below w.heap.size w W' → SaidAt W' w.heap.size m n s t v → wpList Try.prog ops Q rest (a.put op.dst (.pointer (some ⟨w.heap.size, 0, none⟩))) W') : wpList Try.prog ops Q (op :: rest) a w :=
  wpList_plain hgd fun _ hK => by
    have h := h _ (al (Below.refl _ w) _) (said_new w m n s t v)
    unfold Oper.wp execOp
    simp only [ho, hx]
    go_simp
    simp only [List.cons_append, List.nil_append, List.append_assoc] at h
    exact hK _ _ h
theorem se {w1 V V' : World} {z n : Nat} {v : Value} (h : V.cell? ⟨z, 1, none⟩ = some (.int .u64 (n : Int)) ∧ V.cell? ⟨z, 66, none⟩ = some v ∧ Below w1.heap.size w1 V) (hb : Below V.heap.size V V') :
    V'.cell? ⟨z, 1, none⟩ = some (.int .u64 (n : Int)) ∧ V'.cell? ⟨z, 66, none⟩ = some v ∧ Below w1.heap.size w1 V' := by
  have k := Keeps.of_below (X := fun _ => False) hb
  exact ⟨k.cell (a := ⟨z, 1, none⟩) h.1 (fun h => h), k.cell (a := ⟨z, 66, none⟩) h.2.1 (fun h => h), h.2.2.trans (hb.mono h.2.2.size)⟩
theorem letBe_ends (n : Nat) (a b : Sum) (l : List Sum) (h : 1 ≤ n) : letBe n n a b l = (decide (l.length = 0) && decide (a = b)) := by
  unfold letBe
  rw [leads2, dif_pos (Nat.le_refl _)]
  cases l <;> by_cases hab : a = b <;> simp [h, hab]
set_option maxRecDepth 100000 in
set_option maxHeartbeats 2000000 in
theorem linksEnds_any (m n : Nat) (a b : Sum) (v : Value) (l : List Sum) (w : World) (hv : SumsAt w v l) : Calls Try.prog 11 #[said11 m n a b v] w fun e w' => e = .returned (.bool true) ∧ Below w.heap.size w w' := by
  have HV := Lib.hid hv
  obtain ⟨ad, cap, rfl, h1, h2, h3⟩ := hv
  obtain ⟨k, hk⟩ : ∃ n, n = l.length := ⟨_, rfl⟩
  rw [← hk] at h1 HV ⊢
  have HN := Lib.hid hk; clear hk h3
  unfold maxLen at h2
  by_cases hbig : 200 < k
  · have hbig' : (200 : Int) < (k : Int) := by omega
    go_enter Try.func11, Try.ntmps11
    go_wp2_with (refine wpList_box_said rfl _ rfl m n a b _ rfl ?_; intro W1 hb1 hs1; have HB := Lib.hid hb1; have hc := hs1.2.2.2.2; clear hb1 hs1)
    refine (alive_links W1).mono ?_
    rintro e w1 ⟨rfl, hb⟩
    go_wp2_with fail
    exact bodyPost_ret (results_tmp rfl _ _ _) rfl ⟨rfl, HB.out.trans (hb.mono HB.out.size)⟩
  · have hbig' : ¬ (200 : Int) < (k : Int) := by omega
    go_enter Try.func11, Try.ntmps11
    have HBX := Lib.hid trivial
    by_cases hmn : n < m
    · have hmn' : (n : Int) < (m : Int) := by omega
      go_wp2_with (first
        | (have _ := HBX; refine wpList_box_said rfl _ rfl m n a b _ rfl ?_; intro W1 hb1 hs1; have HB := Lib.hid hb1; have HS0 := Lib.hid hs1; have hc0 := hs1.1; have hc1 := hs1.2.1; have hc := hs1.2.2.2.2; clear hb1 hs1 HBX)
        | (refine wpG_load_sum (by rfl) _ rfl w.heap.size 2 rfl a HS0.out.2.2.1 ?_)
        | (refine wpG_load_sum (by rfl) _ rfl w.heap.size 34 rfl b HS0.out.2.2.2.1 ?_))
      refine (check_out m n a b (.slice ad k cap) l W1 (HV.out.below HB.out (Nat.le_refl _)) (.inr hmn)).mono ?_
      rintro e W2 ⟨rfl, hb⟩
      have HW2 := Lib.hid (HS0.out.below hb)
      replace HV := Lib.hid (HV.out.below (HB.out.trans (hb.mono HB.out.size)) (Nat.le_refl _))
      replace HB := Lib.hid (HB.out.trans (hb.mono HB.out.size))
      clear hb hc0 hc1 hc HS0
      go_wp2_with fail
      obtain ⟨z, hz⟩ : ∃ z, z = w.heap.size := ⟨_, rfl⟩
      rw [← hz] at HW2 ⊢
      clear hz
      obtain ⟨W1, hW1⟩ : ∃ W, W = W2 := ⟨_, rfl⟩
      rw [← hW1] at HW2 HV HB ⊢
      clear hW1 W2
      have HV1 := HV
      have HA := Lib.hid HW2.out.2.2.1
      have HBB := Lib.hid HW2.out.2.2.2.1
      have HS0 : Hid (∀ {V}, Below W1.heap.size W1 V → V.cell? ⟨z, 1, none⟩ = some (.int .u64 (n : Int)) ∧ V.cell? ⟨z, 66, none⟩ = some (.slice ad k cap) ∧ Below W1.heap.size W1 V) := Lib.hid (fun h => se ⟨HW2.out.2.1, HW2.out.2.2.2.2, Below.refl _ _⟩ h)
      refine wp_region_sched (fun V => V.cell? ⟨z, 1, none⟩ = some (.int .u64 (n : Int)) ∧ V.cell? ⟨z, 66, none⟩ = some (.slice ad k cap) ∧ Below W1.heap.size W1 V) [.e 0 true, .t 1, .t 2, .t 4, .t 6, .t 8, .s 3, .s 5, .s 7, .e 9 true, .e 10 true, .t 11, .t 12, .t 13, .t 14, .e 15 true, .t 16, .t 17, .t 18, .t 20, .t 22, .t 24, .t 26, .t 29, .s 19, .s 21, .s 23, .s 25, .s 27, .s 30, .t 31, .t 32, .e 28 true, .t 33, .t 34, .t 36, .s 35, .e 37 true, .t 38, .t 39, .t 40, .t 41, .t 42, .t 43] (by kernel_rfl) (by kernel_rfl) (by intro c a d v w h; cases d <;> exact h) ?_
      have HS := Lib.hid (HS0.out (Below.refl _ _).drew)
      change wpS _ _ _ _ _ _ _ (W1.drew)
      generalize W1.drew = V at *
      refine wpS_k rfl (by rfl) (fun K hK => ?_)
      go_simp
      refine (alive_links V).mono ?_
      rintro e V ⟨rfl, hb⟩
      replace HS := Lib.hid (se HS.out hb); clear hb
      refine hK _ _ ⟨by exact HS.out, ?_⟩; clear hK K
      try simp only [Act.put, List.setIfInBounds_toArray, List.set_cons_zero, List.set_cons_succ]
      iterate 5
        refine wpS_t rfl (v := ?_) (by rfl) (fun W => ?_) ?_
        rotate_left
        · go_simp
          try rfl
        try simp only [Act.put, List.setIfInBounds_toArray, List.set_cons_zero, List.set_cons_succ]
      refine wpS_s (by exact HS.out) rfl (v := ?_) (by rfl) (fun W hSW => ?_) ?_
      rotate_left
      · go_simp
        try rfl
      try simp only [Act.put, List.setIfInBounds_toArray, List.set_cons_zero, List.set_cons_succ]
      refine wpS_load_sum (by exact HS.out) rfl (by rfl) _ (by rfl) z 2 (by rfl) a (fun V hV => br hV.2.2 HA.out) ?_
      try simp only [Act.put, List.setIfInBounds_toArray, List.set_cons_zero, List.set_cons_succ]
      refine wpS_load_sum (by exact HS.out) rfl (by rfl) _ (by rfl) z 34 (by rfl) b (fun V hV => br hV.2.2 HBB.out) ?_
      try simp only [Act.put, List.setIfInBounds_toArray, List.set_cons_zero, List.set_cons_succ]
      have g := HS.out.2.1
      refine wpS_k rfl (by rfl) (fun K hK => ?_)
      go_simp
      refine hK _ _ ⟨by exact HS.out, ?_⟩; clear hK K
      try simp only [Act.put, List.setIfInBounds_toArray, List.set_cons_zero, List.set_cons_succ]
      clear g
      refine wpS_k rfl (by rfl) (fun K hK => ?_)
      go_simp
      refine (check_out 0 n a b (.slice ad k cap) l V (HV1.out.below HS.out.2.2 (Nat.le_refl _)) (.inl (by omega))).mono ?_
      rintro e V ⟨rfl, hb⟩
      replace HS := Lib.hid (se HS.out hb); clear hb
      refine hK _ _ ⟨by exact HS.out, ?_⟩; clear hK K
      try simp only [Act.put, List.setIfInBounds_toArray, List.set_cons_zero, List.set_cons_succ]
      iterate 4
        refine wpS_t rfl (v := ?_) (by rfl) (fun W => ?_) ?_
        rotate_left
        · go_simp
          try rfl
        try simp only [Act.put, List.setIfInBounds_toArray, List.set_cons_zero, List.set_cons_succ]
      have g := HS.out.1
      refine wpS_k rfl (by rfl) (fun K hK => ?_)
      go_simp
      refine hK _ _ ⟨by exact HS.out, ?_⟩; clear hK K
      try simp only [Act.put, List.setIfInBounds_toArray, List.set_cons_zero, List.set_cons_succ]
      clear g
      by_cases hn0 : n = 0
      · have h0 : ((n : Int) == 0) = true := by rw [beq_iff_eq]; omega
        iterate 2
          refine wpS_t rfl (v := ?_) (by rfl) (fun W => ?_) ?_
          rotate_left
          · go_simp
            try rfl
          try simp only [Act.put, List.setIfInBounds_toArray, List.set_cons_zero, List.set_cons_succ]
        iterate 6
          refine wpS_t_skip rfl (by rfl) ?_
          try simp only [Act.put, List.setIfInBounds_toArray, List.set_cons_zero, List.set_cons_succ]
        iterate 6
          refine wpS_s_skip (by exact HS.out) rfl (by rfl) ?_
          try simp only [Act.put, List.setIfInBounds_toArray, List.set_cons_zero, List.set_cons_succ]
        iterate 2
          refine wpS_t_skip rfl (by rfl) ?_
          try simp only [Act.put, List.setIfInBounds_toArray, List.set_cons_zero, List.set_cons_succ]
        refine wpS_k_skip (by exact HS.out) rfl (by rfl) ?_
        try simp only [Act.put, List.setIfInBounds_toArray, List.set_cons_zero, List.set_cons_succ]
        iterate 3
          refine wpS_t_skip rfl (by rfl) ?_
          try simp only [Act.put, List.setIfInBounds_toArray, List.set_cons_zero, List.set_cons_succ]
        iterate 1
          refine wpS_s_skip (by exact HS.out) rfl (by rfl) ?_
          try simp only [Act.put, List.setIfInBounds_toArray, List.set_cons_zero, List.set_cons_succ]
        refine wpS_k_skip (by exact HS.out) rfl (by rfl) ?_
        try simp only [Act.put, List.setIfInBounds_toArray, List.set_cons_zero, List.set_cons_succ]
        iterate 3
          refine wpS_t_skip rfl (by rfl) ?_
          try simp only [Act.put, List.setIfInBounds_toArray, List.set_cons_zero, List.set_cons_succ]
        iterate 3
          refine wpS_t rfl (v := ?_) (by rfl) (fun W => ?_) ?_
          rotate_left
          · go_simp
            try rfl
          try simp only [Act.put, List.setIfInBounds_toArray, List.set_cons_zero, List.set_cons_succ]
        refine wpS_done ?_
        go_wp2_with fail
        exact bodyPost_ret (results_tmp rfl _ _ _) rfl ⟨rfl, HB.out.trans (HS.out.2.2.mono HB.out.size)⟩
      · have h0 : ((n : Int) == 0) = false := by rw [beq_eq_false_iff_ne]; omega
        iterate 2
          refine wpS_t rfl (v := ?_) (by rfl) (fun W => ?_) ?_
          rotate_left
          · go_simp
            try rfl
          try simp only [Act.put, List.setIfInBounds_toArray, List.set_cons_zero, List.set_cons_succ]
        clear h0
        iterate 6
          refine wpS_t rfl (v := ?_) (by rfl) (fun W => ?_) ?_
          rotate_left
          · go_simp
            try rfl
          try simp only [Act.put, List.setIfInBounds_toArray, List.set_cons_zero, List.set_cons_succ]
        refine wpS_s (by exact HS.out) rfl (v := ?_) (by rfl) (fun W hSW => ?_) ?_
        rotate_left
        · go_simp
          try rfl
        try simp only [Act.put, List.setIfInBounds_toArray, List.set_cons_zero, List.set_cons_succ]
        refine wpS_s (by exact HS.out) rfl (v := ?_) (by rfl) (fun W hSW => ?_) ?_
        rotate_left
        · go_simp
          try rfl
        try simp only [Act.put, List.setIfInBounds_toArray, List.set_cons_zero, List.set_cons_succ]
        refine wpS_load_sum (by exact HS.out) rfl (by rfl) _ (by rfl) z 2 (by rfl) a (fun V hV => br hV.2.2 HA.out) ?_
        try simp only [Act.put, List.setIfInBounds_toArray, List.set_cons_zero, List.set_cons_succ]
        refine wpS_load_sum (by exact HS.out) rfl (by rfl) _ (by rfl) z 34 (by rfl) b (fun V hV => br hV.2.2 HBB.out) ?_
        try simp only [Act.put, List.setIfInBounds_toArray, List.set_cons_zero, List.set_cons_succ]
        refine wpS_s (by exact HS.out) rfl (v := ?_) (by rfl) (fun W hSW => ?_) ?_
        rotate_left
        · go_simp
          try rfl
        try simp only [Act.put, List.setIfInBounds_toArray, List.set_cons_zero, List.set_cons_succ]
        refine wpS_s (by exact HS.out) rfl (v := ?_) (by rfl) (fun W hSW => ?_) ?_
        rotate_left
        · go_simp
          try rfl
        try simp only [Act.put, List.setIfInBounds_toArray, List.set_cons_zero, List.set_cons_succ]
        have hlb := letBe_ends n a b l (by omega)
        rw [← HN.out] at hlb
        have HLB := Lib.hid hlb; clear hlb
        by_cases hk0 : k = 0
        · have h0 : ((k : Int) == 0) = true := by rw [beq_iff_eq]; omega
          have HK0 := Lib.hid hk0; clear hk0
          iterate 2
            refine wpS_t rfl (v := ?_) (by rfl) (fun W => ?_) ?_
            rotate_left
            · go_simp
              try rfl
            try simp only [Act.put, List.setIfInBounds_toArray, List.set_cons_zero, List.set_cons_succ]
          clear h0
          refine wpS_k rfl (by rfl) (fun K hK => ?_)
          go_simp
          refine (check_in n n a b (.slice ad k cap) l V (HV1.out.below HS.out.2.2 (Nat.le_refl _)) (by omega) (by omega) (.inl rfl)).mono ?_
          rw [HLB.out, decide_eq_true HK0.out, Bool.true_and]
          rintro e V ⟨rfl, hb⟩
          replace HS := Lib.hid (se HS.out hb); clear hb
          refine hK _ _ ⟨by exact HS.out, ?_⟩; clear hK K
          try simp only [Act.put, List.setIfInBounds_toArray, List.set_cons_zero, List.set_cons_succ]
          iterate 3
            refine wpS_t rfl (v := ?_) (by rfl) (fun W => ?_) ?_
            rotate_left
            · go_simp
              try rfl
            try simp only [Act.put, List.setIfInBounds_toArray, List.set_cons_zero, List.set_cons_succ]
          refine wpS_load_sum (by exact HS.out) rfl (by rfl) _ (by rfl) z 2 (by rfl) a (fun V hV => br hV.2.2 HA.out) ?_
          try simp only [Act.put, List.setIfInBounds_toArray, List.set_cons_zero, List.set_cons_succ]
          refine wpS_k rfl (by rfl) (fun K hK => ?_)
          refine wp_load_sum _ (by rfl) z 34 (by rfl) b (br HS.out.2.2 HBB.out) ?_
          refine hK _ _ ⟨by exact HS.out, ?_⟩; clear hK K
          try simp only [Act.put, List.setIfInBounds_toArray, List.set_cons_zero, List.set_cons_succ]
          have heq := eq_sums a b
          iterate 1
            refine wpS_t rfl (v := ?_) (by rfl) (fun W => ?_) ?_
            rotate_left
            · go_simp
              try rfl
            try simp only [Act.put, List.setIfInBounds_toArray, List.set_cons_zero, List.set_cons_succ]
          clear heq
          generalize decide (a = b) = ab
          cases ab with
          | false =>
            iterate 5
              refine wpS_t rfl (v := ?_) (by rfl) (fun W => ?_) ?_
              rotate_left
              · go_simp
                try rfl
              try simp only [Act.put, List.setIfInBounds_toArray, List.set_cons_zero, List.set_cons_succ]
            refine wpS_done ?_
            go_wp2_with fail
            exact bodyPost_ret (results_tmp rfl _ _ _) rfl ⟨rfl, HB.out.trans (HS.out.2.2.mono HB.out.size)⟩
          | true =>
            iterate 5
              refine wpS_t rfl (v := ?_) (by rfl) (fun W => ?_) ?_
              rotate_left
              · go_simp
                try rfl
              try simp only [Act.put, List.setIfInBounds_toArray, List.set_cons_zero, List.set_cons_succ]
            refine wpS_done ?_
            go_wp2_with fail
            exact bodyPost_ret (results_tmp rfl _ _ _) rfl ⟨rfl, HB.out.trans (HS.out.2.2.mono HB.out.size)⟩
        · have h0 : ((k : Int) == 0) = false := by rw [beq_eq_false_iff_ne]; omega
          iterate 2
            refine wpS_t rfl (v := ?_) (by rfl) (fun W => ?_) ?_
            rotate_left
            · go_simp
              try rfl
            try simp only [Act.put, List.setIfInBounds_toArray, List.set_cons_zero, List.set_cons_succ]
          clear h0
          refine wpS_k rfl (by rfl) (fun K hK => ?_)
          go_simp
          refine (check_in n n a b (.slice ad k cap) l V (HV1.out.below HS.out.2.2 (Nat.le_refl _)) (by omega) (by omega) (.inl rfl)).mono ?_
          rw [HLB.out, decide_eq_false hk0, Bool.false_and]
          rintro e V ⟨rfl, hb⟩
          replace HS := Lib.hid (se HS.out hb); clear hb
          refine hK _ _ ⟨by exact HS.out, ?_⟩; clear hK K
          try simp only [Act.put, List.setIfInBounds_toArray, List.set_cons_zero, List.set_cons_succ]
          iterate 1
            refine wpS_t rfl (v := ?_) (by rfl) (fun W => ?_) ?_
            rotate_left
            · go_simp
              try rfl
            try simp only [Act.put, List.setIfInBounds_toArray, List.set_cons_zero, List.set_cons_succ]
          iterate 2
            refine wpS_t_skip rfl (by rfl) ?_
            try simp only [Act.put, List.setIfInBounds_toArray, List.set_cons_zero, List.set_cons_succ]
          iterate 1
            refine wpS_s_skip (by exact HS.out) rfl (by rfl) ?_
            try simp only [Act.put, List.setIfInBounds_toArray, List.set_cons_zero, List.set_cons_succ]
          refine wpS_k_skip (by exact HS.out) rfl (by rfl) ?_
          try simp only [Act.put, List.setIfInBounds_toArray, List.set_cons_zero, List.set_cons_succ]
          iterate 1
            refine wpS_t_skip rfl (by rfl) ?_
            try simp only [Act.put, List.setIfInBounds_toArray, List.set_cons_zero, List.set_cons_succ]
          iterate 5
            refine wpS_t rfl (v := ?_) (by rfl) (fun W => ?_) ?_
            rotate_left
            · go_simp
              try rfl
            try simp only [Act.put, List.setIfInBounds_toArray, List.set_cons_zero, List.set_cons_succ]
          refine wpS_done ?_
          go_wp2_with fail
          exact bodyPost_ret (results_tmp rfl _ _ _) rfl ⟨rfl, HB.out.trans (HS.out.2.2.mono HB.out.size)⟩
    · have hmn' : ¬ (n : Int) < (m : Int) := by omega
      go_wp2_with (have _ := HBX; refine wpList_box_said rfl _ rfl m n a b _ rfl ?_; intro W1 hb1 hs1; have HB := Lib.hid hb1; have HS0 := Lib.hid hs1; have hc0 := hs1.1; have hc1 := hs1.2.1; have hc := hs1.2.2.2.2; clear hb1 hs1 HBX)
      replace HV := Lib.hid (HV.out.below HB.out (Nat.le_refl _))
      clear hc0 hc1 hc
      obtain ⟨z, hz⟩ : ∃ z, z = w.heap.size := ⟨_, rfl⟩
      rw [← hz] at HS0 ⊢
      clear hz
      have HW2 := HS0
      clear HS0
      have HV1 := HV
      have HA := Lib.hid HW2.out.2.2.1
      have HBB := Lib.hid HW2.out.2.2.2.1
      have HS0 : Hid (∀ {V}, Below W1.heap.size W1 V → V.cell? ⟨z, 1, none⟩ = some (.int .u64 (n : Int)) ∧ V.cell? ⟨z, 66, none⟩ = some (.slice ad k cap) ∧ Below W1.heap.size W1 V) := Lib.hid (fun h => se ⟨HW2.out.2.1, HW2.out.2.2.2.2, Below.refl _ _⟩ h)
      refine wp_region_sched (fun V => V.cell? ⟨z, 1, none⟩ = some (.int .u64 (n : Int)) ∧ V.cell? ⟨z, 66, none⟩ = some (.slice ad k cap) ∧ Below W1.heap.size W1 V) [.e 0 true, .t 1, .t 2, .t 4, .t 6, .t 8, .s 3, .s 5, .s 7, .e 9 true, .e 10 true, .t 11, .t 12, .t 13, .t 14, .e 15 true, .t 16, .t 17, .t 18, .t 20, .t 22, .t 24, .t 26, .t 29, .s 19, .s 21, .s 23, .s 25, .s 27, .s 30, .t 31, .t 32, .e 28 true, .t 33, .t 34, .t 36, .s 35, .e 37 true, .t 38, .t 39, .t 40, .t 41, .t 42, .t 43] (by kernel_rfl) (by kernel_rfl) (by intro c a d v w h; cases d <;> exact h) ?_
      have HS := Lib.hid (HS0.out (Below.refl _ _).drew)
      change wpS _ _ _ _ _ _ _ (W1.drew)
      generalize W1.drew = V at *
      refine wpS_k rfl (by rfl) (fun K hK => ?_)
      go_simp
      refine (alive_links V).mono ?_
      rintro e V ⟨rfl, hb⟩
      replace HS := Lib.hid (se HS.out hb); clear hb
      refine hK _ _ ⟨by exact HS.out, ?_⟩; clear hK K
      try simp only [Act.put, List.setIfInBounds_toArray, List.set_cons_zero, List.set_cons_succ]
      iterate 5
        refine wpS_t rfl (v := ?_) (by rfl) (fun W => ?_) ?_
        rotate_left
        · go_simp
          try rfl
        try simp only [Act.put, List.setIfInBounds_toArray, List.set_cons_zero, List.set_cons_succ]
      refine wpS_s (by exact HS.out) rfl (v := ?_) (by rfl) (fun W hSW => ?_) ?_
      rotate_left
      · go_simp
        try rfl
      try simp only [Act.put, List.setIfInBounds_toArray, List.set_cons_zero, List.set_cons_succ]
      refine wpS_load_sum (by exact HS.out) rfl (by rfl) _ (by rfl) z 2 (by rfl) a (fun V hV => br hV.2.2 HA.out) ?_
      try simp only [Act.put, List.setIfInBounds_toArray, List.set_cons_zero, List.set_cons_succ]
      refine wpS_load_sum (by exact HS.out) rfl (by rfl) _ (by rfl) z 34 (by rfl) b (fun V hV => br hV.2.2 HBB.out) ?_
      try simp only [Act.put, List.setIfInBounds_toArray, List.set_cons_zero, List.set_cons_succ]
      have g := HS.out.2.1
      refine wpS_k rfl (by rfl) (fun K hK => ?_)
      go_simp
      refine hK _ _ ⟨by exact HS.out, ?_⟩; clear hK K
      try simp only [Act.put, List.setIfInBounds_toArray, List.set_cons_zero, List.set_cons_succ]
      clear g
      refine wpS_k rfl (by rfl) (fun K hK => ?_)
      go_simp
      refine (check_out 0 n a b (.slice ad k cap) l V (HV1.out.below HS.out.2.2 (Nat.le_refl _)) (.inl (by omega))).mono ?_
      rintro e V ⟨rfl, hb⟩
      replace HS := Lib.hid (se HS.out hb); clear hb
      refine hK _ _ ⟨by exact HS.out, ?_⟩; clear hK K
      try simp only [Act.put, List.setIfInBounds_toArray, List.set_cons_zero, List.set_cons_succ]
      iterate 4
        refine wpS_t rfl (v := ?_) (by rfl) (fun W => ?_) ?_
        rotate_left
        · go_simp
          try rfl
        try simp only [Act.put, List.setIfInBounds_toArray, List.set_cons_zero, List.set_cons_succ]
      have g := HS.out.1
      refine wpS_k rfl (by rfl) (fun K hK => ?_)
      go_simp
      refine hK _ _ ⟨by exact HS.out, ?_⟩; clear hK K
      try simp only [Act.put, List.setIfInBounds_toArray, List.set_cons_zero, List.set_cons_succ]
      clear g
      by_cases hn0 : n = 0
      · have h0 : ((n : Int) == 0) = true := by rw [beq_iff_eq]; omega
        iterate 2
          refine wpS_t rfl (v := ?_) (by rfl) (fun W => ?_) ?_
          rotate_left
          · go_simp
            try rfl
          try simp only [Act.put, List.setIfInBounds_toArray, List.set_cons_zero, List.set_cons_succ]
        iterate 6
          refine wpS_t_skip rfl (by rfl) ?_
          try simp only [Act.put, List.setIfInBounds_toArray, List.set_cons_zero, List.set_cons_succ]
        iterate 6
          refine wpS_s_skip (by exact HS.out) rfl (by rfl) ?_
          try simp only [Act.put, List.setIfInBounds_toArray, List.set_cons_zero, List.set_cons_succ]
        iterate 2
          refine wpS_t_skip rfl (by rfl) ?_
          try simp only [Act.put, List.setIfInBounds_toArray, List.set_cons_zero, List.set_cons_succ]
        refine wpS_k_skip (by exact HS.out) rfl (by rfl) ?_
        try simp only [Act.put, List.setIfInBounds_toArray, List.set_cons_zero, List.set_cons_succ]
        iterate 3
          refine wpS_t_skip rfl (by rfl) ?_
          try simp only [Act.put, List.setIfInBounds_toArray, List.set_cons_zero, List.set_cons_succ]
        iterate 1
          refine wpS_s_skip (by exact HS.out) rfl (by rfl) ?_
          try simp only [Act.put, List.setIfInBounds_toArray, List.set_cons_zero, List.set_cons_succ]
        refine wpS_k_skip (by exact HS.out) rfl (by rfl) ?_
        try simp only [Act.put, List.setIfInBounds_toArray, List.set_cons_zero, List.set_cons_succ]
        iterate 3
          refine wpS_t_skip rfl (by rfl) ?_
          try simp only [Act.put, List.setIfInBounds_toArray, List.set_cons_zero, List.set_cons_succ]
        iterate 3
          refine wpS_t rfl (v := ?_) (by rfl) (fun W => ?_) ?_
          rotate_left
          · go_simp
            try rfl
          try simp only [Act.put, List.setIfInBounds_toArray, List.set_cons_zero, List.set_cons_succ]
        refine wpS_done ?_
        go_wp2_with fail
        exact bodyPost_ret (results_tmp rfl _ _ _) rfl ⟨rfl, HB.out.trans (HS.out.2.2.mono HB.out.size)⟩
      · have h0 : ((n : Int) == 0) = false := by rw [beq_eq_false_iff_ne]; omega
        iterate 2
          refine wpS_t rfl (v := ?_) (by rfl) (fun W => ?_) ?_
          rotate_left
          · go_simp
            try rfl
          try simp only [Act.put, List.setIfInBounds_toArray, List.set_cons_zero, List.set_cons_succ]
        clear h0
        iterate 6
          refine wpS_t rfl (v := ?_) (by rfl) (fun W => ?_) ?_
          rotate_left
          · go_simp
            try rfl
          try simp only [Act.put, List.setIfInBounds_toArray, List.set_cons_zero, List.set_cons_succ]
        refine wpS_s (by exact HS.out) rfl (v := ?_) (by rfl) (fun W hSW => ?_) ?_
        rotate_left
        · go_simp
          try rfl
        try simp only [Act.put, List.setIfInBounds_toArray, List.set_cons_zero, List.set_cons_succ]
        refine wpS_s (by exact HS.out) rfl (v := ?_) (by rfl) (fun W hSW => ?_) ?_
        rotate_left
        · go_simp
          try rfl
        try simp only [Act.put, List.setIfInBounds_toArray, List.set_cons_zero, List.set_cons_succ]
        refine wpS_load_sum (by exact HS.out) rfl (by rfl) _ (by rfl) z 2 (by rfl) a (fun V hV => br hV.2.2 HA.out) ?_
        try simp only [Act.put, List.setIfInBounds_toArray, List.set_cons_zero, List.set_cons_succ]
        refine wpS_load_sum (by exact HS.out) rfl (by rfl) _ (by rfl) z 34 (by rfl) b (fun V hV => br hV.2.2 HBB.out) ?_
        try simp only [Act.put, List.setIfInBounds_toArray, List.set_cons_zero, List.set_cons_succ]
        refine wpS_s (by exact HS.out) rfl (v := ?_) (by rfl) (fun W hSW => ?_) ?_
        rotate_left
        · go_simp
          try rfl
        try simp only [Act.put, List.setIfInBounds_toArray, List.set_cons_zero, List.set_cons_succ]
        refine wpS_s (by exact HS.out) rfl (v := ?_) (by rfl) (fun W hSW => ?_) ?_
        rotate_left
        · go_simp
          try rfl
        try simp only [Act.put, List.setIfInBounds_toArray, List.set_cons_zero, List.set_cons_succ]
        have hlb := letBe_ends n a b l (by omega)
        rw [← HN.out] at hlb
        have HLB := Lib.hid hlb; clear hlb
        by_cases hk0 : k = 0
        · have h0 : ((k : Int) == 0) = true := by rw [beq_iff_eq]; omega
          have HK0 := Lib.hid hk0; clear hk0
          iterate 2
            refine wpS_t rfl (v := ?_) (by rfl) (fun W => ?_) ?_
            rotate_left
            · go_simp
              try rfl
            try simp only [Act.put, List.setIfInBounds_toArray, List.set_cons_zero, List.set_cons_succ]
          clear h0
          refine wpS_k rfl (by rfl) (fun K hK => ?_)
          go_simp
          refine (check_in n n a b (.slice ad k cap) l V (HV1.out.below HS.out.2.2 (Nat.le_refl _)) (by omega) (by omega) (.inl rfl)).mono ?_
          rw [HLB.out, decide_eq_true HK0.out, Bool.true_and]
          rintro e V ⟨rfl, hb⟩
          replace HS := Lib.hid (se HS.out hb); clear hb
          refine hK _ _ ⟨by exact HS.out, ?_⟩; clear hK K
          try simp only [Act.put, List.setIfInBounds_toArray, List.set_cons_zero, List.set_cons_succ]
          iterate 3
            refine wpS_t rfl (v := ?_) (by rfl) (fun W => ?_) ?_
            rotate_left
            · go_simp
              try rfl
            try simp only [Act.put, List.setIfInBounds_toArray, List.set_cons_zero, List.set_cons_succ]
          refine wpS_load_sum (by exact HS.out) rfl (by rfl) _ (by rfl) z 2 (by rfl) a (fun V hV => br hV.2.2 HA.out) ?_
          try simp only [Act.put, List.setIfInBounds_toArray, List.set_cons_zero, List.set_cons_succ]
          refine wpS_k rfl (by rfl) (fun K hK => ?_)
          refine wp_load_sum _ (by rfl) z 34 (by rfl) b (br HS.out.2.2 HBB.out) ?_
          refine hK _ _ ⟨by exact HS.out, ?_⟩; clear hK K
          try simp only [Act.put, List.setIfInBounds_toArray, List.set_cons_zero, List.set_cons_succ]
          have heq := eq_sums a b
          iterate 1
            refine wpS_t rfl (v := ?_) (by rfl) (fun W => ?_) ?_
            rotate_left
            · go_simp
              try rfl
            try simp only [Act.put, List.setIfInBounds_toArray, List.set_cons_zero, List.set_cons_succ]
          clear heq
          generalize decide (a = b) = ab
          cases ab with
          | false =>
            iterate 5
              refine wpS_t rfl (v := ?_) (by rfl) (fun W => ?_) ?_
              rotate_left
              · go_simp
                try rfl
              try simp only [Act.put, List.setIfInBounds_toArray, List.set_cons_zero, List.set_cons_succ]
            refine wpS_done ?_
            go_wp2_with fail
            exact bodyPost_ret (results_tmp rfl _ _ _) rfl ⟨rfl, HB.out.trans (HS.out.2.2.mono HB.out.size)⟩
          | true =>
            iterate 5
              refine wpS_t rfl (v := ?_) (by rfl) (fun W => ?_) ?_
              rotate_left
              · go_simp
                try rfl
              try simp only [Act.put, List.setIfInBounds_toArray, List.set_cons_zero, List.set_cons_succ]
            refine wpS_done ?_
            go_wp2_with fail
            exact bodyPost_ret (results_tmp rfl _ _ _) rfl ⟨rfl, HB.out.trans (HS.out.2.2.mono HB.out.size)⟩
        · have h0 : ((k : Int) == 0) = false := by rw [beq_eq_false_iff_ne]; omega
          iterate 2
            refine wpS_t rfl (v := ?_) (by rfl) (fun W => ?_) ?_
            rotate_left
            · go_simp
              try rfl
            try simp only [Act.put, List.setIfInBounds_toArray, List.set_cons_zero, List.set_cons_succ]
          clear h0
          refine wpS_k rfl (by rfl) (fun K hK => ?_)
          go_simp
          refine (check_in n n a b (.slice ad k cap) l V (HV1.out.below HS.out.2.2 (Nat.le_refl _)) (by omega) (by omega) (.inl rfl)).mono ?_
          rw [HLB.out, decide_eq_false hk0, Bool.false_and]
          rintro e V ⟨rfl, hb⟩
          replace HS := Lib.hid (se HS.out hb); clear hb
          refine hK _ _ ⟨by exact HS.out, ?_⟩; clear hK K
          try simp only [Act.put, List.setIfInBounds_toArray, List.set_cons_zero, List.set_cons_succ]
          iterate 1
            refine wpS_t rfl (v := ?_) (by rfl) (fun W => ?_) ?_
            rotate_left
            · go_simp
              try rfl
            try simp only [Act.put, List.setIfInBounds_toArray, List.set_cons_zero, List.set_cons_succ]
          iterate 2
            refine wpS_t_skip rfl (by rfl) ?_
            try simp only [Act.put, List.setIfInBounds_toArray, List.set_cons_zero, List.set_cons_succ]
          iterate 1
            refine wpS_s_skip (by exact HS.out) rfl (by rfl) ?_
            try simp only [Act.put, List.setIfInBounds_toArray, List.set_cons_zero, List.set_cons_succ]
          refine wpS_k_skip (by exact HS.out) rfl (by rfl) ?_
          try simp only [Act.put, List.setIfInBounds_toArray, List.set_cons_zero, List.set_cons_succ]
          iterate 1
            refine wpS_t_skip rfl (by rfl) ?_
            try simp only [Act.put, List.setIfInBounds_toArray, List.set_cons_zero, List.set_cons_succ]
          iterate 5
            refine wpS_t rfl (v := ?_) (by rfl) (fun W => ?_) ?_
            rotate_left
            · go_simp
              try rfl
            try simp only [Act.put, List.setIfInBounds_toArray, List.set_cons_zero, List.set_cons_succ]
          refine wpS_done ?_
          go_wp2_with fail
          exact bodyPost_ret (results_tmp rfl _ _ _) rfl ⟨rfl, HB.out.trans (HS.out.2.2.mono HB.out.size)⟩
end Go.Proofs.Ytdkcndgehgmadaa
