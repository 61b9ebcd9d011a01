/-
  Walks: almonerlaw01.ByteListsSize, almonerlaw13.great.
-/
import Derived.Test.YtdkcndgehgmadaaB7
open Go Go.RowKit Alm
namespace Go.Proofs.Ytdkcndgehgmadaa
/-- How much that is, as far as it is counted. -/
def bszGo : Nat → List (List UInt8) → Nat
  | n, [] => n
  | n, x :: r => if n ≤ 1048576 then bszGo (n + x.length) r else n
def bsz (ls : List (List UInt8)) : Nat := bszGo ls.length ls
theorem bszGo_ge : ∀ (l : List (List UInt8)) (n : Nat), n ≤ bszGo n l
  | [], n => Nat.le_refl _
  | x :: r, n => by
    unfold bszGo
    split
    · have := bszGo_ge r (n + x.length); omega
    · exact Nat.le_refl _
theorem bszGo_le (M : Nat) (hM : M ≤ 1048576) : ∀ (l : List (List UInt8)) (n : Nat), bszGo n l ≤ M → n ≤ M ∧ ∀ x ∈ l, x.length ≤ M
  | [], n, h => ⟨h, fun x hx => by cases hx⟩
  | x :: r, n, h => by
    unfold bszGo at h
    split at h
    · have h1 := bszGo_le M hM r _ h
      refine ⟨by omega, fun y hy => ?_⟩
      rcases List.mem_cons.1 hy with rfl | hy
      · omega
      · exact h1.2 y hy
    · exact ⟨h, by omega⟩
theorem bsz_le (M : Nat) (hM : M ≤ 1048576) (l : List (List UInt8)) (h : bsz l ≤ M) : l.length ≤ M ∧ ∀ x ∈ l, x.length ≤ M := bszGo_le M hM l _ h
/-- The greatest length that comes in. -/
abbrev LIM : Nat := 140737488355328
theorem bszGo_lt : ∀ (l : List (List UInt8)) (n : Nat), (∀ x ∈ l, x.length ≤ LIM) → n ≤ 1048576 + LIM → bszGo n l ≤ 1048576 + LIM
  | [], n, _, h => h
  | x :: r, n, hx, h => by
    unfold bszGo
    split
    · exact bszGo_lt r _ (fun y hy => hx y (List.mem_cons_of_mem _ hy)) (by have := hx x (List.mem_cons_self ..); omega)
    · exact h
theorem bs_any (a : Option Addr) (n c : Nat) (w : World) : Calls Try.prog 111 #[.slice a n c] w fun e w' => e = .returned (.int .i64 (n : Int)) ∧ w = w' := by
  go_enter Try.func111, Try.ntmps111
  go_wp2_with fail
  exact bodyPost_ret (results_tmp rfl _ _ _) rfl ⟨rfl, rfl⟩
set_option maxRecDepth 100000 in
set_option maxHeartbeats 1000000 in
theorem blsz_any (ls : List (List UInt8)) (v : Value) (w : World) (hv : ListsAt w v ls) (hn : ls.length ≤ LIM) (hs : ∀ x ∈ ls, x.length ≤ LIM) : Calls Try.prog 85 #[v] w fun e w' => e = .returned (.int .i64 (bsz ls : Int)) ∧ w = w' := by
  have HV := Lib.hid hv
  obtain ⟨aa, ca, rfl, a1, a2, a3⟩ := hv
  clear a3
  obtain ⟨n, hna⟩ : ∃ n, n = ls.length := ⟨_, rfl⟩
  rw [← hna] at HV a1 hn ⊢
  obtain ⟨T, hT⟩ : ∃ T, T = bsz ls := ⟨_, rfl⟩
  have hT0 : bszGo n ls = T := by rw [hT, bsz, hna]
  rw [← hT]
  have HN := Lib.hid (And.intro hna hs)
  have HT0 := Lib.hid hT0
  unfold LIM at hn
  clear hna hs hT hT0
  go_enter Try.func85, Try.ntmps85
  go_wp2_with fail
  go_loopw [3, 4] (fun cv i W => ∃ j c : Nat, j ≤ n ∧ i = .int .i64 (j : Int) ∧ cv = .int .i64 (c : Int) ∧ c ≤ 1048576 + LIM ∧ bszGo c (ls.drop j) = T ∧ W = w) (fun _ i _ => n - (intOf i).toNat)
  case atStart => exact ⟨0, n, by omega, rfl, rfl, by unfold LIM; omega, by simpa using HT0.out, rfl⟩
  case round =>
    obtain ⟨j, c, hj, rfl, rfl, hc, hd, hW⟩ := hrel
    have hW := hW.symm
    subst hW
    have HD := Lib.hid hd; clear hd
    unfold LIM at hc
    by_cases hlt : j < n
    · have hlt' : (j : Int) < (n : Int) := by omega
      have h0 : ls ≠ [] := by intro h; have := HN.out.1; rw [h] at this; simp at this; omega
      obtain ⟨b1', o1', c1', he1, _, _⟩ := HV.out.form h0
      simp only [Value.slice.injEq] at he1
      obtain ⟨rfl, h9, rfl⟩ := he1
      clear h9
      have hjl : j < ls.length := by have := HN.out.1; omega
      have hdr : ls.drop j = ls[j] :: ls.drop (j + 1) := List.drop_eq_getElem_cons hjl
      have hx9 : ls[j].length ≤ LIM := HN.out.2 _ (List.getElem_mem hjl)
      unfold LIM at hx9
      obtain ⟨u1, hc1, hu1⟩ := HV.out.cell (sp := none) (j := j) hjl
      have hD := HD.out
      rw [hdr] at hD
      generalize ls[j] = x at *
      obtain ⟨ax, cx, rfl, _, _, hor⟩ := hu1
      clear hor hdr h0
      obtain ⟨k, hk⟩ : ∃ k, k = x.length := ⟨_, rfl⟩
      rw [← hk] at hc1 hx9
      have HK := Lib.hid hk
      have HDD := Lib.hid hD
      clear hk hD hjl
      have hj0 : (0 : Int) ≤ (j : Int) := by omega
      by_cases hm : c ≤ 1048576
      · have hm' : (c : Int) ≤ 1048576 := by omega
        go_wp2_with fail
        have hDD := HDD.out
        unfold bszGo at hDD
        rw [if_pos hm, ← HK.out] at hDD
        have HE := Lib.hid hDD
        clear hDD
        refine (bs_any ax k cx w).mono ?_
        rintro e w1 ⟨rfl, rfl⟩
        go_wp2_with fail
        exact ⟨⟨j + 1, c + k, by omega, by simp, by simp, by unfold LIM; omega, HE.out, trivial⟩, by simp [intOf]; omega⟩
      · have hm' : ¬ (c : Int) ≤ 1048576 := by omega
        have hcT : c = T := by
          have := HDD.out
          unfold bszGo at this
          rw [if_neg hm] at this
          exact this
        go_wp2_with fail
        exact bodyPost_ret (results_tmp rfl _ _ _) rfl ⟨rfl, rfl⟩
    · have hjn : j = n := by omega
      have hcT : c = T := by
        have := HD.out
        rw [List.drop_eq_nil_of_le (by have := HN.out.1; omega)] at this
        exact this
      subst hjn
      go_wp2_with fail
      exact bodyPost_ret (results_tmp rfl _ _ _) rfl ⟨rfl, rfl⟩
/-- More than is gone through. -/
def grB (L M : List (List UInt8)) (B : List UInt8) (S : List Sum) : Bool := decide (40 < L.length) || decide (40 < M.length) || decide (100 < S.length) || decide (20000 < bsz L + bsz M + B.length)
abbrev said13 (vL vM : Value) (at_ : Int) (vB vS : Value) : Value := .agg #[vL, vM, .int .i64 at_, vB, vS]
set_option maxRecDepth 100000 in
set_option maxHeartbeats 2000000 in
theorem great_any (L M : List (List UInt8)) (B : List UInt8) (S : List Sum) (vL vM : Value) (at_ : Int) (vB vS : Value) (w : World) (hL : ListsAt w vL L) (hM : ListsAt w vM M) (hB : BytesAt w vB B) (hS : SumsAt w vS S)
    (h1 : L.length ≤ LIM ∧ ∀ x ∈ L, x.length ≤ LIM) (h2 : M.length ≤ LIM ∧ ∀ x ∈ M, x.length ≤ LIM) (h3 : B.length ≤ LIM) (h4 : S.length ≤ LIM) :
    Calls Try.prog 53 #[said13 vL vM at_ vB vS] w fun e w' => e = .returned (.bool (grB L M B S)) ∧ Below w.heap.size w w' := by
  obtain ⟨aB, cB, rfl, _, _, _⟩ := hB
  obtain ⟨aS, cS, rfl, _, _, _⟩ := hS
  have HL := Lib.hid hL
  have HM := Lib.hid hM
  obtain ⟨aL, cL, rfl, _, _, hz1⟩ := hL
  obtain ⟨aM, cM, rfl, _, _, hz2⟩ := hM
  clear hz1 hz2
  have hb0 := al (Below.refl _ w) (.cells #[.slice aL L.length cL, .slice aM M.length cM, .int .i64 at_, .slice aB B.length cB, .slice aS S.length cS] 80)
  have HB0 := Lib.hid hb0
  have hr := range_new w #[.slice aL L.length cL, .slice aM M.length cM, .int .i64 at_, .slice aB B.length cB, .slice aS S.length cS] 80 _ rfl
  have HT := Lib.hid (And.intro (hr 0 _ rfl) (And.intro (hr 1 _ rfl) (And.intro (hr 3 _ rfl) (hr 4 _ rfl))))
  have HZL := Lib.hid (fun V (h : Below (w.alloc (.cells #[.slice aL L.length cL, .slice aM M.length cM, .int .i64 at_, .slice aB B.length cB, .slice aS S.length cS] 80)).heap.size (w.alloc (.cells #[.slice aL L.length cL, .slice aM M.length cM, .int .i64 at_, .slice aB B.length cB, .slice aS S.length cS] 80)) V) => blsz_any L _ V ((HL.out.below hb0).below h) h1.1 h1.2)
  have HZM := Lib.hid (fun V (h : Below (w.alloc (.cells #[.slice aL L.length cL, .slice aM M.length cM, .int .i64 at_, .slice aB B.length cB, .slice aS S.length cS] 80)).heap.size (w.alloc (.cells #[.slice aL L.length cL, .slice aM M.length cM, .int .i64 at_, .slice aB B.length cB, .slice aS S.length cS] 80)) V) => blsz_any M _ V ((HM.out.below hb0).below h) h2.1 h2.2)
  clear hb0 hr HL HM
  obtain ⟨l, hl⟩ : ∃ n, n = L.length := ⟨_, rfl⟩
  obtain ⟨m, hm⟩ : ∃ n, n = M.length := ⟨_, rfl⟩
  obtain ⟨b, hb⟩ : ∃ n, n = B.length := ⟨_, rfl⟩
  obtain ⟨k, hk⟩ : ∃ n, n = S.length := ⟨_, rfl⟩
  obtain ⟨p, hp⟩ : ∃ n, n = bsz L := ⟨_, rfl⟩
  obtain ⟨q, hq⟩ : ∃ n, n = bsz M := ⟨_, rfl⟩
  obtain ⟨R, hR⟩ : ∃ R, R = grB L M B S := ⟨_, rfl⟩
  have hR2 : R = (decide (40 < l) || decide (40 < m) || decide (100 < k) || decide (20000 < p + q + b)) := by rw [hR, grB, hl, hm, hb, hk, hp, hq]
  have p9 : p ≤ 1048576 + LIM := by rw [hp]; exact bszGo_lt L _ h1.2 (by have := h1.1; omega)
  have q9 : q ≤ 1048576 + LIM := by rw [hq]; exact bszGo_lt M _ h2.2 (by have := h2.1; omega)
  have b9 : b ≤ LIM := by rw [hb]; exact h3
  rw [← hR]
  rw [← hl, ← hm, ← hb, ← hk] at HT HZL HZM HB0 ⊢
  rw [← hp] at HZL
  rw [← hq] at HZM
  have HR := Lib.hid hR2
  clear hl hm hb hk hp hq hR hR2 h1 h2 h3 h4
  unfold LIM at p9 q9 b9
  have p0 : (p : Int) ≤ 140737489403904 := by omega
  have q0 : (q : Int) ≤ 140737489403904 := by omega
  have b0 : (b : Int) ≤ 140737488355328 := by omega
  go_enter Try.func53, Try.ntmps53
  go_wp2_with fail
  obtain ⟨z, hz⟩ : ∃ z, z = w.heap.size := ⟨_, rfl⟩
  rw [← hz] at HT ⊢
  clear hz
  generalize w.alloc (.cells #[.slice aL l cL, .slice aM m cM, .int .i64 at_, .slice aB b cB, .slice aS k cS] 80) = W at *
  refine wp_region_sched (fun V => V.cell? ⟨z, 0, none⟩ = some (.slice aL l cL) ∧ V.cell? ⟨z, 1, none⟩ = some (.slice aM m cM) ∧ V.cell? ⟨z, 3, none⟩ = some (.slice aB b cB) ∧ V.cell? ⟨z, 4, none⟩ = some (.slice aS k cS) ∧ Below W.heap.size W V) [.t 0, .e 1 true, .t 2, .t 3, .t 4, .t 5, .e 6 true, .t 7, .t 8, .t 9, .t 10, .t 11, .e 12 true, .t 13, .t 14, .t 15, .t 16, .t 17, .t 20, .t 24, .s 18, .s 21, .s 25, .t 26, .e 19 true, .e 22 true, .t 23, .t 27, .t 28, .t 29, .t 30] (by kernel_rfl) (by kernel_rfl) (by intro c a d v w h; cases d <;> exact h) ?_
  have HSS : Hid (∀ V, Below W.heap.size W V → V.cell? ⟨z, 0, none⟩ = some (.slice aL l cL) ∧ V.cell? ⟨z, 1, none⟩ = some (.slice aM m cM) ∧ V.cell? ⟨z, 3, none⟩ = some (.slice aB b cB) ∧ V.cell? ⟨z, 4, none⟩ = some (.slice aS k cS) ∧ Below W.heap.size W V) := Lib.hid (fun V hV => ⟨bc HT.out.1 hV, bc HT.out.2.1 hV, bc HT.out.2.2.1 hV, bc HT.out.2.2.2 hV, hV⟩)
  have HS := Lib.hid (Below.refl W.heap.size W).drew
  generalize W.drew = V at *
  iterate 1
    refine wpS_t rfl (v := ?_) (by rfl) (fun W => ?_) ?_
    rotate_left
    · go_simp
      try rfl
    try simp only [Act.put, List.setIfInBounds_toArray, List.set_cons_zero, List.set_cons_succ]
  have g := (HSS.out _ HS.out).1
  refine wpS_k rfl (by rfl) (fun K hK => ?_)
  go_simp
  refine hK _ _ ⟨by exact HSS.out _ HS.out, ?_⟩; clear hK K
  try simp only [Act.put, List.setIfInBounds_toArray, List.set_cons_zero, List.set_cons_succ]
  clear g
  by_cases c1 : 40 < l
  · have d1 : (40 : Int) < (l : Int) := by omega
    have HRV : Hid (R = true) := Lib.hid (by rw [HR.out, decide_eq_true c1]; rfl)
    clear c1
    iterate 3
      refine wpS_t rfl (v := ?_) (by rfl) (fun W => ?_) ?_
      rotate_left
      · go_simp
        try rfl
      try simp only [Act.put, List.setIfInBounds_toArray, List.set_cons_zero, List.set_cons_succ]
    iterate 1
      refine wpS_t_skip rfl (by rfl) ?_
      try simp only [Act.put, List.setIfInBounds_toArray, List.set_cons_zero, List.set_cons_succ]
    refine wpS_k_skip (by exact HSS.out _ HS.out) rfl (by rfl) ?_
    try simp only [Act.put, List.setIfInBounds_toArray, List.set_cons_zero, List.set_cons_succ]
    iterate 2
      refine wpS_t_skip rfl (by rfl) ?_
      try simp only [Act.put, List.setIfInBounds_toArray, List.set_cons_zero, List.set_cons_succ]
    iterate 2
      refine wpS_t rfl (v := ?_) (by rfl) (fun W => ?_) ?_
      rotate_left
      · go_simp
        try rfl
      try simp only [Act.put, List.setIfInBounds_toArray, List.set_cons_zero, List.set_cons_succ]
    iterate 1
      refine wpS_t_skip rfl (by rfl) ?_
      try simp only [Act.put, List.setIfInBounds_toArray, List.set_cons_zero, List.set_cons_succ]
    refine wpS_k_skip (by exact HSS.out _ HS.out) rfl (by rfl) ?_
    try simp only [Act.put, List.setIfInBounds_toArray, List.set_cons_zero, List.set_cons_succ]
    iterate 2
      refine wpS_t_skip rfl (by rfl) ?_
      try simp only [Act.put, List.setIfInBounds_toArray, List.set_cons_zero, List.set_cons_succ]
    iterate 2
      refine wpS_t rfl (v := ?_) (by rfl) (fun W => ?_) ?_
      rotate_left
      · go_simp
        try rfl
      try simp only [Act.put, List.setIfInBounds_toArray, List.set_cons_zero, List.set_cons_succ]
    iterate 3
      refine wpS_t_skip rfl (by rfl) ?_
      try simp only [Act.put, List.setIfInBounds_toArray, List.set_cons_zero, List.set_cons_succ]
    iterate 3
      refine wpS_s_skip (by exact HSS.out _ HS.out) rfl (by rfl) ?_
      try simp only [Act.put, List.setIfInBounds_toArray, List.set_cons_zero, List.set_cons_succ]
    iterate 1
      refine wpS_t_skip rfl (by rfl) ?_
      try simp only [Act.put, List.setIfInBounds_toArray, List.set_cons_zero, List.set_cons_succ]
    refine wpS_k_skip (by exact HSS.out _ HS.out) rfl (by rfl) ?_
    try simp only [Act.put, List.setIfInBounds_toArray, List.set_cons_zero, List.set_cons_succ]
    refine wpS_k_skip (by exact HSS.out _ HS.out) rfl (by rfl) ?_
    try simp only [Act.put, List.setIfInBounds_toArray, List.set_cons_zero, List.set_cons_succ]
    iterate 3
      refine wpS_t_skip rfl (by rfl) ?_
      try simp only [Act.put, List.setIfInBounds_toArray, List.set_cons_zero, List.set_cons_succ]
    iterate 2
      refine wpS_t rfl (v := ?_) (by rfl) (fun W => ?_) ?_
      rotate_left
      · go_simp
        try rfl
      try simp only [Act.put, List.setIfInBounds_toArray, List.set_cons_zero, List.set_cons_succ]
    refine wpS_done ?_
    go_wp2_with fail
    exact bodyPost_ret (results_tmp rfl _ _ _) rfl ⟨by rw [HRV.out]; rfl, HB0.out.trans (HS.out.mono HB0.out.size)⟩
  · have d1 : ¬ (40 : Int) < (l : Int) := by omega
    iterate 3
      refine wpS_t rfl (v := ?_) (by rfl) (fun W => ?_) ?_
      rotate_left
      · go_simp
        try rfl
      try simp only [Act.put, List.setIfInBounds_toArray, List.set_cons_zero, List.set_cons_succ]
    iterate 1
      refine wpS_t rfl (v := ?_) (by rfl) (fun W => ?_) ?_
      rotate_left
      · go_simp
        try rfl
      try simp only [Act.put, List.setIfInBounds_toArray, List.set_cons_zero, List.set_cons_succ]
    have g := (HSS.out _ HS.out).2.1
    refine wpS_k rfl (by rfl) (fun K hK => ?_)
    go_simp
    refine hK _ _ ⟨by exact HSS.out _ HS.out, ?_⟩; clear hK K
    try simp only [Act.put, List.setIfInBounds_toArray, List.set_cons_zero, List.set_cons_succ]
    clear g
    by_cases c2 : 40 < m
    · have d2 : (40 : Int) < (m : Int) := by omega
      have HRV : Hid (R = true) := Lib.hid (by rw [HR.out, decide_eq_true c2]; simp)
      clear c1 c2
      iterate 4
        refine wpS_t rfl (v := ?_) (by rfl) (fun W => ?_) ?_
        rotate_left
        · go_simp
          try rfl
        try simp only [Act.put, List.setIfInBounds_toArray, List.set_cons_zero, List.set_cons_succ]
      iterate 1
        refine wpS_t_skip rfl (by rfl) ?_
        try simp only [Act.put, List.setIfInBounds_toArray, List.set_cons_zero, List.set_cons_succ]
      refine wpS_k_skip (by exact HSS.out _ HS.out) rfl (by rfl) ?_
      try simp only [Act.put, List.setIfInBounds_toArray, List.set_cons_zero, List.set_cons_succ]
      iterate 2
        refine wpS_t_skip rfl (by rfl) ?_
        try simp only [Act.put, List.setIfInBounds_toArray, List.set_cons_zero, List.set_cons_succ]
      iterate 2
        refine wpS_t rfl (v := ?_) (by rfl) (fun W => ?_) ?_
        rotate_left
        · go_simp
          try rfl
        try simp only [Act.put, List.setIfInBounds_toArray, List.set_cons_zero, List.set_cons_succ]
      iterate 3
        refine wpS_t_skip rfl (by rfl) ?_
        try simp only [Act.put, List.setIfInBounds_toArray, List.set_cons_zero, List.set_cons_succ]
      iterate 3
        refine wpS_s_skip (by exact HSS.out _ HS.out) rfl (by rfl) ?_
        try simp only [Act.put, List.setIfInBounds_toArray, List.set_cons_zero, List.set_cons_succ]
      iterate 1
        refine wpS_t_skip rfl (by rfl) ?_
        try simp only [Act.put, List.setIfInBounds_toArray, List.set_cons_zero, List.set_cons_succ]
      refine wpS_k_skip (by exact HSS.out _ HS.out) rfl (by rfl) ?_
      try simp only [Act.put, List.setIfInBounds_toArray, List.set_cons_zero, List.set_cons_succ]
      refine wpS_k_skip (by exact HSS.out _ HS.out) rfl (by rfl) ?_
      try simp only [Act.put, List.setIfInBounds_toArray, List.set_cons_zero, List.set_cons_succ]
      iterate 3
        refine wpS_t_skip rfl (by rfl) ?_
        try simp only [Act.put, List.setIfInBounds_toArray, List.set_cons_zero, List.set_cons_succ]
      iterate 2
        refine wpS_t rfl (v := ?_) (by rfl) (fun W => ?_) ?_
        rotate_left
        · go_simp
          try rfl
        try simp only [Act.put, List.setIfInBounds_toArray, List.set_cons_zero, List.set_cons_succ]
      refine wpS_done ?_
      go_wp2_with fail
      exact bodyPost_ret (results_tmp rfl _ _ _) rfl ⟨by rw [HRV.out]; rfl, HB0.out.trans (HS.out.mono HB0.out.size)⟩
    · have d2 : ¬ (40 : Int) < (m : Int) := by omega
      iterate 4
        refine wpS_t rfl (v := ?_) (by rfl) (fun W => ?_) ?_
        rotate_left
        · go_simp
          try rfl
        try simp only [Act.put, List.setIfInBounds_toArray, List.set_cons_zero, List.set_cons_succ]
      iterate 1
        refine wpS_t rfl (v := ?_) (by rfl) (fun W => ?_) ?_
        rotate_left
        · go_simp
          try rfl
        try simp only [Act.put, List.setIfInBounds_toArray, List.set_cons_zero, List.set_cons_succ]
      have g := (HSS.out _ HS.out).2.2.2.1
      refine wpS_k rfl (by rfl) (fun K hK => ?_)
      go_simp
      refine hK _ _ ⟨by exact HSS.out _ HS.out, ?_⟩; clear hK K
      try simp only [Act.put, List.setIfInBounds_toArray, List.set_cons_zero, List.set_cons_succ]
      clear g
      by_cases c3 : 100 < k
      · have d3 : (100 : Int) < (k : Int) := by omega
        have HRV : Hid (R = true) := Lib.hid (by rw [HR.out, decide_eq_true c3]; simp)
        clear c1 c2 c3
        iterate 4
          refine wpS_t rfl (v := ?_) (by rfl) (fun W => ?_) ?_
          rotate_left
          · go_simp
            try rfl
          try simp only [Act.put, List.setIfInBounds_toArray, List.set_cons_zero, List.set_cons_succ]
        iterate 3
          refine wpS_t_skip rfl (by rfl) ?_
          try simp only [Act.put, List.setIfInBounds_toArray, List.set_cons_zero, List.set_cons_succ]
        iterate 3
          refine wpS_s_skip (by exact HSS.out _ HS.out) rfl (by rfl) ?_
          try simp only [Act.put, List.setIfInBounds_toArray, List.set_cons_zero, List.set_cons_succ]
        iterate 1
          refine wpS_t_skip rfl (by rfl) ?_
          try simp only [Act.put, List.setIfInBounds_toArray, List.set_cons_zero, List.set_cons_succ]
        refine wpS_k_skip (by exact HSS.out _ HS.out) rfl (by rfl) ?_
        try simp only [Act.put, List.setIfInBounds_toArray, List.set_cons_zero, List.set_cons_succ]
        refine wpS_k_skip (by exact HSS.out _ HS.out) rfl (by rfl) ?_
        try simp only [Act.put, List.setIfInBounds_toArray, List.set_cons_zero, List.set_cons_succ]
        iterate 3
          refine wpS_t_skip rfl (by rfl) ?_
          try simp only [Act.put, List.setIfInBounds_toArray, List.set_cons_zero, List.set_cons_succ]
        iterate 2
          refine wpS_t rfl (v := ?_) (by rfl) (fun W => ?_) ?_
          rotate_left
          · go_simp
            try rfl
          try simp only [Act.put, List.setIfInBounds_toArray, List.set_cons_zero, List.set_cons_succ]
        refine wpS_done ?_
        go_wp2_with fail
        exact bodyPost_ret (results_tmp rfl _ _ _) rfl ⟨by rw [HRV.out]; rfl, HB0.out.trans (HS.out.mono HB0.out.size)⟩
      · have d3 : ¬ (100 : Int) < (k : Int) := by omega
        iterate 4
          refine wpS_t rfl (v := ?_) (by rfl) (fun W => ?_) ?_
          rotate_left
          · go_simp
            try rfl
          try simp only [Act.put, List.setIfInBounds_toArray, List.set_cons_zero, List.set_cons_succ]
        iterate 3
          refine wpS_t rfl (v := ?_) (by rfl) (fun W => ?_) ?_
          rotate_left
          · go_simp
            try rfl
          try simp only [Act.put, List.setIfInBounds_toArray, List.set_cons_zero, List.set_cons_succ]
        refine wpS_s (by exact HSS.out _ HS.out) rfl (v := ?_) (by rfl) (fun W hSW => ?_) ?_
        rotate_left
        · go_simp
          try rfl
        try simp only [Act.put, List.setIfInBounds_toArray, List.set_cons_zero, List.set_cons_succ]
        refine wpS_s (by exact HSS.out _ HS.out) rfl (v := ?_) (by rfl) (fun W hSW => ?_) ?_
        rotate_left
        · go_simp
          try rfl
        try simp only [Act.put, List.setIfInBounds_toArray, List.set_cons_zero, List.set_cons_succ]
        refine wpS_s (by exact HSS.out _ HS.out) rfl (v := ?_) (by rfl) (fun W hSW => ?_) ?_
        rotate_left
        · go_simp
          try rfl
        try simp only [Act.put, List.setIfInBounds_toArray, List.set_cons_zero, List.set_cons_succ]
        iterate 1
          refine wpS_t rfl (v := ?_) (by rfl) (fun W => ?_) ?_
          rotate_left
          · go_simp
            try rfl
          try simp only [Act.put, List.setIfInBounds_toArray, List.set_cons_zero, List.set_cons_succ]
        refine wpS_k rfl (by rfl) (fun K hK => ?_)
        go_simp
        refine (HZL.out V HS.out).mono ?_
        rintro e V1 ⟨rfl, rfl⟩
        refine hK _ _ ⟨by exact HSS.out _ HS.out, ?_⟩; clear hK K
        try simp only [Act.put, List.setIfInBounds_toArray, List.set_cons_zero, List.set_cons_succ]
        refine wpS_k rfl (by rfl) (fun K hK => ?_)
        go_simp
        refine (HZM.out V HS.out).mono ?_
        rintro e V1 ⟨rfl, rfl⟩
        refine hK _ _ ⟨by exact HSS.out _ HS.out, ?_⟩; clear hK K
        try simp only [Act.put, List.setIfInBounds_toArray, List.set_cons_zero, List.set_cons_succ]
        have HRV : Hid (R = decide (20000 < p + q + b)) := Lib.hid (by rw [HR.out, decide_eq_false c1, decide_eq_false c2, decide_eq_false c3]; rfl)
        have e1 : IntKind.i64.wrap ((p : Int) + (q : Int)) = (p : Int) + (q : Int) := by rw [IntKind.wrap_i64]; omega
        have e2 : IntKind.i64.wrap ((p : Int) + (q : Int) + (b : Int)) = (p : Int) + (q : Int) + (b : Int) := by rw [IntKind.wrap_i64]; omega
        clear p9 q9 b9 c1 c2 c3
        by_cases c4 : 20000 < p + q + b
        · have d4 : (20000 : Int) < (p : Int) + (q : Int) + (b : Int) := by omega
          rw [decide_eq_true c4] at HRV
          clear c4
          iterate 5
            refine wpS_t rfl (v := ?_) (by rfl) (fun W => ?_) ?_
            rotate_left
            · go_simp
              try rfl
            try simp only [Act.put, List.setIfInBounds_toArray, List.set_cons_zero, List.set_cons_succ]
          refine wpS_done ?_
          go_wp2_with fail
          exact bodyPost_ret (results_tmp rfl _ _ _) rfl ⟨by rw [HRV.out]; rfl, HB0.out.trans (HS.out.mono HB0.out.size)⟩
        · have d4 : ¬ (20000 : Int) < (p : Int) + (q : Int) + (b : Int) := by omega
          rw [decide_eq_false c4] at HRV
          clear c4
          iterate 5
            refine wpS_t rfl (v := ?_) (by rfl) (fun W => ?_) ?_
            rotate_left
            · go_simp
              try rfl
            try simp only [Act.put, List.setIfInBounds_toArray, List.set_cons_zero, List.set_cons_succ]
          refine wpS_done ?_
          go_wp2_with fail
          exact bodyPost_ret (results_tmp rfl _ _ _) rfl ⟨by rw [HRV.out]; rfl, HB0.out.trans (HS.out.mono HB0.out.size)⟩
end Go.Proofs.Ytdkcndgehgmadaa
