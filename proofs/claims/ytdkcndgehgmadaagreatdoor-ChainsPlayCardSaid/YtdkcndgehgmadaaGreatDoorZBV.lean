/-
  Joined: CP4, CP5, CP6.
-/
import Derived.Test.YtdkcndgehgmadaaGreatDoorZBU
-- The law ChainsPlay: what is told of an ask is as it should be.
open Go Go.RowKit Alm
namespace Go.Proofs.YtdkcndgehgmadaaGreatDoor
theorem build_0 (w : World) : (Instr.build 24 #[]).run Tryz.prog w = .ok (.agg (cellsOf zeroSum).toArray) w := by rw [cellsOf_zeroSum]; kernel_rfl
theorem PlayS.allAt {w W : World} {c q n : Nat} {va : Value} {l1 l2 : List (List UInt8)} {cs : List Value} {C : Nat → Prop} {F : Nat → Value} {HB HS : List Held} {SB SS : Nat → List (List Value)} (h : PlayS w W c q n va l1 l2 cs C F HB SB HS SS) : AllAt W va l2 := by
  refine ⟨h.all, ?_⟩
  rcases h.row.2 with ⟨rfl, _⟩ | ⟨g, cap, cur, rfl, _⟩
  · exact .inl rfl
  · exact .inr ⟨g, cap, rfl⟩
set_option maxRecDepth 100000 in
set_option maxHeartbeats 2000000 in
theorem play_condA {w W : World} {c q nb N j : Nat} {va v1 : Value} {all : List (List UInt8)} {cs : List Value} {C : Nat → Prop} {F : Nat → Value} {HB HS : List Held} {SB SS : Nat → List (List Value)} {x p z : Value} {X : List UInt8} {P Z : List Sum} {ka M R : Nat} {mv rv : Sum} {K : Act → World → Prop} {Q : Exit → Act → World → Prop} (hQP : ∀ c (a : Act) (d : Option Nat) (v : Value) (w : World), Q (.panic c) (a.put d v) w → Q (.panic c) a w) (a : Act) (hA : FrAt a [(1, v1), (5, .pointer (some ⟨c, 0, none⟩)), (6, .pointer (some ⟨q, 0, none⟩)), (7, va), (11, .int .u64 (N : Int)), (12, .int .i64 (j : Int)), (13, .int .u64 (ka : Int)), (15, x), (16, .int .i64 0), (17, .pointer (some ⟨M, 0, none⟩)), (18, .int .i64 0), (19, .pointer (some ⟨R, 0, none⟩)), (21, p), (23, z)]) (hI : AskI w W c q nb va all cs C F HB SB HS SS x p z X P Z) (hnb : nb < 1000) (hX : X.length < 900000) (hP : P.length < 900000) (hZ : Z.length < 900000) (hN : all.length = N) (hN2 : N < 1000) (hall : ∀ y ∈ all, y.length ≤ 16384) (hm : W.rangeAt M 0 (cellsOf mv)) (hr : W.rangeAt R 0 (cellsOf rv)) (hka : ka < N) (hXe : X = entOf all ka) (hmv : mv = mk (all.take ka)) (hrv : rv = rt ((all.take ka).map lf))
    (hK : ∀ a' W', FrAt a' [(1, v1), (5, .pointer (some ⟨c, 0, none⟩)), (6, .pointer (some ⟨q, 0, none⟩)), (7, va), (11, .int .u64 (N : Int)), (12, .int .i64 (j : Int))] → PlayN w W' c q (nb + 3) va all → K a' W') :
    Code.wp Tryz.prog (dropN 10 body2C) (Exit.then K Q) a W := by
  have hall2 := hI.s.allAt
  obtain ⟨ga, ca, rfl⟩ : ∃ ga ca, va = .slice (some ⟨ga, 0, none⟩) N ca := by
    rcases hall2.2 with h0 | ⟨g, c9, h0⟩
    · obtain ⟨a9, c9, e9, _⟩ := hall2.1
      rw [h0] at e9
      simp only [Value.slice.injEq] at e9
      omega
    · exact ⟨g, c9, by rw [← hN]; exact h0⟩
  have hcap : N ≤ ca ∧ ca ≤ maxLen := by
    obtain ⟨a9, c9, e9, h1, h2, _⟩ := hall2.1
    simp only [Value.slice.injEq] at e9
    omega
  obtain ⟨u, hu, hub⟩ := hall2.1.cell (sp := none) (j := ka) (by omega)
  rw [Nat.zero_add] at hu
  have hX9 : X = all[ka]'(by omega) := by
    rw [hXe]
    unfold entOf
    rw [List.getD_eq_getElem?_getD, List.getElem?_eq_getElem (by omega)]; rfl
  rw [← hX9] at hub
  have HT := Lib.hid (And.intro (lists_take hall2.1 ka (by omega)) (And.intro (show (all.take ka).length < 1000000 by rw [List.length_take]; omega) (show ∀ y ∈ all.take ka, y.length < 900000 from fun y hy => by have := hall y (List.mem_of_mem_take hy); omega)))
  have HU := Lib.hid (And.intro hu hub)
  have HE := Lib.hid (And.intro hmv hrv)
  obtain ⟨xa, xn, xc, rfl, hxn⟩ := lie_slice hI.ex
  have k0 : (0 : Int) ≤ (ka : Int) := by omega
  have k1 : (ka : Int) < (N : Int) := by omega
  have k2 : (ka : Int) ≤ (ca : Int) := by omega
  have k3 : ka ≤ ca := by omega
  unfold maxLen at hcap
  have k4 : (ca : Int) ≤ 9223372036854775807 := by omega
  have hlt9 : decide (ka < N) = true := decide_eq_true hka
  clear hall2 hu hub hX9 hXe hxn hcap hN hall hmv hrv hN2 hka
  have HI := Lib.hid (And.intro hI (And.intro hnb (And.intro hX (And.intro hP hZ))))
  have HM := Lib.hid (And.intro hm hr)
  have HK := Lib.hid hK
  have HQP := Lib.hid hQP
  have hes := eq_sums_same
  have hbz := build_0
  clear hI hnb hX hP hZ hK hm hr hQP
  obtain ⟨g, rfl, s1, s5, s6, s7, s11, s12, s13, s15, s16, s17, s18, s19, s21, s23, -⟩ := hA.form
  change g 1 = v1 at s1
  change g 5 = .pointer (some ⟨c, 0, none⟩) at s5
  change g 6 = .pointer (some ⟨q, 0, none⟩) at s6
  change g 7 = .slice (some ⟨ga, 0, none⟩) N ca at s7
  change g 11 = .int .u64 (N : Int) at s11
  change g 12 = .int .i64 (j : Int) at s12
  change g 13 = .int .u64 (ka : Int) at s13
  change g 15 = .slice xa xn xc at s15
  change g 16 = .int .i64 0 at s16
  change g 17 = .pointer (some ⟨M, 0, none⟩) at s17
  change g 18 = .int .i64 0 at s18
  change g 19 = .pointer (some ⟨R, 0, none⟩) at s19
  change g 21 = p at s21
  change g 23 = z at s23
  unfold frG
  rw [s1, s5, s6, s7, s11, s12, s13, s15, s16, s17, s18, s19, s21, s23]
  clear s1 s5 s6 s7 s11 s12 s13 s15 s16 s17 s18 s19 s21 s23 hA
  conv => arg 2; whnf
  refine wp_seq_k (fun K' hK' => ?_)
  have HK' := Lib.hid hK'
  clear hK'
  go_wp2_with fail
  refine wp_region_sched (fun V => Below W.heap.size W V) [.t 0, .t 1, .t 2, .t 3, .t 4, .t 5, .t 6, .s 7, .e 8 true, .t 9, .t 10, .t 11, .t 12, .t 13, .t 14, .s 15, .t 16, .t 17, .t 18, .e 19 true, .t 20, .t 21, .s 22, .t 23, .t 24, .t 25, .e 26 true, .t 27, .t 28, .t 29, .t 30, .t 31, .t 32, .t 33, .t 34, .t 35, .t 36, .t 37, .t 38, .t 39, .t 40, .t 41, .t 42, .t 43, .t 44, .t 45, .t 46, .t 47, .t 48, .t 49, .t 50, .s 51, .t 52, .t 53, .t 54, .t 55, .s 56, .t 57, .t 58, .t 59, .t 60, .t 61] (by kernel_rfl) (by kernel_rfl) (fun c a d v w h => HQP.out c a d v w h) ?_
  have HSC := Lib.hid (Below.refl W.heap.size W).drew
  generalize W.drew = V at *
  iterate 7
    refine wpS_t rfl (v := ?_) (by rfl) (fun W => ?_) ?_
    rotate_left
    · go_simp
      try rfl
    try simp only [Act.put, List.setIfInBounds_toArray, List.set_cons_zero, List.set_cons_succ]
  refine wpS_s (by exact HSC.out) rfl (v := u) (by rfl) (fun V2 hV => ?_) ?_
  · have g9 := (Keeps.of_below (X := fun _ => False) hV).cell HU.out.1 (fun h => h)
    go_simp
  try simp only [Act.put, List.setIfInBounds_toArray, List.set_cons_zero, List.set_cons_succ]
  refine wpS_k rfl (by rfl) (fun K hK => ?_)
  go_simp
  refine (same_bytes X X _ _ _ (lie_bytes (HI.out.1.mem HSC.out).ex) (bytes_below HU.out.2 HSC.out (Nat.le_refl _))).mono ?_
  rintro e V9 ⟨rfl, hb9⟩
  rw [show decide (X = X) = true by simp]
  have HSD := Lib.hid (HSC.out.trans (hb9.mono HSC.out.size))
  clear hb9 HSC
  have HSC := Lib.hid HSD.out
  clear HSD
  refine hK _ _ ⟨by exact HSC.out, ?_⟩; clear hK K
  try simp only [Act.put, List.setIfInBounds_toArray, List.set_cons_zero, List.set_cons_succ]
  iterate 6
    refine wpS_t rfl (v := ?_) (by rfl) (fun W => ?_) ?_
    rotate_left
    · go_simp
      try rfl
    try simp only [Act.put, List.setIfInBounds_toArray, List.set_cons_zero, List.set_cons_succ]
  refine wpS_load_sum (by exact HSC.out) rfl (by rfl) _ (by rfl) M 0 (by rfl) mv (fun V hV => (Keeps.of_below (X := fun _ => False) hV).range HM.out.1 (fun h => h)) ?_
  try simp only [Act.put, List.setIfInBounds_toArray, List.set_cons_zero, List.set_cons_succ]
  iterate 3
    refine wpS_t rfl (v := ?_) (by rfl) (fun W => ?_) ?_
    rotate_left
    · go_simp
      try rfl
    try simp only [Act.put, List.setIfInBounds_toArray, List.set_cons_zero, List.set_cons_succ]
  refine wpS_k rfl (by rfl) (fun K hK => ?_)
  go_simp
  refine (rmark_any (all.take ka) _ _ (HT.out.1.below HSC.out) HT.out.2.1 HT.out.2.2).mono ?_
  rw [← HE.out.1]
  rintro e V9 ⟨rfl, hb9⟩
  have HSD := Lib.hid (HSC.out.trans (hb9.mono HSC.out.size))
  clear hb9 HSC
  have HSC := Lib.hid HSD.out
  clear HSD
  refine hK _ _ ⟨by exact HSC.out, ?_⟩; clear hK K
  try simp only [Act.put, List.setIfInBounds_toArray, List.set_cons_zero, List.set_cons_succ]
  iterate 2
    refine wpS_t rfl (v := ?_) (by rfl) (fun W => ?_) ?_
    rotate_left
    · go_simp
      try rfl
    try simp only [Act.put, List.setIfInBounds_toArray, List.set_cons_zero, List.set_cons_succ]
  refine wpS_load_sum (by exact HSC.out) rfl (by rfl) _ (by rfl) R 0 (by rfl) rv (fun V hV => (Keeps.of_below (X := fun _ => False) hV).range HM.out.2 (fun h => h)) ?_
  try simp only [Act.put, List.setIfInBounds_toArray, List.set_cons_zero, List.set_cons_succ]
  iterate 3
    refine wpS_t rfl (v := ?_) (by rfl) (fun W => ?_) ?_
    rotate_left
    · go_simp
      try rfl
    try simp only [Act.put, List.setIfInBounds_toArray, List.set_cons_zero, List.set_cons_succ]
  refine wpS_k rfl (by rfl) (fun K hK => ?_)
  go_simp
  refine (rroot12_any (all.take ka) _ _ (HT.out.1.below HSC.out) HT.out.2.1 HT.out.2.2).mono ?_
  rw [← HE.out.2]
  rintro e V9 ⟨rfl, hb9⟩
  have HSD := Lib.hid (HSC.out.trans (hb9.mono HSC.out.size))
  clear hb9 HSC
  have HSC := Lib.hid HSD.out
  clear HSD
  refine hK _ _ ⟨by exact HSC.out, ?_⟩; clear hK K
  try simp only [Act.put, List.setIfInBounds_toArray, List.set_cons_zero, List.set_cons_succ]
  iterate 8
    refine wpS_t rfl (v := ?_) (by rfl) (fun W => ?_) ?_
    rotate_left
    · go_simp
      try rfl
    try simp only [Act.put, List.setIfInBounds_toArray, List.set_cons_zero, List.set_cons_succ]
  iterate 7
    refine wpS_t_skip rfl (by rfl) ?_
    try simp only [Act.put, List.setIfInBounds_toArray, List.set_cons_zero, List.set_cons_succ]
  iterate 6
    refine wpS_t rfl (v := ?_) (by rfl) (fun W => ?_) ?_
    rotate_left
    · go_simp
      try rfl
    try simp only [Act.put, List.setIfInBounds_toArray, List.set_cons_zero, List.set_cons_succ]
  iterate 3
    refine wpS_t_skip rfl (by rfl) ?_
    try simp only [Act.put, List.setIfInBounds_toArray, List.set_cons_zero, List.set_cons_succ]
  iterate 1
    refine wpS_s_skip (by exact HSC.out) rfl (by rfl) ?_
    try simp only [Act.put, List.setIfInBounds_toArray, List.set_cons_zero, List.set_cons_succ]
  iterate 4
    refine wpS_t_skip rfl (by rfl) ?_
    try simp only [Act.put, List.setIfInBounds_toArray, List.set_cons_zero, List.set_cons_succ]
  iterate 1
    refine wpS_s_skip (by exact HSC.out) rfl (by rfl) ?_
    try simp only [Act.put, List.setIfInBounds_toArray, List.set_cons_zero, List.set_cons_succ]
  iterate 3
    refine wpS_t_skip rfl (by rfl) ?_
    try simp only [Act.put, List.setIfInBounds_toArray, List.set_cons_zero, List.set_cons_succ]
  iterate 2
    refine wpS_t rfl (v := ?_) (by rfl) (fun W => ?_) ?_
    rotate_left
    · go_simp
      try rfl
    try simp only [Act.put, List.setIfInBounds_toArray, List.set_cons_zero, List.set_cons_succ]
  refine wpS_done ?_
  go_wp2_with fail
  refine HK'.out _ _ (play_tell _ ⟨rfl, rfl, rfl, rfl, rfl, rfl, rfl, rfl, rfl, rfl, rfl, trivial⟩ (HI.out.1.mem HSC.out) HI.out.2.1 HI.out.2.2.1 HI.out.2.2.2.1 HI.out.2.2.2.2 HK.out)
end Go.Proofs.YtdkcndgehgmadaaGreatDoor
-- The law ChainsPlay: what is told of an ask is as it should be: of all of them.
open Go Go.RowKit Alm
namespace Go.Proofs.YtdkcndgehgmadaaGreatDoor
set_option maxRecDepth 100000 in
set_option maxHeartbeats 2000000 in
theorem play_condB {w W : World} {c q nb N j : Nat} {va v1 : Value} {all : List (List UInt8)} {cs : List Value} {C : Nat → Prop} {F : Nat → Value} {HB HS : List Held} {SB SS : Nat → List (List Value)} {x p z : Value} {X : List UInt8} {P Z : List Sum} {ka M R : Nat} {mv rv : Sum} {K : Act → World → Prop} {Q : Exit → Act → World → Prop} (hQP : ∀ c (a : Act) (d : Option Nat) (v : Value) (w : World), Q (.panic c) (a.put d v) w → Q (.panic c) a w) (a : Act) (hA : FrAt a [(1, v1), (5, .pointer (some ⟨c, 0, none⟩)), (6, .pointer (some ⟨q, 0, none⟩)), (7, va), (11, .int .u64 (N : Int)), (12, .int .i64 (j : Int)), (13, .int .u64 (ka : Int)), (15, x), (16, .int .i64 1), (17, .pointer (some ⟨M, 0, none⟩)), (18, .int .i64 0), (19, .pointer (some ⟨R, 0, none⟩)), (21, p), (23, z)]) (hI : AskI w W c q nb va all cs C F HB SB HS SS x p z X P Z) (hnb : nb < 1000) (hX : X.length < 900000) (hP : P.length < 900000) (hZ : Z.length < 900000) (hN : all.length = N) (hN2 : N < 1000) (hall : ∀ y ∈ all, y.length ≤ 16384) (hm : W.rangeAt M 0 (cellsOf mv)) (hr : W.rangeAt R 0 (cellsOf rv)) {ga ca : Nat} (hva : va = .slice (some ⟨ga, 0, none⟩) N ca) (hka : ka = N) (hXe : X = entOf all ka) (hmv : mv = mk (all.take ka)) (hrv : rv = rt ((all.take ka).map lf))
    (hK : ∀ a' W', FrAt a' [(1, v1), (5, .pointer (some ⟨c, 0, none⟩)), (6, .pointer (some ⟨q, 0, none⟩)), (7, va), (11, .int .u64 (N : Int)), (12, .int .i64 (j : Int))] → PlayN w W' c q (nb + 3) va all → K a' W') :
    Code.wp Tryz.prog (dropN 10 body2C) (Exit.then K Q) a W := by
  subst hva
  have hX9 : X = [] := by
    rw [hXe]
    unfold entOf
    rw [List.getD_eq_getElem?_getD, List.getElem?_eq_none (by omega)]; rfl
  subst hX9
  obtain ⟨xa, xn, xc, rfl, hxn⟩ := lie_slice hI.ex
  obtain rfl : xn = 0 := by rw [← hxn, ones_len]; rfl
  have hall2 := hI.s.allAt
  have hcap : N ≤ ca ∧ ca ≤ maxLen := by
    obtain ⟨a9, c9, e9, h1, h2, _⟩ := hall2.1
    simp only [Value.slice.injEq] at e9
    omega
  have HT := Lib.hid (And.intro (lists_take hall2.1 ka (by omega)) (And.intro (show (all.take ka).length < 1000000 by rw [List.length_take]; omega) (show ∀ y ∈ all.take ka, y.length < 900000 from fun y hy => by have := hall y (List.mem_of_mem_take hy); omega)))
  have HE := Lib.hid (And.intro hmv hrv)
  have k0 : (0 : Int) ≤ (ka : Int) := by omega
  have k2 : (ka : Int) ≤ (ca : Int) := by omega
  have k3 : ka ≤ ca := by omega
  unfold maxLen at hcap
  have k4 : (ca : Int) ≤ 9223372036854775807 := by omega
  clear hall2 hXe hxn hcap hN hall hmv hrv hN2 hka
  have HI := Lib.hid (And.intro hI (And.intro hnb (And.intro hX (And.intro hP hZ))))
  have HM := Lib.hid (And.intro hm hr)
  have HK := Lib.hid hK
  have HQP := Lib.hid hQP
  have hes := eq_sums_same
  have hbz := build_0
  clear hI hnb hX hP hZ hK hm hr hQP
  obtain ⟨g, rfl, s1, s5, s6, s7, s11, s12, s13, s15, s16, s17, s18, s19, s21, s23, -⟩ := hA.form
  change g 1 = v1 at s1
  change g 5 = .pointer (some ⟨c, 0, none⟩) at s5
  change g 6 = .pointer (some ⟨q, 0, none⟩) at s6
  change g 7 = .slice (some ⟨ga, 0, none⟩) N ca at s7
  change g 11 = .int .u64 (N : Int) at s11
  change g 12 = .int .i64 (j : Int) at s12
  change g 13 = .int .u64 (ka : Int) at s13
  change g 15 = .slice xa 0 xc at s15
  change g 16 = .int .i64 1 at s16
  change g 17 = .pointer (some ⟨M, 0, none⟩) at s17
  change g 18 = .int .i64 0 at s18
  change g 19 = .pointer (some ⟨R, 0, none⟩) at s19
  change g 21 = p at s21
  change g 23 = z at s23
  unfold frG
  rw [s1, s5, s6, s7, s11, s12, s13, s15, s16, s17, s18, s19, s21, s23]
  clear s1 s5 s6 s7 s11 s12 s13 s15 s16 s17 s18 s19 s21 s23 hA
  conv => arg 2; whnf
  refine wp_seq_k (fun K' hK' => ?_)
  have HK' := Lib.hid hK'
  clear hK'
  go_wp2_with fail
  refine wp_region_sched (fun V => Below W.heap.size W V) [.t 0, .t 1, .t 2, .t 3, .t 4, .t 5, .t 6, .s 7, .e 8 true, .t 9, .t 10, .t 11, .t 12, .t 13, .t 14, .s 15, .t 16, .t 17, .t 18, .e 19 true, .t 20, .t 21, .s 22, .t 23, .t 24, .t 25, .e 26 true, .t 27, .t 28, .t 29, .t 30, .t 31, .t 32, .t 33, .t 34, .t 35, .t 36, .t 37, .t 38, .t 39, .t 40, .t 41, .t 42, .t 43, .t 44, .t 45, .t 46, .t 47, .t 48, .t 49, .t 50, .s 51, .t 52, .t 53, .t 54, .t 55, .s 56, .t 57, .t 58, .t 59, .t 60, .t 61] (by kernel_rfl) (by kernel_rfl) (fun c a d v w h => HQP.out c a d v w h) ?_
  have HSC := Lib.hid (Below.refl W.heap.size W).drew
  generalize W.drew = V at *
  iterate 3
    refine wpS_t rfl (v := ?_) (by rfl) (fun W => ?_) ?_
    rotate_left
    · go_simp
      try rfl
    try simp only [Act.put, List.setIfInBounds_toArray, List.set_cons_zero, List.set_cons_succ]
  iterate 4
    refine wpS_t_skip rfl (by rfl) ?_
    try simp only [Act.put, List.setIfInBounds_toArray, List.set_cons_zero, List.set_cons_succ]
  iterate 1
    refine wpS_s_skip (by exact HSC.out) rfl (by rfl) ?_
    try simp only [Act.put, List.setIfInBounds_toArray, List.set_cons_zero, List.set_cons_succ]
  refine wpS_k_skip (by exact HSC.out) rfl (by rfl) ?_
  try simp only [Act.put, List.setIfInBounds_toArray, List.set_cons_zero, List.set_cons_succ]
  iterate 1
    refine wpS_t_skip rfl (by rfl) ?_
    try simp only [Act.put, List.setIfInBounds_toArray, List.set_cons_zero, List.set_cons_succ]
  iterate 5
    refine wpS_t rfl (v := ?_) (by rfl) (fun W => ?_) ?_
    rotate_left
    · go_simp
      try rfl
    try simp only [Act.put, List.setIfInBounds_toArray, List.set_cons_zero, List.set_cons_succ]
  refine wpS_load_sum (by exact HSC.out) rfl (by rfl) _ (by rfl) M 0 (by rfl) mv (fun V hV => (Keeps.of_below (X := fun _ => False) hV).range HM.out.1 (fun h => h)) ?_
  try simp only [Act.put, List.setIfInBounds_toArray, List.set_cons_zero, List.set_cons_succ]
  iterate 3
    refine wpS_t rfl (v := ?_) (by rfl) (fun W => ?_) ?_
    rotate_left
    · go_simp
      try rfl
    try simp only [Act.put, List.setIfInBounds_toArray, List.set_cons_zero, List.set_cons_succ]
  refine wpS_k rfl (by rfl) (fun K hK => ?_)
  go_simp
  refine (rmark_any (all.take ka) _ _ (HT.out.1.below HSC.out) HT.out.2.1 HT.out.2.2).mono ?_
  rw [← HE.out.1]
  rintro e V9 ⟨rfl, hb9⟩
  have HSD := Lib.hid (HSC.out.trans (hb9.mono HSC.out.size))
  clear hb9 HSC
  have HSC := Lib.hid HSD.out
  clear HSD
  refine hK _ _ ⟨by exact HSC.out, ?_⟩; clear hK K
  try simp only [Act.put, List.setIfInBounds_toArray, List.set_cons_zero, List.set_cons_succ]
  iterate 2
    refine wpS_t rfl (v := ?_) (by rfl) (fun W => ?_) ?_
    rotate_left
    · go_simp
      try rfl
    try simp only [Act.put, List.setIfInBounds_toArray, List.set_cons_zero, List.set_cons_succ]
  refine wpS_load_sum (by exact HSC.out) rfl (by rfl) _ (by rfl) R 0 (by rfl) rv (fun V hV => (Keeps.of_below (X := fun _ => False) hV).range HM.out.2 (fun h => h)) ?_
  try simp only [Act.put, List.setIfInBounds_toArray, List.set_cons_zero, List.set_cons_succ]
  iterate 3
    refine wpS_t rfl (v := ?_) (by rfl) (fun W => ?_) ?_
    rotate_left
    · go_simp
      try rfl
    try simp only [Act.put, List.setIfInBounds_toArray, List.set_cons_zero, List.set_cons_succ]
  refine wpS_k rfl (by rfl) (fun K hK => ?_)
  go_simp
  refine (rroot12_any (all.take ka) _ _ (HT.out.1.below HSC.out) HT.out.2.1 HT.out.2.2).mono ?_
  rw [← HE.out.2]
  rintro e V9 ⟨rfl, hb9⟩
  have HSD := Lib.hid (HSC.out.trans (hb9.mono HSC.out.size))
  clear hb9 HSC
  have HSC := Lib.hid HSD.out
  clear HSD
  refine hK _ _ ⟨by exact HSC.out, ?_⟩; clear hK K
  try simp only [Act.put, List.setIfInBounds_toArray, List.set_cons_zero, List.set_cons_succ]
  iterate 21
    refine wpS_t rfl (v := ?_) (by rfl) (fun W => ?_) ?_
    rotate_left
    · go_simp
      try rfl
    try simp only [Act.put, List.setIfInBounds_toArray, List.set_cons_zero, List.set_cons_succ]
  iterate 3
    refine wpS_t_skip rfl (by rfl) ?_
    try simp only [Act.put, List.setIfInBounds_toArray, List.set_cons_zero, List.set_cons_succ]
  iterate 1
    refine wpS_s_skip (by exact HSC.out) rfl (by rfl) ?_
    try simp only [Act.put, List.setIfInBounds_toArray, List.set_cons_zero, List.set_cons_succ]
  iterate 4
    refine wpS_t_skip rfl (by rfl) ?_
    try simp only [Act.put, List.setIfInBounds_toArray, List.set_cons_zero, List.set_cons_succ]
  iterate 1
    refine wpS_s_skip (by exact HSC.out) rfl (by rfl) ?_
    try simp only [Act.put, List.setIfInBounds_toArray, List.set_cons_zero, List.set_cons_succ]
  iterate 3
    refine wpS_t_skip rfl (by rfl) ?_
    try simp only [Act.put, List.setIfInBounds_toArray, List.set_cons_zero, List.set_cons_succ]
  iterate 2
    refine wpS_t rfl (v := ?_) (by rfl) (fun W => ?_) ?_
    rotate_left
    · go_simp
      try rfl
    try simp only [Act.put, List.setIfInBounds_toArray, List.set_cons_zero, List.set_cons_succ]
  refine wpS_done ?_
  go_wp2_with fail
  refine HK'.out _ _ (play_tell _ ⟨rfl, rfl, rfl, rfl, rfl, rfl, rfl, rfl, rfl, rfl, rfl, trivial⟩ (HI.out.1.mem HSC.out) HI.out.2.1 HI.out.2.2.1 HI.out.2.2.2.1 HI.out.2.2.2.2 HK.out)
end Go.Proofs.YtdkcndgehgmadaaGreatDoor
-- The law ChainsPlay: what is told of an ask is as it should be: of none.
open Go Go.RowKit Alm
namespace Go.Proofs.YtdkcndgehgmadaaGreatDoor
set_option maxRecDepth 100000 in
set_option maxHeartbeats 2000000 in
theorem play_condB0 {w W : World} {c q nb N j : Nat} {va v1 : Value} {all : List (List UInt8)} {cs : List Value} {C : Nat → Prop} {F : Nat → Value} {HB HS : List Held} {SB SS : Nat → List (List Value)} {x p z : Value} {X : List UInt8} {P Z : List Sum} {ka M R : Nat} {mv rv : Sum} {K : Act → World → Prop} {Q : Exit → Act → World → Prop} (hQP : ∀ c (a : Act) (d : Option Nat) (v : Value) (w : World), Q (.panic c) (a.put d v) w → Q (.panic c) a w) (a : Act) (hA : FrAt a [(1, v1), (5, .pointer (some ⟨c, 0, none⟩)), (6, .pointer (some ⟨q, 0, none⟩)), (7, va), (11, .int .u64 (N : Int)), (12, .int .i64 (j : Int)), (13, .int .u64 (ka : Int)), (15, x), (16, .int .i64 1), (17, .pointer (some ⟨M, 0, none⟩)), (18, .int .i64 0), (19, .pointer (some ⟨R, 0, none⟩)), (21, p), (23, z)]) (hI : AskI w W c q nb va all cs C F HB SB HS SS x p z X P Z) (hnb : nb < 1000) (hX : X.length < 900000) (hP : P.length < 900000) (hZ : Z.length < 900000) (hN : all.length = N) (hN2 : N < 1000) (hall : ∀ y ∈ all, y.length ≤ 16384) (hm : W.rangeAt M 0 (cellsOf mv)) (hr : W.rangeAt R 0 (cellsOf rv)) (hva : va = .slice none 0 0) (hka : ka = 0) (hN0 : N = 0) (hXe : X = entOf all ka) (hmv : mv = mk (all.take ka)) (hrv : rv = rt ((all.take ka).map lf))
    (hK : ∀ a' W', FrAt a' [(1, v1), (5, .pointer (some ⟨c, 0, none⟩)), (6, .pointer (some ⟨q, 0, none⟩)), (7, va), (11, .int .u64 (N : Int)), (12, .int .i64 (j : Int))] → PlayN w W' c q (nb + 3) va all → K a' W') :
    Code.wp Tryz.prog (dropN 10 body2C) (Exit.then K Q) a W := by
  subst hva hka hN0
  have hX9 : X = [] := by
    rw [hXe]
    unfold entOf
    rw [List.getD_eq_getElem?_getD, List.getElem?_eq_none (by omega)]; rfl
  subst hX9
  obtain ⟨xa, xn, xc, rfl, hxn⟩ := lie_slice hI.ex
  obtain rfl : xn = 0 := by rw [← hxn, ones_len]; rfl
  obtain rfl : all = [] := List.length_eq_zero_iff.1 (by omega)
  have hall2 := hI.s.allAt
  have HT := Lib.hid (And.intro (show ListsAt W (.slice none 0 0) (([] : List (List UInt8)).take 0) from hall2.1) (And.intro (show (([] : List (List UInt8)).take 0).length < 1000000 by rw [List.length_take]; omega) (show ∀ y ∈ ([] : List (List UInt8)).take 0, y.length < 900000 from fun y hy => by have := hall y (List.mem_of_mem_take hy); omega)))
  have HE := Lib.hid (And.intro hmv hrv)
  clear hall2 hXe hxn hN hall hmv hrv hN2
  have HI := Lib.hid (And.intro hI (And.intro hnb (And.intro hX (And.intro hP hZ))))
  have HM := Lib.hid (And.intro hm hr)
  have HK := Lib.hid hK
  have HQP := Lib.hid hQP
  have hes := eq_sums_same
  have hbz := build_0
  clear hI hnb hX hP hZ hK hm hr hQP
  obtain ⟨g, rfl, s1, s5, s6, s7, s11, s12, s13, s15, s16, s17, s18, s19, s21, s23, -⟩ := hA.form
  change g 1 = v1 at s1
  change g 5 = .pointer (some ⟨c, 0, none⟩) at s5
  change g 6 = .pointer (some ⟨q, 0, none⟩) at s6
  change g 7 = .slice none 0 0 at s7
  change g 11 = .int .u64 (0 : Int) at s11
  change g 12 = .int .i64 (j : Int) at s12
  change g 13 = .int .u64 (0 : Int) at s13
  change g 15 = .slice xa 0 xc at s15
  change g 16 = .int .i64 1 at s16
  change g 17 = .pointer (some ⟨M, 0, none⟩) at s17
  change g 18 = .int .i64 0 at s18
  change g 19 = .pointer (some ⟨R, 0, none⟩) at s19
  change g 21 = p at s21
  change g 23 = z at s23
  unfold frG
  rw [s1, s5, s6, s7, s11, s12, s13, s15, s16, s17, s18, s19, s21, s23]
  clear s1 s5 s6 s7 s11 s12 s13 s15 s16 s17 s18 s19 s21 s23 hA
  conv => arg 2; whnf
  refine wp_seq_k (fun K' hK' => ?_)
  have HK' := Lib.hid hK'
  clear hK'
  go_wp2_with fail
  refine wp_region_sched (fun V => Below W.heap.size W V) [.t 0, .t 1, .t 2, .t 3, .t 4, .t 5, .t 6, .s 7, .e 8 true, .t 9, .t 10, .t 11, .t 12, .t 13, .t 14, .s 15, .t 16, .t 17, .t 18, .e 19 true, .t 20, .t 21, .s 22, .t 23, .t 24, .t 25, .e 26 true, .t 27, .t 28, .t 29, .t 30, .t 31, .t 32, .t 33, .t 34, .t 35, .t 36, .t 37, .t 38, .t 39, .t 40, .t 41, .t 42, .t 43, .t 44, .t 45, .t 46, .t 47, .t 48, .t 49, .t 50, .s 51, .t 52, .t 53, .t 54, .t 55, .s 56, .t 57, .t 58, .t 59, .t 60, .t 61] (by kernel_rfl) (by kernel_rfl) (fun c a d v w h => HQP.out c a d v w h) ?_
  have HSC := Lib.hid (Below.refl W.heap.size W).drew
  generalize W.drew = V at *
  iterate 3
    refine wpS_t rfl (v := ?_) (by rfl) (fun W => ?_) ?_
    rotate_left
    · go_simp
      try rfl
    try simp only [Act.put, List.setIfInBounds_toArray, List.set_cons_zero, List.set_cons_succ]
  iterate 4
    refine wpS_t_skip rfl (by rfl) ?_
    try simp only [Act.put, List.setIfInBounds_toArray, List.set_cons_zero, List.set_cons_succ]
  iterate 1
    refine wpS_s_skip (by exact HSC.out) rfl (by rfl) ?_
    try simp only [Act.put, List.setIfInBounds_toArray, List.set_cons_zero, List.set_cons_succ]
  refine wpS_k_skip (by exact HSC.out) rfl (by rfl) ?_
  try simp only [Act.put, List.setIfInBounds_toArray, List.set_cons_zero, List.set_cons_succ]
  iterate 1
    refine wpS_t_skip rfl (by rfl) ?_
    try simp only [Act.put, List.setIfInBounds_toArray, List.set_cons_zero, List.set_cons_succ]
  iterate 5
    refine wpS_t rfl (v := ?_) (by rfl) (fun W => ?_) ?_
    rotate_left
    · go_simp
      try rfl
    try simp only [Act.put, List.setIfInBounds_toArray, List.set_cons_zero, List.set_cons_succ]
  refine wpS_load_sum (by exact HSC.out) rfl (by rfl) _ (by rfl) M 0 (by rfl) mv (fun V hV => (Keeps.of_below (X := fun _ => False) hV).range HM.out.1 (fun h => h)) ?_
  try simp only [Act.put, List.setIfInBounds_toArray, List.set_cons_zero, List.set_cons_succ]
  iterate 3
    refine wpS_t rfl (v := ?_) (by rfl) (fun W => ?_) ?_
    rotate_left
    · go_simp
      try rfl
    try simp only [Act.put, List.setIfInBounds_toArray, List.set_cons_zero, List.set_cons_succ]
  refine wpS_k rfl (by rfl) (fun K hK => ?_)
  go_simp
  refine (rmark_any (([] : List (List UInt8)).take 0) _ _ (HT.out.1.below HSC.out) HT.out.2.1 HT.out.2.2).mono ?_
  rw [← HE.out.1]
  rintro e V9 ⟨rfl, hb9⟩
  have HSD := Lib.hid (HSC.out.trans (hb9.mono HSC.out.size))
  clear hb9 HSC
  have HSC := Lib.hid HSD.out
  clear HSD
  refine hK _ _ ⟨by exact HSC.out, ?_⟩; clear hK K
  try simp only [Act.put, List.setIfInBounds_toArray, List.set_cons_zero, List.set_cons_succ]
  iterate 2
    refine wpS_t rfl (v := ?_) (by rfl) (fun W => ?_) ?_
    rotate_left
    · go_simp
      try rfl
    try simp only [Act.put, List.setIfInBounds_toArray, List.set_cons_zero, List.set_cons_succ]
  refine wpS_load_sum (by exact HSC.out) rfl (by rfl) _ (by rfl) R 0 (by rfl) rv (fun V hV => (Keeps.of_below (X := fun _ => False) hV).range HM.out.2 (fun h => h)) ?_
  try simp only [Act.put, List.setIfInBounds_toArray, List.set_cons_zero, List.set_cons_succ]
  iterate 3
    refine wpS_t rfl (v := ?_) (by rfl) (fun W => ?_) ?_
    rotate_left
    · go_simp
      try rfl
    try simp only [Act.put, List.setIfInBounds_toArray, List.set_cons_zero, List.set_cons_succ]
  refine wpS_k rfl (by rfl) (fun K hK => ?_)
  go_simp
  refine (rroot12_any (([] : List (List UInt8)).take 0) _ _ (HT.out.1.below HSC.out) HT.out.2.1 HT.out.2.2).mono ?_
  rw [← HE.out.2]
  rintro e V9 ⟨rfl, hb9⟩
  have HSD := Lib.hid (HSC.out.trans (hb9.mono HSC.out.size))
  clear hb9 HSC
  have HSC := Lib.hid HSD.out
  clear HSD
  refine hK _ _ ⟨by exact HSC.out, ?_⟩; clear hK K
  try simp only [Act.put, List.setIfInBounds_toArray, List.set_cons_zero, List.set_cons_succ]
  iterate 21
    refine wpS_t rfl (v := ?_) (by rfl) (fun W => ?_) ?_
    rotate_left
    · go_simp
      try rfl
    try simp only [Act.put, List.setIfInBounds_toArray, List.set_cons_zero, List.set_cons_succ]
  iterate 3
    refine wpS_t_skip rfl (by rfl) ?_
    try simp only [Act.put, List.setIfInBounds_toArray, List.set_cons_zero, List.set_cons_succ]
  iterate 1
    refine wpS_s_skip (by exact HSC.out) rfl (by rfl) ?_
    try simp only [Act.put, List.setIfInBounds_toArray, List.set_cons_zero, List.set_cons_succ]
  iterate 4
    refine wpS_t_skip rfl (by rfl) ?_
    try simp only [Act.put, List.setIfInBounds_toArray, List.set_cons_zero, List.set_cons_succ]
  iterate 1
    refine wpS_s_skip (by exact HSC.out) rfl (by rfl) ?_
    try simp only [Act.put, List.setIfInBounds_toArray, List.set_cons_zero, List.set_cons_succ]
  iterate 3
    refine wpS_t_skip rfl (by rfl) ?_
    try simp only [Act.put, List.setIfInBounds_toArray, List.set_cons_zero, List.set_cons_succ]
  iterate 2
    refine wpS_t rfl (v := ?_) (by rfl) (fun W => ?_) ?_
    rotate_left
    · go_simp
      try rfl
    try simp only [Act.put, List.setIfInBounds_toArray, List.set_cons_zero, List.set_cons_succ]
  refine wpS_done ?_
  go_wp2_with fail
  refine HK'.out _ _ (play_tell _ ⟨rfl, rfl, rfl, rfl, rfl, rfl, rfl, rfl, rfl, rfl, rfl, trivial⟩ (HI.out.1.mem HSC.out) HI.out.2.1 HI.out.2.2.1 HI.out.2.2.2.1 HI.out.2.2.2.2 HK.out)
end Go.Proofs.YtdkcndgehgmadaaGreatDoor
