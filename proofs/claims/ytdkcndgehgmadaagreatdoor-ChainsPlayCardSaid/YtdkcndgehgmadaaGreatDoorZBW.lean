/-
  Joined: CP7, CP8.
-/
import Derived.Test.YtdkcndgehgmadaaGreatDoorZBV
import Derived.Test.YtdkcndgehgmadaaGreatDoorZAS
-- The law ChainsPlay: what is told of an ask is as it should be: of more than all.
open Go Go.RowKit Alm
namespace Go.Proofs.YtdkcndgehgmadaaGreatDoor
set_option maxRecDepth 100000 in
set_option maxHeartbeats 2000000 in
theorem play_condC {w W : World} {c q nb N j : Nat} {va v1 : Value} {all : List (List UInt8)} {cs : List Value} {C : Nat → Prop} {F : Nat → Value} {HB HS : List Held} {SB SS : Nat → List (List Value)} {x p z : Value} {X : List UInt8} {P Z : List Sum} {ka M R : Nat} {mv rv : Sum} {K : Act → World → Prop} {Q : Exit → Act → World → Prop} (hQP : ∀ c (a : Act) (d : Option Nat) (v : Value) (w : World), Q (.panic c) (a.put d v) w → Q (.panic c) a w) (a : Act) (hA : FrAt a [(1, v1), (5, .pointer (some ⟨c, 0, none⟩)), (6, .pointer (some ⟨q, 0, none⟩)), (7, va), (11, .int .u64 (N : Int)), (12, .int .i64 (j : Int)), (13, .int .u64 (ka : Int)), (15, x), (16, .int .i64 1), (17, .pointer (some ⟨M, 0, none⟩)), (18, .int .i64 1), (19, .pointer (some ⟨R, 0, none⟩)), (21, p), (23, z)]) (hI : AskI w W c q nb va all cs C F HB SB HS SS x p z X P Z) (hnb : nb < 1000) (hX : X.length < 900000) (hP : P.length < 900000) (hZ : Z.length < 900000) (hN : all.length = N) (_hN2 : N < 1000) (_hall : ∀ y ∈ all, y.length ≤ 16384) (hm : W.rangeAt M 0 (cellsOf mv)) (hr : W.rangeAt R 0 (cellsOf rv)) (hka : N < ka) (hXe : X = entOf all ka) (hmv : mv = zeroSum) (hrv : rv = zeroSum)
    (hK : ∀ a' W', FrAt a' [(1, v1), (5, .pointer (some ⟨c, 0, none⟩)), (6, .pointer (some ⟨q, 0, none⟩)), (7, va), (11, .int .u64 (N : Int)), (12, .int .i64 (j : Int))] → PlayN w W' c q (nb + 3) va all → K a' W') :
    Code.wp Tryz.prog (dropN 10 body2C) (Exit.then K Q) a W := by
  have hX9 : X = [] := by
    rw [hXe]
    unfold entOf
    rw [List.getD_eq_getElem?_getD, List.getElem?_eq_none (by omega)]; rfl
  subst hX9
  obtain ⟨xa, xn, xc, rfl, hxn⟩ := lie_slice hI.ex
  obtain rfl : xn = 0 := by rw [← hxn, ones_len]; rfl
  subst hmv hrv
  clear hXe hxn hN _hall _hN2 hka
  have HI := Lib.hid (And.intro hI (And.intro hnb (And.intro hX (And.intro hP hZ))))
  have HM := Lib.hid (And.intro hm hr)
  have HK := Lib.hid hK
  have HQP := Lib.hid hQP
  have hes := eq_sums_same
  have hbz := build_0
  clear hI hnb hX hP hZ hK hm hr hQP
  obtain ⟨g, rfl, s1, s5, s6, s7, s11, s12, s13, s15, s16, s17, s18, s19, s21, s23, -⟩ := hA.form
  change g 1 = v1 at s1
  change g 5 = .pointer (some ⟨c, 0, none⟩) at s5
  change g 6 = .pointer (some ⟨q, 0, none⟩) at s6
  change g 7 = va at s7
  change g 11 = .int .u64 (N : Int) at s11
  change g 12 = .int .i64 (j : Int) at s12
  change g 13 = .int .u64 (ka : Int) at s13
  change g 15 = .slice xa 0 xc at s15
  change g 16 = .int .i64 1 at s16
  change g 17 = .pointer (some ⟨M, 0, none⟩) at s17
  change g 18 = .int .i64 1 at s18
  change g 19 = .pointer (some ⟨R, 0, none⟩) at s19
  change g 21 = p at s21
  change g 23 = z at s23
  unfold frG
  rw [s1, s5, s6, s7, s11, s12, s13, s15, s16, s17, s18, s19, s21, s23]
  clear s1 s5 s6 s7 s11 s12 s13 s15 s16 s17 s18 s19 s21 s23 hA
  conv => arg 2; whnf
  refine wp_seq_k (fun K' hK' => ?_)
  have HK' := Lib.hid hK'
  clear hK'
  go_wp2_with fail
  refine wp_region_sched (fun V => Below W.heap.size W V) [.t 0, .t 1, .t 2, .t 3, .t 4, .t 5, .t 6, .s 7, .e 8 true, .t 9, .t 10, .t 11, .t 12, .t 13, .t 14, .s 15, .t 16, .t 17, .t 18, .e 19 true, .t 20, .t 21, .s 22, .t 23, .t 24, .t 25, .e 26 true, .t 27, .t 28, .t 29, .t 30, .t 31, .t 32, .t 33, .t 34, .t 35, .t 36, .t 37, .t 38, .t 39, .t 40, .t 41, .t 42, .t 43, .t 44, .t 45, .t 46, .t 47, .t 48, .t 49, .t 50, .s 51, .t 52, .t 53, .t 54, .t 55, .s 56, .t 57, .t 58, .t 59, .t 60, .t 61] (by kernel_rfl) (by kernel_rfl) (fun c a d v w h => HQP.out c a d v w h) ?_
  have HSC := Lib.hid (Below.refl W.heap.size W).drew
  generalize W.drew = V at *
  iterate 3
    refine wpS_t rfl (v := ?_) (by rfl) (fun W => ?_) ?_
    rotate_left
    · go_simp
      try rfl
    try simp only [Act.put, List.setIfInBounds_toArray, List.set_cons_zero, List.set_cons_succ]
  iterate 4
    refine wpS_t_skip rfl (by rfl) ?_
    try simp only [Act.put, List.setIfInBounds_toArray, List.set_cons_zero, List.set_cons_succ]
  iterate 1
    refine wpS_s_skip (by exact HSC.out) rfl (by rfl) ?_
    try simp only [Act.put, List.setIfInBounds_toArray, List.set_cons_zero, List.set_cons_succ]
  refine wpS_k_skip (by exact HSC.out) rfl (by rfl) ?_
  try simp only [Act.put, List.setIfInBounds_toArray, List.set_cons_zero, List.set_cons_succ]
  iterate 1
    refine wpS_t_skip rfl (by rfl) ?_
    try simp only [Act.put, List.setIfInBounds_toArray, List.set_cons_zero, List.set_cons_succ]
  iterate 5
    refine wpS_t rfl (v := ?_) (by rfl) (fun W => ?_) ?_
    rotate_left
    · go_simp
      try rfl
    try simp only [Act.put, List.setIfInBounds_toArray, List.set_cons_zero, List.set_cons_succ]
  iterate 1
    refine wpS_s_skip (by exact HSC.out) rfl (by rfl) ?_
    try simp only [Act.put, List.setIfInBounds_toArray, List.set_cons_zero, List.set_cons_succ]
  iterate 3
    refine wpS_t_skip rfl (by rfl) ?_
    try simp only [Act.put, List.setIfInBounds_toArray, List.set_cons_zero, List.set_cons_succ]
  refine wpS_k_skip (by exact HSC.out) rfl (by rfl) ?_
  try simp only [Act.put, List.setIfInBounds_toArray, List.set_cons_zero, List.set_cons_succ]
  iterate 2
    refine wpS_t_skip rfl (by rfl) ?_
    try simp only [Act.put, List.setIfInBounds_toArray, List.set_cons_zero, List.set_cons_succ]
  iterate 1
    refine wpS_s_skip (by exact HSC.out) rfl (by rfl) ?_
    try simp only [Act.put, List.setIfInBounds_toArray, List.set_cons_zero, List.set_cons_succ]
  iterate 3
    refine wpS_t_skip rfl (by rfl) ?_
    try simp only [Act.put, List.setIfInBounds_toArray, List.set_cons_zero, List.set_cons_succ]
  refine wpS_k_skip (by exact HSC.out) rfl (by rfl) ?_
  try simp only [Act.put, List.setIfInBounds_toArray, List.set_cons_zero, List.set_cons_succ]
  iterate 2
    refine wpS_t_skip rfl (by rfl) ?_
    try simp only [Act.put, List.setIfInBounds_toArray, List.set_cons_zero, List.set_cons_succ]
  iterate 22
    refine wpS_t rfl (v := ?_) (by rfl) (fun W => ?_) ?_
    rotate_left
    · go_simp
      try rfl
    try simp only [Act.put, List.setIfInBounds_toArray, List.set_cons_zero, List.set_cons_succ]
  refine wpS_load_sum (by exact HSC.out) rfl (by rfl) _ (by rfl) M 0 (by rfl) zeroSum (fun V hV => (Keeps.of_below (X := fun _ => False) hV).range HM.out.1 (fun h => h)) ?_
  try simp only [Act.put, List.setIfInBounds_toArray, List.set_cons_zero, List.set_cons_succ]
  refine wpS_t rfl (v := sv zeroSum) (by rfl) (fun W => ?_) ?_
  · rw [show (sv zeroSum) = .agg (cells8 (List.replicate 32 0)).toArray by rw [← cellsOf_zeroSum]]
    go_simp
    try rfl
  try simp only [Act.put, List.setIfInBounds_toArray, List.set_cons_zero, List.set_cons_succ]
  iterate 3
    refine wpS_t rfl (v := ?_) (by rfl) (fun W => ?_) ?_
    rotate_left
    · go_simp
      try rfl
    try simp only [Act.put, List.setIfInBounds_toArray, List.set_cons_zero, List.set_cons_succ]
  refine wpS_load_sum (by exact HSC.out) rfl (by rfl) _ (by rfl) R 0 (by rfl) zeroSum (fun V hV => (Keeps.of_below (X := fun _ => False) hV).range HM.out.2 (fun h => h)) ?_
  try simp only [Act.put, List.setIfInBounds_toArray, List.set_cons_zero, List.set_cons_succ]
  refine wpS_t rfl (v := sv zeroSum) (by rfl) (fun W => ?_) ?_
  · rw [show (sv zeroSum) = .agg (cells8 (List.replicate 32 0)).toArray by rw [← cellsOf_zeroSum]]
    go_simp
    try rfl
  try simp only [Act.put, List.setIfInBounds_toArray, List.set_cons_zero, List.set_cons_succ]
  iterate 4
    refine wpS_t rfl (v := ?_) (by rfl) (fun W => ?_) ?_
    rotate_left
    · go_simp
      try rfl
    try simp only [Act.put, List.setIfInBounds_toArray, List.set_cons_zero, List.set_cons_succ]
  refine wpS_done ?_
  go_wp2_with fail
  refine HK'.out _ _ (play_tell _ ⟨rfl, rfl, rfl, rfl, rfl, rfl, rfl, rfl, rfl, rfl, rfl, trivial⟩ (HI.out.1.mem HSC.out) HI.out.2.1 HI.out.2.2.1 HI.out.2.2.2.1 HI.out.2.2.2.2 HK.out)
end Go.Proofs.YtdkcndgehgmadaaGreatDoor
-- The law ChainsPlay: what is told of an ask is as it should be: before.
open Go Go.RowKit Alm
namespace Go.Proofs.YtdkcndgehgmadaaGreatDoor
set_option maxRecDepth 100000 in
set_option maxHeartbeats 2000000 in
theorem play_firstA {w W : World} {c q nb N j : Nat} {va v1 : Value} {all : List (List UInt8)} {cs : List Value} {C : Nat → Prop} {F : Nat → Value} {HB HS : List Held} {SB SS : Nat → List (List Value)} {x p z : Value} {X : List UInt8} {P Z : List Sum} {ka M R : Nat} {mv rv : Sum} {y o : Value} {E1 E2 : Int} {K : Act → World → Prop} {Q : Exit → Act → World → Prop} (hQP : ∀ c (a : Act) (d : Option Nat) (v : Value) (w : World), Q (.panic c) (a.put d v) w → Q (.panic c) a w) (a : Act) (hA : FrAt a [(1, v1), (5, .pointer (some ⟨c, 0, none⟩)), (6, .pointer (some ⟨q, 0, none⟩)), (7, va), (11, .int .u64 (N : Int)), (12, .int .i64 (j : Int)), (13, .int .u64 (ka : Int)), (15, x), (16, .int .i64 0), (17, .pointer (some ⟨M, 0, none⟩)), (18, .int .i64 0), (19, .pointer (some ⟨R, 0, none⟩)), (20, .int .i64 0), (21, p), (22, .int .i64 E1), (23, z), (24, .int .i64 E2), (25, y), (26, .int .i64 E1), (27, o), (28, .int .i64 E2)]) (hI : AskI w W c q nb va all cs C F HB SB HS SS x p z X P Z) (hnb : nb < 1000) (hX : X.length < 900000) (hP : P.length < 900000) (hZ : Z.length < 900000) (hN : all.length = N) (hN2 : N < 1000) (hall : ∀ y ∈ all, y.length ≤ 16384) (hm : W.rangeAt M 0 (cellsOf mv)) (hr : W.rangeAt R 0 (cellsOf rv)) (hka : ka < N) (hXe : X = entOf all ka) (hmv : mv = mk (all.take ka)) (hrv : rv = rt ((all.take ka).map lf)) (hy : SumsAt W y P) (ho : SumsAt W o Z)
    (hK : ∀ a' W', FrAt a' [(1, v1), (5, .pointer (some ⟨c, 0, none⟩)), (6, .pointer (some ⟨q, 0, none⟩)), (7, va), (11, .int .u64 (N : Int)), (12, .int .i64 (j : Int))] → PlayN w W' c q (nb + 3) va all → K a' W') :
    Code.wp Tryz.prog (dropN 9 body2C) (Exit.then K Q) a W := by
  have HI := Lib.hid (And.intro hI (And.intro hnb (And.intro hX (And.intro hP (And.intro hZ (And.intro hN (And.intro hN2 (And.intro hall (And.intro hm (And.intro hr (And.intro hy ho)))))))))))
  have HK := Lib.hid hK
  have HQP := Lib.hid hQP
  have r1 : ((ka : Int) < (N : Int)) := by omega
  have r2 : decide ((ka : Int) < (N : Int)) = true := decide_eq_true r1
  have r3 : decide (ka < N) = true := decide_eq_true (by omega)
  have r4 : ((ka : Int) ≤ (N : Int)) := by omega
  have r5 : decide ((ka : Int) ≤ (N : Int)) = true := decide_eq_true r4
  have r6 : decide (ka ≤ N) = true := decide_eq_true (by omega)
  have HZ9 := Lib.hid hka
  clear hka
  clear hI hnb hX hP hZ hK hm hr hQP hN hN2 hall hy ho
  obtain ⟨g, rfl, s1, s5, s6, s7, s11, s12, s13, s15, s16, s17, s18, s19, s20, s21, s22, s23, s24, s25, s26, s27, s28, -⟩ := hA.form
  change g 1 = v1 at s1
  change g 5 = .pointer (some ⟨c, 0, none⟩) at s5
  change g 6 = .pointer (some ⟨q, 0, none⟩) at s6
  change g 7 = va at s7
  change g 11 = .int .u64 (N : Int) at s11
  change g 12 = .int .i64 (j : Int) at s12
  change g 13 = .int .u64 (ka : Int) at s13
  change g 15 = x at s15
  change g 16 = .int .i64 0 at s16
  change g 17 = .pointer (some ⟨M, 0, none⟩) at s17
  change g 18 = .int .i64 0 at s18
  change g 19 = .pointer (some ⟨R, 0, none⟩) at s19
  change g 20 = .int .i64 0 at s20
  change g 21 = p at s21
  change g 22 = .int .i64 E1 at s22
  change g 23 = z at s23
  change g 24 = .int .i64 E2 at s24
  change g 25 = y at s25
  change g 26 = .int .i64 E1 at s26
  change g 27 = o at s27
  change g 28 = .int .i64 E2 at s28
  unfold frG
  rw [s1, s5, s6, s7, s11, s12, s13, s15, s16, s17, s18, s19, s20, s21, s22, s23, s24, s25, s26, s27, s28]
  clear s1 s5 s6 s7 s11 s12 s13 s15 s16 s17 s18 s19 s20 s21 s22 s23 s24 s25 s26 s27 s28 hA
  conv => arg 2; whnf
  refine wp_seq_k (fun K' hK' => ?_)
  have HK' := Lib.hid hK'
  clear hK'
  have q1 : (E1 != E1) = false := by simp
  have q2 : (E2 != E2) = false := by simp
  go_wp2_with (go_at_call 11; refine Hid.out ?_)
  refine Lib.hid ?_
  refine (same_sums P P _ _ W (lie_sums HI.out.1.ep) HI.out.2.2.2.2.2.2.2.2.2.2.1).mono ?_
  rintro e W1 ⟨rfl, hb1⟩
  rw [show decide (P = P) = true by simp]
  have HB1 := Lib.hid hb1
  clear hb1
  go_wp2_with (go_at_call 11; refine Hid.out ?_)
  refine Lib.hid ?_
  refine (same_sums Z Z _ _ W1 (lie_sums (HI.out.1.mem HB1.out).ez) ((Keeps.of_below (X := fun _ => False) HB1.out).sums HI.out.2.2.2.2.2.2.2.2.2.2.2 (fun _ _ h => h))).mono ?_
  rintro e W2 ⟨rfl, hb2⟩
  rw [show decide (Z = Z) = true by simp]
  have HB2 := Lib.hid (HB1.out.trans (hb2.mono HB1.out.size))
  clear hb2 HB1
  go_wp2_with fail
  exact HK'.out _ _ (play_condA HQP.out _ ⟨rfl, rfl, rfl, rfl, rfl, rfl, rfl, rfl, rfl, rfl, rfl, rfl, rfl, rfl, rfl, rfl, trivial⟩ (HI.out.1.mem HB2.out) HI.out.2.1 HI.out.2.2.1 HI.out.2.2.2.1 HI.out.2.2.2.2.1 HI.out.2.2.2.2.2.1 HI.out.2.2.2.2.2.2.1 HI.out.2.2.2.2.2.2.2.1 ((Keeps.of_below (X := fun _ => False) HB2.out).range HI.out.2.2.2.2.2.2.2.2.1 (fun h => h)) ((Keeps.of_below (X := fun _ => False) HB2.out).range HI.out.2.2.2.2.2.2.2.2.2.1 (fun h => h)) HZ9.out hXe hmv hrv HK.out)
set_option maxRecDepth 100000 in
set_option maxHeartbeats 2000000 in
theorem play_firstC {w W : World} {c q nb N j : Nat} {va v1 : Value} {all : List (List UInt8)} {cs : List Value} {C : Nat → Prop} {F : Nat → Value} {HB HS : List Held} {SB SS : Nat → List (List Value)} {x p z : Value} {X : List UInt8} {P Z : List Sum} {ka M R : Nat} {mv rv : Sum} {y o : Value} {E1 E2 : Int} {K : Act → World → Prop} {Q : Exit → Act → World → Prop} (hQP : ∀ c (a : Act) (d : Option Nat) (v : Value) (w : World), Q (.panic c) (a.put d v) w → Q (.panic c) a w) (a : Act) (hA : FrAt a [(1, v1), (5, .pointer (some ⟨c, 0, none⟩)), (6, .pointer (some ⟨q, 0, none⟩)), (7, va), (11, .int .u64 (N : Int)), (12, .int .i64 (j : Int)), (13, .int .u64 (ka : Int)), (15, x), (16, .int .i64 1), (17, .pointer (some ⟨M, 0, none⟩)), (18, .int .i64 1), (19, .pointer (some ⟨R, 0, none⟩)), (20, .int .i64 1), (21, p), (22, .int .i64 E1), (23, z), (24, .int .i64 E2), (25, y), (26, .int .i64 E1), (27, o), (28, .int .i64 E2)]) (hI : AskI w W c q nb va all cs C F HB SB HS SS x p z X P Z) (hnb : nb < 1000) (hX : X.length < 900000) (hP : P.length < 900000) (hZ : Z.length < 900000) (hN : all.length = N) (hN2 : N < 1000) (hall : ∀ y ∈ all, y.length ≤ 16384) (hm : W.rangeAt M 0 (cellsOf mv)) (hr : W.rangeAt R 0 (cellsOf rv)) (hka : N < ka) (hXe : X = entOf all ka) (hmv : mv = zeroSum) (hrv : rv = zeroSum) (hy : SumsAt W y P) (ho : SumsAt W o Z)
    (hK : ∀ a' W', FrAt a' [(1, v1), (5, .pointer (some ⟨c, 0, none⟩)), (6, .pointer (some ⟨q, 0, none⟩)), (7, va), (11, .int .u64 (N : Int)), (12, .int .i64 (j : Int))] → PlayN w W' c q (nb + 3) va all → K a' W') :
    Code.wp Tryz.prog (dropN 9 body2C) (Exit.then K Q) a W := by
  have HI := Lib.hid (And.intro hI (And.intro hnb (And.intro hX (And.intro hP (And.intro hZ (And.intro hN (And.intro hN2 (And.intro hall (And.intro hm (And.intro hr (And.intro hy ho)))))))))))
  have HK := Lib.hid hK
  have HQP := Lib.hid hQP
  have r1 : ¬ ((ka : Int) < (N : Int)) := by omega
  have r2 : decide ((ka : Int) < (N : Int)) = false := decide_eq_false r1
  have r3 : decide (ka < N) = false := decide_eq_false (by omega)
  have r4 : ¬ ((ka : Int) ≤ (N : Int)) := by omega
  have r5 : decide ((ka : Int) ≤ (N : Int)) = false := decide_eq_false r4
  have r6 : decide (ka ≤ N) = false := decide_eq_false (by omega)
  have HZ9 := Lib.hid hka
  clear hka
  clear hI hnb hX hP hZ hK hm hr hQP hN hN2 hall hy ho
  obtain ⟨g, rfl, s1, s5, s6, s7, s11, s12, s13, s15, s16, s17, s18, s19, s20, s21, s22, s23, s24, s25, s26, s27, s28, -⟩ := hA.form
  change g 1 = v1 at s1
  change g 5 = .pointer (some ⟨c, 0, none⟩) at s5
  change g 6 = .pointer (some ⟨q, 0, none⟩) at s6
  change g 7 = va at s7
  change g 11 = .int .u64 (N : Int) at s11
  change g 12 = .int .i64 (j : Int) at s12
  change g 13 = .int .u64 (ka : Int) at s13
  change g 15 = x at s15
  change g 16 = .int .i64 1 at s16
  change g 17 = .pointer (some ⟨M, 0, none⟩) at s17
  change g 18 = .int .i64 1 at s18
  change g 19 = .pointer (some ⟨R, 0, none⟩) at s19
  change g 20 = .int .i64 1 at s20
  change g 21 = p at s21
  change g 22 = .int .i64 E1 at s22
  change g 23 = z at s23
  change g 24 = .int .i64 E2 at s24
  change g 25 = y at s25
  change g 26 = .int .i64 E1 at s26
  change g 27 = o at s27
  change g 28 = .int .i64 E2 at s28
  unfold frG
  rw [s1, s5, s6, s7, s11, s12, s13, s15, s16, s17, s18, s19, s20, s21, s22, s23, s24, s25, s26, s27, s28]
  clear s1 s5 s6 s7 s11 s12 s13 s15 s16 s17 s18 s19 s20 s21 s22 s23 s24 s25 s26 s27 s28 hA
  conv => arg 2; whnf
  refine wp_seq_k (fun K' hK' => ?_)
  have HK' := Lib.hid hK'
  clear hK'
  have q1 : (E1 != E1) = false := by simp
  have q2 : (E2 != E2) = false := by simp
  go_wp2_with (go_at_call 11; refine Hid.out ?_)
  refine Lib.hid ?_
  refine (same_sums P P _ _ W (lie_sums HI.out.1.ep) HI.out.2.2.2.2.2.2.2.2.2.2.1).mono ?_
  rintro e W1 ⟨rfl, hb1⟩
  rw [show decide (P = P) = true by simp]
  have HB1 := Lib.hid hb1
  clear hb1
  go_wp2_with (go_at_call 11; refine Hid.out ?_)
  refine Lib.hid ?_
  refine (same_sums Z Z _ _ W1 (lie_sums (HI.out.1.mem HB1.out).ez) ((Keeps.of_below (X := fun _ => False) HB1.out).sums HI.out.2.2.2.2.2.2.2.2.2.2.2 (fun _ _ h => h))).mono ?_
  rintro e W2 ⟨rfl, hb2⟩
  rw [show decide (Z = Z) = true by simp]
  have HB2 := Lib.hid (HB1.out.trans (hb2.mono HB1.out.size))
  clear hb2 HB1
  go_wp2_with fail
  exact HK'.out _ _ (play_condC HQP.out _ ⟨rfl, rfl, rfl, rfl, rfl, rfl, rfl, rfl, rfl, rfl, rfl, rfl, rfl, rfl, rfl, rfl, trivial⟩ (HI.out.1.mem HB2.out) HI.out.2.1 HI.out.2.2.1 HI.out.2.2.2.1 HI.out.2.2.2.2.1 HI.out.2.2.2.2.2.1 HI.out.2.2.2.2.2.2.1 HI.out.2.2.2.2.2.2.2.1 ((Keeps.of_below (X := fun _ => False) HB2.out).range HI.out.2.2.2.2.2.2.2.2.1 (fun h => h)) ((Keeps.of_below (X := fun _ => False) HB2.out).range HI.out.2.2.2.2.2.2.2.2.2.1 (fun h => h)) HZ9.out hXe hmv hrv HK.out)
set_option maxRecDepth 100000 in
set_option maxHeartbeats 2000000 in
theorem play_firstB {w W : World} {c q nb N j : Nat} {va v1 : Value} {all : List (List UInt8)} {cs : List Value} {C : Nat → Prop} {F : Nat → Value} {HB HS : List Held} {SB SS : Nat → List (List Value)} {x p z : Value} {X : List UInt8} {P Z : List Sum} {ka M R : Nat} {mv rv : Sum} {y o : Value} {E1 E2 : Int} {K : Act → World → Prop} {Q : Exit → Act → World → Prop} (hQP : ∀ c (a : Act) (d : Option Nat) (v : Value) (w : World), Q (.panic c) (a.put d v) w → Q (.panic c) a w) (a : Act) (hA : FrAt a [(1, v1), (5, .pointer (some ⟨c, 0, none⟩)), (6, .pointer (some ⟨q, 0, none⟩)), (7, va), (11, .int .u64 (N : Int)), (12, .int .i64 (j : Int)), (13, .int .u64 (ka : Int)), (15, x), (16, .int .i64 1), (17, .pointer (some ⟨M, 0, none⟩)), (18, .int .i64 0), (19, .pointer (some ⟨R, 0, none⟩)), (20, .int .i64 0), (21, p), (22, .int .i64 E1), (23, z), (24, .int .i64 E2), (25, y), (26, .int .i64 E1), (27, o), (28, .int .i64 E2)]) (hI : AskI w W c q nb va all cs C F HB SB HS SS x p z X P Z) (hnb : nb < 1000) (hX : X.length < 900000) (hP : P.length < 900000) (hZ : Z.length < 900000) (hN : all.length = N) (hN2 : N < 1000) (hall : ∀ y ∈ all, y.length ≤ 16384) (hm : W.rangeAt M 0 (cellsOf mv)) (hr : W.rangeAt R 0 (cellsOf rv)) {ga ca : Nat} (hva : va = .slice (some ⟨ga, 0, none⟩) N ca) (hka : ka = N) (hXe : X = entOf all ka) (hmv : mv = mk (all.take ka)) (hrv : rv = rt ((all.take ka).map lf)) (hy : SumsAt W y P) (ho : SumsAt W o Z)
    (hK : ∀ a' W', FrAt a' [(1, v1), (5, .pointer (some ⟨c, 0, none⟩)), (6, .pointer (some ⟨q, 0, none⟩)), (7, va), (11, .int .u64 (N : Int)), (12, .int .i64 (j : Int))] → PlayN w W' c q (nb + 3) va all → K a' W') :
    Code.wp Tryz.prog (dropN 9 body2C) (Exit.then K Q) a W := by
  have HI := Lib.hid (And.intro hI (And.intro hnb (And.intro hX (And.intro hP (And.intro hZ (And.intro hN (And.intro hN2 (And.intro hall (And.intro hm (And.intro hr (And.intro hy ho)))))))))))
  have HK := Lib.hid hK
  have HQP := Lib.hid hQP
  have r1 : ¬ ((ka : Int) < (N : Int)) := by omega
  have r2 : decide ((ka : Int) < (N : Int)) = false := decide_eq_false r1
  have r3 : decide (ka < N) = false := decide_eq_false (by omega)
  have r4 : ((ka : Int) ≤ (N : Int)) := by omega
  have r5 : decide ((ka : Int) ≤ (N : Int)) = true := decide_eq_true r4
  have r6 : decide (ka ≤ N) = true := decide_eq_true (by omega)
  have HZ9 := Lib.hid hka
  clear hka
  have HVA := Lib.hid hva
  clear hva
  clear hI hnb hX hP hZ hK hm hr hQP hN hN2 hall hy ho
  obtain ⟨g, rfl, s1, s5, s6, s7, s11, s12, s13, s15, s16, s17, s18, s19, s20, s21, s22, s23, s24, s25, s26, s27, s28, -⟩ := hA.form
  change g 1 = v1 at s1
  change g 5 = .pointer (some ⟨c, 0, none⟩) at s5
  change g 6 = .pointer (some ⟨q, 0, none⟩) at s6
  change g 7 = va at s7
  change g 11 = .int .u64 (N : Int) at s11
  change g 12 = .int .i64 (j : Int) at s12
  change g 13 = .int .u64 (ka : Int) at s13
  change g 15 = x at s15
  change g 16 = .int .i64 1 at s16
  change g 17 = .pointer (some ⟨M, 0, none⟩) at s17
  change g 18 = .int .i64 0 at s18
  change g 19 = .pointer (some ⟨R, 0, none⟩) at s19
  change g 20 = .int .i64 0 at s20
  change g 21 = p at s21
  change g 22 = .int .i64 E1 at s22
  change g 23 = z at s23
  change g 24 = .int .i64 E2 at s24
  change g 25 = y at s25
  change g 26 = .int .i64 E1 at s26
  change g 27 = o at s27
  change g 28 = .int .i64 E2 at s28
  unfold frG
  rw [s1, s5, s6, s7, s11, s12, s13, s15, s16, s17, s18, s19, s20, s21, s22, s23, s24, s25, s26, s27, s28]
  clear s1 s5 s6 s7 s11 s12 s13 s15 s16 s17 s18 s19 s20 s21 s22 s23 s24 s25 s26 s27 s28 hA
  conv => arg 2; whnf
  refine wp_seq_k (fun K' hK' => ?_)
  have HK' := Lib.hid hK'
  clear hK'
  have q1 : (E1 != E1) = false := by simp
  have q2 : (E2 != E2) = false := by simp
  go_wp2_with (go_at_call 11; refine Hid.out ?_)
  refine Lib.hid ?_
  refine (same_sums P P _ _ W (lie_sums HI.out.1.ep) HI.out.2.2.2.2.2.2.2.2.2.2.1).mono ?_
  rintro e W1 ⟨rfl, hb1⟩
  rw [show decide (P = P) = true by simp]
  have HB1 := Lib.hid hb1
  clear hb1
  go_wp2_with (go_at_call 11; refine Hid.out ?_)
  refine Lib.hid ?_
  refine (same_sums Z Z _ _ W1 (lie_sums (HI.out.1.mem HB1.out).ez) ((Keeps.of_below (X := fun _ => False) HB1.out).sums HI.out.2.2.2.2.2.2.2.2.2.2.2 (fun _ _ h => h))).mono ?_
  rintro e W2 ⟨rfl, hb2⟩
  rw [show decide (Z = Z) = true by simp]
  have HB2 := Lib.hid (HB1.out.trans (hb2.mono HB1.out.size))
  clear hb2 HB1
  go_wp2_with fail
  exact HK'.out _ _ (play_condB HQP.out _ ⟨rfl, rfl, rfl, rfl, rfl, rfl, rfl, rfl, rfl, rfl, rfl, rfl, rfl, rfl, rfl, rfl, trivial⟩ (HI.out.1.mem HB2.out) HI.out.2.1 HI.out.2.2.1 HI.out.2.2.2.1 HI.out.2.2.2.2.1 HI.out.2.2.2.2.2.1 HI.out.2.2.2.2.2.2.1 HI.out.2.2.2.2.2.2.2.1 ((Keeps.of_below (X := fun _ => False) HB2.out).range HI.out.2.2.2.2.2.2.2.2.1 (fun h => h)) ((Keeps.of_below (X := fun _ => False) HB2.out).range HI.out.2.2.2.2.2.2.2.2.2.1 (fun h => h)) HVA.out HZ9.out hXe hmv hrv HK.out)
set_option maxRecDepth 100000 in
set_option maxHeartbeats 2000000 in
theorem play_firstB0 {w W : World} {c q nb N j : Nat} {va v1 : Value} {all : List (List UInt8)} {cs : List Value} {C : Nat → Prop} {F : Nat → Value} {HB HS : List Held} {SB SS : Nat → List (List Value)} {x p z : Value} {X : List UInt8} {P Z : List Sum} {ka M R : Nat} {mv rv : Sum} {y o : Value} {E1 E2 : Int} {K : Act → World → Prop} {Q : Exit → Act → World → Prop} (hQP : ∀ c (a : Act) (d : Option Nat) (v : Value) (w : World), Q (.panic c) (a.put d v) w → Q (.panic c) a w) (a : Act) (hA : FrAt a [(1, v1), (5, .pointer (some ⟨c, 0, none⟩)), (6, .pointer (some ⟨q, 0, none⟩)), (7, va), (11, .int .u64 (N : Int)), (12, .int .i64 (j : Int)), (13, .int .u64 (ka : Int)), (15, x), (16, .int .i64 1), (17, .pointer (some ⟨M, 0, none⟩)), (18, .int .i64 0), (19, .pointer (some ⟨R, 0, none⟩)), (20, .int .i64 0), (21, p), (22, .int .i64 E1), (23, z), (24, .int .i64 E2), (25, y), (26, .int .i64 E1), (27, o), (28, .int .i64 E2)]) (hI : AskI w W c q nb va all cs C F HB SB HS SS x p z X P Z) (hnb : nb < 1000) (hX : X.length < 900000) (hP : P.length < 900000) (hZ : Z.length < 900000) (hN : all.length = N) (hN2 : N < 1000) (hall : ∀ y ∈ all, y.length ≤ 16384) (hm : W.rangeAt M 0 (cellsOf mv)) (hr : W.rangeAt R 0 (cellsOf rv)) (hva : va = .slice none 0 0) (hka : ka = 0) (hN0 : N = 0) (hXe : X = entOf all ka) (hmv : mv = mk (all.take ka)) (hrv : rv = rt ((all.take ka).map lf)) (hy : SumsAt W y P) (ho : SumsAt W o Z)
    (hK : ∀ a' W', FrAt a' [(1, v1), (5, .pointer (some ⟨c, 0, none⟩)), (6, .pointer (some ⟨q, 0, none⟩)), (7, va), (11, .int .u64 (N : Int)), (12, .int .i64 (j : Int))] → PlayN w W' c q (nb + 3) va all → K a' W') :
    Code.wp Tryz.prog (dropN 9 body2C) (Exit.then K Q) a W := by
  have HI := Lib.hid (And.intro hI (And.intro hnb (And.intro hX (And.intro hP (And.intro hZ (And.intro hN (And.intro hN2 (And.intro hall (And.intro hm (And.intro hr (And.intro hy ho)))))))))))
  have HK := Lib.hid hK
  have HQP := Lib.hid hQP
  have r1 : ¬ ((ka : Int) < (N : Int)) := by omega
  have r2 : decide ((ka : Int) < (N : Int)) = false := decide_eq_false r1
  have r3 : decide (ka < N) = false := decide_eq_false (by omega)
  have r4 : ((ka : Int) ≤ (N : Int)) := by omega
  have r5 : decide ((ka : Int) ≤ (N : Int)) = true := decide_eq_true r4
  have r6 : decide (ka ≤ N) = true := decide_eq_true (by omega)
  have HZ9 := Lib.hid hka
  clear hka
  have HVA := Lib.hid (And.intro hva hN0)
  clear hva hN0
  clear hI hnb hX hP hZ hK hm hr hQP hN hN2 hall hy ho
  obtain ⟨g, rfl, s1, s5, s6, s7, s11, s12, s13, s15, s16, s17, s18, s19, s20, s21, s22, s23, s24, s25, s26, s27, s28, -⟩ := hA.form
  change g 1 = v1 at s1
  change g 5 = .pointer (some ⟨c, 0, none⟩) at s5
  change g 6 = .pointer (some ⟨q, 0, none⟩) at s6
  change g 7 = va at s7
  change g 11 = .int .u64 (N : Int) at s11
  change g 12 = .int .i64 (j : Int) at s12
  change g 13 = .int .u64 (ka : Int) at s13
  change g 15 = x at s15
  change g 16 = .int .i64 1 at s16
  change g 17 = .pointer (some ⟨M, 0, none⟩) at s17
  change g 18 = .int .i64 0 at s18
  change g 19 = .pointer (some ⟨R, 0, none⟩) at s19
  change g 20 = .int .i64 0 at s20
  change g 21 = p at s21
  change g 22 = .int .i64 E1 at s22
  change g 23 = z at s23
  change g 24 = .int .i64 E2 at s24
  change g 25 = y at s25
  change g 26 = .int .i64 E1 at s26
  change g 27 = o at s27
  change g 28 = .int .i64 E2 at s28
  unfold frG
  rw [s1, s5, s6, s7, s11, s12, s13, s15, s16, s17, s18, s19, s20, s21, s22, s23, s24, s25, s26, s27, s28]
  clear s1 s5 s6 s7 s11 s12 s13 s15 s16 s17 s18 s19 s20 s21 s22 s23 s24 s25 s26 s27 s28 hA
  conv => arg 2; whnf
  refine wp_seq_k (fun K' hK' => ?_)
  have HK' := Lib.hid hK'
  clear hK'
  have q1 : (E1 != E1) = false := by simp
  have q2 : (E2 != E2) = false := by simp
  go_wp2_with (go_at_call 11; refine Hid.out ?_)
  refine Lib.hid ?_
  refine (same_sums P P _ _ W (lie_sums HI.out.1.ep) HI.out.2.2.2.2.2.2.2.2.2.2.1).mono ?_
  rintro e W1 ⟨rfl, hb1⟩
  rw [show decide (P = P) = true by simp]
  have HB1 := Lib.hid hb1
  clear hb1
  go_wp2_with (go_at_call 11; refine Hid.out ?_)
  refine Lib.hid ?_
  refine (same_sums Z Z _ _ W1 (lie_sums (HI.out.1.mem HB1.out).ez) ((Keeps.of_below (X := fun _ => False) HB1.out).sums HI.out.2.2.2.2.2.2.2.2.2.2.2 (fun _ _ h => h))).mono ?_
  rintro e W2 ⟨rfl, hb2⟩
  rw [show decide (Z = Z) = true by simp]
  have HB2 := Lib.hid (HB1.out.trans (hb2.mono HB1.out.size))
  clear hb2 HB1
  go_wp2_with fail
  exact HK'.out _ _ (play_condB0 HQP.out _ ⟨rfl, rfl, rfl, rfl, rfl, rfl, rfl, rfl, rfl, rfl, rfl, rfl, rfl, rfl, rfl, rfl, trivial⟩ (HI.out.1.mem HB2.out) HI.out.2.1 HI.out.2.2.1 HI.out.2.2.2.1 HI.out.2.2.2.2.1 HI.out.2.2.2.2.2.1 HI.out.2.2.2.2.2.2.1 HI.out.2.2.2.2.2.2.2.1 ((Keeps.of_below (X := fun _ => False) HB2.out).range HI.out.2.2.2.2.2.2.2.2.1 (fun h => h)) ((Keeps.of_below (X := fun _ => False) HB2.out).range HI.out.2.2.2.2.2.2.2.2.2.1 (fun h => h)) HVA.out.1 HZ9.out HVA.out.2 hXe hmv hrv HK.out)
end Go.Proofs.YtdkcndgehgmadaaGreatDoor
