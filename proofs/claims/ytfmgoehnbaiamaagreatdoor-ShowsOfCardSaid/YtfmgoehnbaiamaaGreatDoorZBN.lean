/-
  Joined: S10, S11, S12.
-/
import Derived.Test.YtfmgoehnbaiamaaGreatDoorS9
import Derived.Laws.CopyOwn
-- Walk: shows.Check.
open Go Go.RowKit Alm
namespace Go.Proofs.YtfmgoehnbaiamaaGreatDoor
theorem infoSumSize : ∃ i, Tryz.prog.info? 24 = some i ∧ i.size = 32 := by
  obtain ⟨i, z, hi, _, h1, _⟩ := info_sum
  exact ⟨i, hi, h1⟩
theorem wpList_copy_sums {w : World} {ops : Array Oper} {rest : List Oper} {o : Oper} {a : Act} {Q : Exit → Act → World → Prop} (hgd : o.guard = none) (d s : Operand)
    (ho : o.op = .call { callee := .builtin .copy, args := #[d, s], argTypes := #[61, 61] }) (g N cS : Nat) (aS : Option Addr) (l : List Sum) (hd : a.eval d = .slice (some ⟨g, 0, none⟩) N N) (hs : a.eval s = .slice aS N cS)
    (hS : SumsAt w (.slice aS N cS) l) (hN : N = l.length) (cur : Array Value) (t : TypeId) (hg : w.heap[g]? = some (.cells cur t (0, 0))) (hcur : cur.size = N * 32)
    (h : ∀ w', w'.rangeAt g 0 (cellsAll l) → Keeps (· = g) w w' → wpList Tryz.prog ops Q rest (a.put o.dst (.int .i64 (N : Int))) w') : wpList Tryz.prog ops Q (o :: rest) a w := by
  obtain ⟨i, hi, hsz⟩ := infoSumSize
  by_cases h0 : N = 0
  · subst h0
    have hl : l = [] := List.length_eq_zero_iff.1 hN.symm
    subst hl
    have hl : ∀ (x : Addr), (loadCells x 0).run Tryz.prog w = .ok #[] w := fun x => by simpa using run_loadCells_list (P := Tryz.prog) w x [] (by simp)
    have hr : (Builtin.copy_ #[61, 61] o.type #[.slice (some ⟨g, 0, none⟩) 0 0, .slice aS 0 cS]).run Tryz.prog w = .ok (goInt 0) w := by
      cases aS <;> simp [Builtin.copy_, run_underlying Tryz.underlying61, Builtin.lenOf, Builtin.firstCells, sizeOf, typeInfo, hi, storeCells, hl]
    refine wpList_plain hgd fun K hK => ?_
    unfold Oper.wp
    simp [execOp, ho, resolve, invoke, builtin, hd, hs, hr, Result.andThen]
    exact hK _ _ (h w (range_nil _ _ _) (Keeps.refl _ _))
  · obtain ⟨a9, c9, he, h1, h2, h3⟩ := hS
    simp only [Value.slice.injEq] at he
    obtain ⟨rfl, -, rfl⟩ := he
    obtain ⟨b, off, rfl, hr⟩ := h3.resolve_left (fun e => h0 (by rw [hN, e]; rfl))
    have hlen : (cellsAll l).length = N * 32 := by rw [length_cellsAll, hN, Nat.mul_comm]
    have hl := run_loadCells_list (P := Tryz.prog) w ⟨b, off, none⟩ (cellsAll l) (fun j v hj => by rw [Addr.add_mid]; exact hr j v hj)
    have hst := run_storeCells_at Tryz.prog g 0 t (cellsAll l) 0 cur w hg (by rw [hlen, hcur]; omega) (oneCell_cellsAll l)
    have hall : (cur.toList.take (0 + 0) ++ cellsAll l ++ cur.toList.drop (0 + 0 + (cellsAll l).length)) = cellsAll l := by
      rw [List.drop_eq_nil_of_le (by rw [hlen, Array.length_toList, hcur]; omega)]; simp
    rw [hall] at hst
    rw [hlen] at hl
    have hrun : (Builtin.copy_ #[61, 61] o.type #[.slice (some ⟨g, 0, none⟩) N N, .slice (some ⟨b, off, none⟩) N cS]).run Tryz.prog w = .ok (goInt N) (w.setRow g (cellsAll l).toArray) := by
      simp [Builtin.copy_, run_underlying Tryz.underlying61, Builtin.lenOf, Builtin.firstCells, sizeOf, typeInfo, hi, hsz, hl, hst]
    refine wpList_plain hgd fun K hK => ?_
    unfold Oper.wp
    simp [execOp, ho, resolve, invoke, builtin, hd, hs, hrun, Result.andThen]
    refine hK _ _ (h _ ?_ ?_)
    · have hh := setRow_heap w g cur (cellsAll l).toArray t (0, 0) hg
      intro j v hj
      rw [cell_of_row _ _ _ _ t (0, 0) hh, Nat.zero_add]
      simpa using hj
    · exact ⟨rfl, rfl, rfl, by simp [World.setRow], fun k _ hk => setRow_other w g k _ hk⟩
end Go.Proofs.YtfmgoehnbaiamaaGreatDoor
-- Walk: shows.Check, whole.
namespace Go.Proofs.YtfmgoehnbaiamaaGreatDoor
/-- What Check has in hand ahead of its loop. -/
structure CV (w W : World) (z4 z5 z7 z9 : Nat) (root k which : Sum) (v0 : Value) (bs : List UInt8) (vL : Value) (L : List Sum) : Prop where
  bw : Below w.heap.size w W
  r4 : W.rangeAt z4 0 (cellsOf root)
  r5 : W.rangeAt z5 0 (cellsOf k)
  r7 : W.rangeAt z7 0 (cellsOf which)
  c9 : VarAt W z9 vL
  sL : SumsAt W vL L
  val : BytesAt W v0 bs
  own : ∀ g, vL.ownBlock = some g → z7 < g ∧ g < z9
  ord : w.heap.size ≤ z4 ∧ z4 < z5 ∧ z5 < z7 ∧ z7 < z9
theorem CV.below {w W W' : World} {z4 z5 z7 z9 : Nat} {root k which : Sum} {v0 : Value} {bs : List UInt8} {vL : Value} {L : List Sum} (h : CV w W z4 z5 z7 z9 root k which v0 bs vL L) (hb : Below W.heap.size W W') : CV w W' z4 z5 z7 z9 root k which v0 bs vL L :=
  have kk := Keeps.of_below (X := fun _ => False) hb
  ⟨h.bw.trans (hb.mono h.bw.size), kk.range h.r4 (fun h => h), kk.range h.r5 (fun h => h), kk.range h.r7 (fun h => h), h.c9.below hb, h.sL.below hb (Nat.le_refl _), bytes_below h.val hb (Nat.le_refl _), h.own, h.ord⟩
set_option maxRecDepth 100000 in
set_option maxHeartbeats 4000000 in
theorem check_mid {u6 u10 u11 u12 u13 u14 u15 u16 u17 u18 u19 u20 u21 u22 u23 u24 u25 u26 u27 u28 u29 u30 u31 u32 u33 u34 u35 u36 u37 u38 u39 u40 u41 u42 u43 u44 u45 u46 u47 u48 u49 u50 u51 u52 u53 u54 u55 u56 u57 u58 u59 u60 u61 u62 u63 u64 u65 u66 u67 u68 u69 u70 u71 : Value} (w W : World) (z4 z5 z7 z9 : Nat) (root k which : Sum) (a0 : Option Addr) (n0 c0 : Nat) (v3 vL : Value) (bs : List UInt8) (S : List Sum) (R : Bool) (hR : R = checkOf root k bs which S)
    (h0 : CV w W z4 z5 z7 z9 root k which (.slice a0 n0 c0) bs vL S) (hS : S.length < 100000) (hbs : bs.length < 140737488355000) : Code.wp Tryz.prog (dropN 3 checkCode) (bodyPost Tryz.prog Tryz.f30 fun e w' => e = .returned (.bool R) ∧ Below w.heap.size w w') ⟨#[sv root, sv k, .slice a0 n0 c0, v3, .pointer (some ⟨z4, 0, none⟩), .pointer (some ⟨z5, 0, none⟩), u6, .pointer (some ⟨z7, 0, none⟩), .bool false, .pointer (some ⟨z9, 0, none⟩), u10, u11, u12, u13, u14, u15, u16, u17, u18, u19, u20, u21, u22, u23, u24, u25, u26, u27, u28, u29, u30, u31, u32, u33, u34, u35, u36, u37, u38, u39, u40, u41, u42, u43, u44, u45, u46, u47, u48, u49, u50, u51, u52, u53, u54, u55, u56, u57, u58, u59, u60, u61, u62, u63, u64, u65, u66, u67, u68, u69, u70, u71], []⟩ W := by
  have H0 := Lib.hid h0
  have HS := Lib.hid (And.intro hS hbs)
  have HR := Lib.hid hR
  have hmf : ∀ (fn : Fn) (first cap : Array Value) (w : World), (Instr.makeFunc fn first cap).run Tryz.prog w = .ok (.func fn first cap) w := fun _ _ _ _ => rfl
  have hb1 := al (Below.refl W.heap.size W) (.cells #[.bool false] 4)
  have hv1 := var_new W (.bool false) 4
  have H1 := Lib.hid (And.intro (h0.below hb1) hv1)
  obtain ⟨z10, hz10⟩ : ∃ z, z = W.heap.size := ⟨_, rfl⟩
  have hlt : z9 < z10 := by rw [hz10]; exact h0.c9.lt
  have HZ := Lib.hid (And.intro hz10 hlt)
  have HZ2 := Lib.hid hz10
  have HV := Lib.hid (vl_any k bs (.slice a0 n0 c0) (W.alloc (.cells #[.bool false] 4)) H1.out.1.val hbs)
  obtain ⟨X0, hX0⟩ : ∃ x, x = vl k bs := ⟨_, rfl⟩
  rw [← hX0] at HV
  have HX := Lib.hid hX0
  have HE := Lib.hid (fun W => empty_any 0 W (by omega))
  clear h0 hS hR hb1 hv1 hlt hz10 hbs hX0 H0
  conv => arg 2; whnf
  refine Alm.wp_cut 3 ?_
  intro T hT
  dsimp only [cutN]
  replace hT := Lib.hid hT
  go_wp2_with (refine wpList_load_sum rfl _ rfl z5 0 rfl k H1.out.1.r5 ?_)
  refine HV.out.mono ?_
  rintro e9 W2 ⟨rfl, hb⟩
  have H2 := Lib.hid (And.intro (H1.out.1.below hb) (H1.out.2.below hb))
  rw [← HZ2.out] at H2 ⊢
  clear hb H1 HV HZ2
  go_wp2_with fail
  refine (HE.out W2).mono ?_
  rintro e9 W3 ⟨rfl, hb⟩
  have H3 := Lib.hid (And.intro (H2.out.1.below hb) (H2.out.2.below hb))
  clear hb H2 HE
  have hb4 := al (Below.refl W3.heap.size W3) (.cells (cells8 (List.replicate 32 0)).toArray 24)
  have hs4 : (W3.alloc (.cells (cells8 (List.replicate 32 0)).toArray 24)).heap.size = W3.heap.size + 1 := Array.size_push _
  have hb5 := al hb4 (.cells (cells8 (List.replicate 32 0)).toArray 24)
  have t12 := World.there_alloc (there_new W3 (cells8 (List.replicate 32 0)).toArray 24) (.cells (cells8 (List.replicate 32 0)).toArray 24)
  have t13 := there_new (W3.alloc (.cells (cells8 (List.replicate 32 0)).toArray 24)) (cells8 (List.replicate 32 0)).toArray 24
  have r12 : ((W3.alloc (.cells (cells8 (List.replicate 32 0)).toArray 24)).alloc (.cells (cells8 (List.replicate 32 0)).toArray 24)).rangeAt W3.heap.size 0 (cellsOf zeroSum) := World.rangeAt_alloc (range_new W3 (cells8 (List.replicate 32 0)).toArray 24 (cellsOf zeroSum) rfl) _
  have r13 : ((W3.alloc (.cells (cells8 (List.replicate 32 0)).toArray 24)).alloc (.cells (cells8 (List.replicate 32 0)).toArray 24)).rangeAt (W3.heap.size + 1) 0 (cellsOf zeroSum) := by
    have := range_new (W3.alloc (.cells (cells8 (List.replicate 32 0)).toArray 24)) (cells8 (List.replicate 32 0)).toArray 24 (cellsOf zeroSum) rfl
    rw [hs4] at this
    exact this
  rw [hs4] at t13
  have h3 := H3.out.1.below hb5
  have h10 := H3.out.2.below hb5
  have hCW : CW w ((W3.alloc (.cells (cells8 (List.replicate 32 0)).toArray 24)).alloc (.cells (cells8 (List.replicate 32 0)).toArray 24)) z4 z5 z7 z9 z10 W3.heap.size (W3.heap.size + 1) root k which false vL S zeroSum zeroSum := by
    have o := h3.ord
    have hl := H3.out.2.lt
    exact ⟨h3.bw, h3.r4, h3.r5, h3.r7, h10, h3.c9, h3.sL, h3.own, r12, t12, r13, t13, by have := HZ.out.2; omega⟩
  have HCW := Lib.hid (And.intro (hCW.sides X0 (em 0)) (And.intro t12 (World.there_setCells t13 W3.heap.size 0 (cellsOf X0))))
  clear hb4 hs4 hb5 t12 t13 r12 r13 h3 h10 hCW
  go_wp2_with (first
    | (refine wpList_store_sum rfl _ _ rfl W3.heap.size 0 X0 rfl rfl HCW.out.2.1 ?_)
    | (refine wpList_store_sum rfl _ _ rfl (W3.heap.size + 1) 0 (em 0) rfl rfl HCW.out.2.2 ?_))
  refine hT.out _ _ ?_
  exact check_loop w _ z4 z5 z7 z9 z10 W3.heap.size (W3.heap.size + 1) root k which _ _ vL S X0 R (by rw [HR.out, HX.out]; rfl) HCW.out.1 HS.out.1
theorem row_of {w : World} {base : Nat} {e : TypeId} {g n size : Nat} {xs : List Value} (h : w.ownsRow base e size (.slice (some ⟨g, 0, none⟩) n n) n xs) : ∃ cur, w.heap[g]? = some (.cells cur e (0, 0)) ∧ cur.size = n * size := by
  rcases h.2 with ⟨h1, _⟩ | ⟨g', cap, cur, h1, _, h2, _, _, h3, _⟩
  · cases h1
  · simp only [Value.slice.injEq, Option.some.injEq, Addr.mk.injEq, and_true, true_and] at h1
    obtain ⟨rfl, rfl⟩ := h1
    exact ⟨cur, h2, h3⟩
set_option maxRecDepth 100000 in
set_option maxHeartbeats 4000000 in
theorem check_start {u6 u9 u10 u11 u12 u13 u14 u15 u16 u17 u18 u19 u20 u21 u22 u23 u24 u25 u26 u27 u28 u29 u30 u31 u32 u33 u34 u35 u36 u37 u38 u39 u40 u41 u42 u43 u44 u45 u46 u47 u48 u49 u50 u51 u52 u53 u54 u55 u56 u57 u58 u59 u60 u61 u62 u63 u64 u65 u66 u67 u68 u69 u70 u71 : Value} (w W : World) (z4 z5 z7 : Nat) (root k which : Sum) (a0 : Option Addr) (n0 c0 : Nat) (v3 vS : Value) (bs : List UInt8) (S : List Sum) (R : Bool) (hR : R = checkOf root k bs which S)
    (hbw : Below w.heap.size w W) (r4 : W.rangeAt z4 0 (cellsOf root)) (r5 : W.rangeAt z5 0 (cellsOf k)) (r7 : W.rangeAt z7 0 (cellsShow which vS)) (hv : BytesAt W (.slice a0 n0 c0) bs) (hs : SumsAt W vS S) (ord : w.heap.size ≤ z4 ∧ z4 < z5 ∧ z5 < z7 ∧ z7 < W.heap.size)
    (hS : S.length < 100000) (hbs : bs.length < 140737488355000) : Code.wp Tryz.prog (dropN 1 checkCode) (bodyPost Tryz.prog Tryz.f30 fun e w' => e = .returned (.bool R) ∧ Below w.heap.size w w') ⟨#[sv root, sv k, .slice a0 n0 c0, v3, .pointer (some ⟨z4, 0, none⟩), .pointer (some ⟨z5, 0, none⟩), u6, .pointer (some ⟨z7, 0, none⟩), .bool false, u9, u10, u11, u12, u13, u14, u15, u16, u17, u18, u19, u20, u21, u22, u23, u24, u25, u26, u27, u28, u29, u30, u31, u32, u33, u34, u35, u36, u37, u38, u39, u40, u41, u42, u43, u44, u45, u46, u47, u48, u49, u50, u51, u52, u53, u54, u55, u56, u57, u58, u59, u60, u61, u62, u63, u64, u65, u66, u67, u68, u69, u70, u71], []⟩ W := by
  obtain ⟨i0, z0', hi0, hz0, hsz0, hby0, hzs0⟩ := info_sum
  have HI := Lib.hid (And.intro hi0 (And.intro hz0 (And.intro hsz0 (And.intro hby0 hzs0))))
  obtain ⟨aS, cS, rfl, _, _, _⟩ := id hs
  obtain ⟨N, hN⟩ : ∃ N, N = S.length := ⟨_, rfl⟩
  rw [← hN] at r7 hs
  have g1 : W.cell? ⟨z7, 32, none⟩ = some (.slice aS N cS) := by
    have := r7 32 (.slice aS N cS) (by rw [cellsShow, List.getElem?_append_right (by rw [length_cellsOf]; omega), length_cellsOf]; rfl)
    rwa [Nat.zero_add] at this
  have H0 := Lib.hid (And.intro hbw (And.intro r4 (And.intro r5 (And.intro r7 (And.intro hv (And.intro hs ord))))))
  have HR := Lib.hid (And.intro hR (And.intro hS (And.intro hbs hN)))
  have hN5 : N < 100000 := by omega
  have HN5 := Lib.hid hN5
  clear hi0 hz0 hsz0 hby0 hzs0 hbw r4 r5 r7 hv hs ord hR hS hbs hN hN5
  conv => arg 2; whnf
  refine Alm.wp_cut 2 ?_
  intro T hT
  dsimp only [cutN]
  replace hT := Lib.hid hT
  have HG := Lib.hid trivial
  go_wp2_with (first
    | (have _ := HG; at_make; refine wpList_make_full W rfl _ _ _ rfl W.heap.size 24 i0 z0' 32 Tryz.underlying61 HI.out.1 HI.out.2.1 HI.out.2.2.1 .i64 .i64 (N : Int) (N : Int) N rfl rfl rfl rfl (by rw [HI.out.2.2.2.1]; have := HN5.out; omega) (by unfold maxLen; have := HN5.out; omega) (Nat.le_refl _) ?_; intro W2 ho hg; have H2 := Lib.hid (And.intro (Keeps.below (B := W.heap.size) (Keeps.of_grown (X := fun _ => False) hg (fun k hk => by cases hk)) (Nat.le_refl _) (fun _ h => h.elim)) ho); have hb3 := al (Below.refl W2.heap.size W2) (.cells #[.slice (some ⟨W.heap.size, 0, none⟩) N N] 61); have hb23 := H2.out.1.trans (hb3.mono H2.out.1.size); have g3 := (Keeps.of_below (X := fun _ => False) hb23).cell g1 (fun h => h); have hv3 := var_new W2 (.slice (some ⟨W.heap.size, 0, none⟩) N N) 61; have g4 := hv3.cell; obtain ⟨cur, hc1, hc2⟩ := row_of H2.out.2; have H3 := Lib.hid (And.intro hb23 (And.intro hv3 (And.intro ((Keeps.of_below (X := fun _ => False) hb3).heap hc1 (fun h => h)) (And.intro hc2 (And.intro (H0.out.2.2.2.2.2.1.below hb23 (Nat.le_refl _)) (own_lt H2.out.2 rfl)))))); clear HG ho hg hb3 hb23 hv3 hc1 hc2)
    | (have _ := H3; refine wpList_copy_sums rfl _ _ rfl W.heap.size N cS aS S rfl rfl H3.out.2.2.2.2.1 HR.out.2.2.2 cur 24 H3.out.2.2.1 H3.out.2.2.2.1 ?_; intro W4 hr4 hk4; have H4 := Lib.hid (And.intro hr4 hk4); clear hr4 hk4))
  have hball : Below W.heap.size W W4 := H3.out.1.trans (H4.out.2.below H3.out.1.size (fun k hk => by rw [hk]; exact Nat.le_refl _))
  have kk := Keeps.of_below (X := fun _ => False) hball
  have o := H0.out.2.2.2.2.2.2
  have hlt := H3.out.2.2.2.2.2
  refine hT.out _ _ ?_
  exact check_mid w W4 z4 z5 z7 W2.heap.size root k which a0 n0 c0 v3 (.slice (some ⟨W.heap.size, 0, none⟩) N N) bs S R HR.out.1
    ⟨H0.out.1.trans (hball.mono H0.out.1.size), kk.range H0.out.2.1 (fun h => h), kk.range H0.out.2.2.1 (fun h => h), kk.range (range_left_ H0.out.2.2.2.1) (fun h => h), H3.out.2.1.keep H4.out.2 (by omega),
      ⟨_, N, by rw [HR.out.2.2.2], by rw [HR.out.2.2.2]; exact Nat.le_refl _, by unfold maxLen; have := HN5.out; omega, .inr ⟨_, 0, rfl, H4.out.1⟩⟩, bytes_below H0.out.2.2.2.2.1 hball (Nat.le_refl _), fun g hg => by
        simp only [Value.ownBlock, Option.some.injEq] at hg
        omega, by omega⟩ HR.out.2.1 HR.out.2.2.1
set_option maxRecDepth 100000 in
theorem scheck_any (root k which : Sum) (v vS : Value) (bs : List UInt8) (S : List Sum) (w : World) (hv : BytesAt w v bs) (hs : SumsAt w vS S) (hS : S.length < 100000) (hbs : bs.length < 140737488355000) :
    Calls Tryz.prog 30 #[sv root, sv k, v, shV which vS] w fun e w' => e = .returned (.bool (checkOf root k bs which S)) ∧ Below w.heap.size w w' := by
  obtain ⟨a0, c0, rfl, _, _, _⟩ := id hv
  obtain ⟨n0, hn0⟩ : ∃ n, n = bs.length := ⟨_, rfl⟩
  rw [← hn0] at hv ⊢
  obtain ⟨R, hR⟩ : ∃ R, R = checkOf root k bs which S := ⟨_, rfl⟩
  rw [← hR]
  have hs1 : (w.alloc (.cells (cellsOf root).toArray 24)).heap.size = w.heap.size + 1 := Array.size_push _
  have hs2 : ((w.alloc (.cells (cellsOf root).toArray 24)).alloc (.cells (cellsOf k).toArray 24)).heap.size = w.heap.size + 1 + 1 := by rw [World.size_alloc, hs1]
  have hs3 : (((w.alloc (.cells (cellsOf root).toArray 24)).alloc (.cells (cellsOf k).toArray 24)).alloc (.cells (cellsShow which vS).toArray 63)).heap.size = w.heap.size + 1 + 1 + 1 := by rw [World.size_alloc, hs2]
  have hB := al (al (al (Below.refl w.heap.size w) (.cells (cellsOf root).toArray 24)) (.cells (cellsOf k).toArray 24)) (.cells (cellsShow which vS).toArray 63)
  have r1 := World.rangeAt_alloc (World.rangeAt_alloc (range_new w (cellsOf root).toArray 24 _ rfl) (.cells (cellsOf k).toArray 24)) (.cells (cellsShow which vS).toArray 63)
  have r2 := range_new (w.alloc (.cells (cellsOf root).toArray 24)) (cellsOf k).toArray 24 _ rfl
  rw [hs1] at r2
  have r2' := World.rangeAt_alloc r2 (.cells (cellsShow which vS).toArray 63)
  have r3 := range_new ((w.alloc (.cells (cellsOf root).toArray 24)).alloc (.cells (cellsOf k).toArray 24)) (cellsShow which vS).toArray 63 _ rfl
  rw [hs2] at r3
  have HX := Lib.hid (And.intro hR (And.intro hB (And.intro r1 (And.intro r2' (And.intro r3 (And.intro (bytes_below hv hB (Nat.le_refl _)) (And.intro (hs.below hB (Nat.le_refl _)) (And.intro hs3 (And.intro hS hbs)))))))))
  clear hR hB r1 r2 r2' r3 hv hs hs1 hs2 hs3 hS hbs hn0
  unfold shV
  go_enter Tryz.func30, Tryz.ntmps30
  refine Alm.wp_cut 1 ?_
  intro T hT
  dsimp only [cutN]
  replace hT := Lib.hid hT
  go_wp2_with fail
  refine hT.out _ _ ?_
  exact check_start w _ w.heap.size (w.heap.size + 1) (w.heap.size + 1 + 1) root k which a0 n0 c0 _ vS bs S R HX.out.1 HX.out.2.1 HX.out.2.2.1 HX.out.2.2.2.1 HX.out.2.2.2.2.1 HX.out.2.2.2.2.2.1 HX.out.2.2.2.2.2.2.1 (by have := HX.out.2.2.2.2.2.2.2.1; omega) HX.out.2.2.2.2.2.2.2.2.1 HX.out.2.2.2.2.2.2.2.2.2
end Go.Proofs.YtfmgoehnbaiamaaGreatDoor
-- Walks: almonerref15.less, Put (that it comes to an end, with one pair more at most).
namespace Go.Proofs.YtfmgoehnbaiamaaGreatDoor
theorem less_bytes : ∀ x y : List UInt8, Op.bytesLess x y = Go.bytesBefore x y
  | [], [] => rfl
  | _ :: _, [] => rfl
  | [], _ :: _ => rfl
  | a :: x, b :: y => by rw [Op.bytesLess, Go.bytesBefore, less_bytes x y]
def strOf (k : Sum) : ByteArray := ⟨k.toList.toArray⟩
theorem size_strOf (k : Sum) : (strOf k).size = 32 := by show k.toList.toArray.size = 32; simp
theorem conv_key {w : World} {b o : Nat} {k : Sum} (h : w.rangeAt b o (cellsOf k)) : (convert 39 9 (.slice (some ⟨b, o, none⟩) 32 32)).run Tryz.prog w = .ok (.string (strOf k)) w := by
  have h2 := Lib.run_convert_whole (P := Tryz.prog) w 39 5 9 Tryz.underlying39 Tryz.underlying5 Tryz.underlying9 b o (strOf k) (fun i hi => by
    have hi' : i < 32 := by rw [size_strOf] at hi; exact hi
    have := h i _ (cell_key k hi')
    rw [this]
    congr 2
    show k.toList.getD i 0 = (k.toList.toArray)[i]'_
    simp [List.getD_eq_getElem?_getD, hi']
    rfl) 32
  rw [size_strOf] at h2
  exact h2
theorem lss_keys (a b : Sum) (w : World) : (binOp .lss 9 (.string (strOf a)) (.string (strOf b))).run Tryz.prog w = .ok (.bool (decide (Keys.kn a < Keys.kn b))) w := by
  have e : ∀ k : Sum, (strOf k).toList = k.toList := fun k => by rw [Lib.toList_data]; show k.toList.toArray.toList = _; simp
  have hb : Op.bytesLess (strOf a).toList (strOf b).toList = decide (Keys.kn a < Keys.kn b) := by
    rw [e, e, less_bytes, Keys.before_kn]
  simp [binOp, Op.stringOp, hb]
theorem less_strs (a b : Sum) : Op.bytesLess (strOf a).toList (strOf b).toList = decide (Keys.kn a < Keys.kn b) := by
  have e : ∀ k : Sum, (strOf k).toList = k.toList := fun k => by rw [Lib.toList_data]; show k.toList.toArray.toList = _; simp
  rw [e, e, less_bytes, Keys.before_kn]
set_option maxRecDepth 100000 in
theorem less_any (a b : Sum) (w : World) : Calls Tryz.prog 50 #[sv a, sv b] w fun e w' => e = .returned (.bool (decide (Keys.kn a < Keys.kn b))) ∧ Below w.heap.size w w' := by
  have hs1 : (w.alloc (.cells (cellsOf a).toArray 24)).heap.size = w.heap.size + 1 := Array.size_push _
  have hb0 := al (al (Below.refl _ w) (.cells (cellsOf a).toArray 24)) (.cells (cellsOf b).toArray 24)
  have r1 := World.rangeAt_alloc (range_new w (cellsOf a).toArray 24 _ rfl) (.cells (cellsOf b).toArray 24)
  have r2 := range_new (w.alloc (.cells (cellsOf a).toArray 24)) (cellsOf b).toArray 24 _ rfl
  rw [hs1] at r2
  have H0 := Lib.hid (And.intro hb0 (And.intro r1 r2))
  have hlt := lss_keys a b
  obtain ⟨s1, hs1'⟩ : ∃ s, s = strOf a := ⟨_, rfl⟩
  obtain ⟨s2, hs2'⟩ : ∃ s, s = strOf b := ⟨_, rfl⟩
  obtain ⟨r, hr⟩ : ∃ r, r = decide (Keys.kn a < Keys.kn b) := ⟨_, rfl⟩
  rw [← hs1', ← hs2', ← hr] at hlt
  rw [← hr]
  have HR := Lib.hid (show Op.bytesLess s1.toList s2.toList = r by rw [hs1', hs2', hr]; exact less_strs a b)
  have HS := Lib.hid (And.intro hs1' hs2')
  clear hs1 hb0 r1 r2 hs1' hs2' hr
  go_enter Tryz.func50, Tryz.ntmps50
  go_wp2_with fail
  have HD := Lib.hid (show ((w.alloc (.cells (cellsOf a).toArray 24)).alloc (.cells (cellsOf b).toArray 24)).drew.rangeAt w.heap.size 0 (cellsOf a) ∧ ((w.alloc (.cells (cellsOf a).toArray 24)).alloc (.cells (cellsOf b).toArray 24)).drew.rangeAt (w.heap.size + 1) 0 (cellsOf b) from ⟨H0.out.2.1, H0.out.2.2⟩)
  refine wp_region_sched (fun V => V.rangeAt w.heap.size 0 (cellsOf a) ∧ V.rangeAt (w.heap.size + 1) 0 (cellsOf b)) [.t 0, .s 1, .t 2, .s 3, .t 4, .t 5] (by kernel_rfl) (by kernel_rfl) (by intro c a d v w h; cases d <;> exact h) ?_
  have HBD := Lib.hid H0.out.1.drew
  clear H0
  generalize World.drew _ = V at *
  iterate 1
    refine wpS_t rfl (v := ?_) (by rfl) (fun W => ?_) ?_
    rotate_left
    · go_simp
      try rfl
    try simp only [Act.put, List.setIfInBounds_toArray, List.set_cons_zero, List.set_cons_succ]
  refine wpS_s (by exact HD.out) rfl (v := .string s1) (by rfl) (fun W hW => ?_) ?_
  · have hk := conv_key hW.1
    rw [← HS.out.1] at hk
    go_simp
  try simp only [Act.put, List.setIfInBounds_toArray, List.set_cons_zero, List.set_cons_succ]
  iterate 1
    refine wpS_t rfl (v := ?_) (by rfl) (fun W => ?_) ?_
    rotate_left
    · go_simp
      try rfl
    try simp only [Act.put, List.setIfInBounds_toArray, List.set_cons_zero, List.set_cons_succ]
  refine wpS_s (by exact HD.out) rfl (v := .string s2) (by rfl) (fun W hW => ?_) ?_
  · have hk := conv_key hW.2
    rw [← HS.out.2] at hk
    go_simp
  try simp only [Act.put, List.setIfInBounds_toArray, List.set_cons_zero, List.set_cons_succ]
  iterate 2
    refine wpS_t rfl (v := ?_) (by rfl) (fun W => ?_) ?_
    rotate_left
    · go_simp
      try rfl
    try simp only [Act.put, List.setIfInBounds_toArray, List.set_cons_zero, List.set_cons_succ]
  refine wpS_done ?_
  go_wp2_with fail
  refine bodyPost_ret (results_tmp rfl _ _ _) rfl ⟨?_, HBD.out⟩
  exact congrArg (fun x => Ending.returned (.bool x)) HR.out
/-- Pairs in memory, whatever their bytes. -/
def RawAt (w : World) (v : Value) (n : Nat) : Prop := ∃ (a : Option Addr) (cap : Nat) (cs : List PE), v = .slice a n cap ∧ n ≤ cap ∧ cap ≤ maxLen ∧ cs.length = n ∧ (n = 0 ∨ ∃ b o, a = some ⟨b, o, none⟩ ∧ w.rangeAt b o (cellsP cs))
theorem RawAt.below {w w' : World} {v : Value} {n : Nat} (h : RawAt w v n) (hb : Below w.heap.size w w') : RawAt w' v n := by
  obtain ⟨a, cap, cs, rfl, h1, h2, h3, h4⟩ := h
  refine ⟨a, cap, cs, rfl, h1, h2, h3, ?_⟩
  rcases h4 with h4 | ⟨b, o, rfl, hr⟩
  · exact .inl h4
  · exact .inr ⟨b, o, rfl, (Keeps.of_below (X := fun _ => False) hb).range hr (fun h => h)⟩
end Go.Proofs.YtfmgoehnbaiamaaGreatDoor
