/-
  Joined: SO2, SO8.
-/
import Derived.Test.YtfmgoehnbaiamaaGreatDoorZBH
import Derived.Test.YtfmgoehnbaiamaaGreatDoorZBI
import Derived.Test.YtfmgoehnbaiamaaGreatDoorZAV
import Derived.Test.YtfmgoehnbaiamaaGreatDoorZBK
-- Walk: almonerref15.Put: what it makes of pairs that rise.
open Go Go.RowKit Alm
namespace Go.Proofs.YtfmgoehnbaiamaaGreatDoor
theorem bytes_keepB {X : Nat → Prop} {w w' : World} {v : Value} {b : List UInt8} (h : BytesAt w v b) (hk : Keeps X w w') (hx : b ≠ [] → ∀ k, v.ownBlock = some k → ¬ X k) : BytesAt w' v b := by
  obtain ⟨a, cap, rfl, h1, h2, h3⟩ := h
  refine ⟨a, cap, rfl, h1, h2, ?_⟩
  rcases h3 with h0 | ⟨g, o, rfl, hr⟩
  · exact .inl h0
  · by_cases hb : b = []
    · exact .inl hb
    · exact .inr ⟨g, o, rfl, hk.range hr (hx hb g rfl)⟩
theorem bytes_ltB {w : World} {v : Value} {b : List UInt8} (h : BytesAt w v b) (h0 : b ≠ []) {k : Nat} (hk : v.ownBlock = some k) : k < w.heap.size := by
  obtain ⟨a, cap, rfl, h1, h2, h3⟩ := h
  rcases h3 with h4 | ⟨g, o, rfl, hr⟩
  · exact (h0 h4).elim
  · simp only [Value.ownBlock, Option.some.injEq] at hk
    subst hk
    exact range_lt hr (by intro h5; have := congrArg List.length h5; rw [length_cells8] at this; exact h0 (List.length_eq_zero_iff.1 this))
/-- A row of pairs of one's own, with the bytes of each, which lie elsewhere. -/
structure RowP (W0 W : World) (v : Value) (pc : List (PE × List UInt8)) : Prop where
  below : Below W0.heap.size W0 W
  row : W.ownsRow W0.heap.size 41 33 v pc.length (cellsP (pc.map Prod.fst))
  vals : ∀ c ∈ pc, BytesAt W (peV c.1) c.2
  apart : ∀ c ∈ pc, c.2 ≠ [] → ∀ k, (peV c.1).ownBlock = some k → v.ownBlock ≠ some k
theorem RowP.nil (W : World) : RowP W W (.slice none 0 0) [] := ⟨Below.refl _ _, World.ownsRow_nil _ _ _ _, fun c hc => (by cases hc), fun c hc => (by cases hc)⟩
theorem RowP.mem {W0 W W' : World} {v : Value} {pc : List (PE × List UInt8)} (h : RowP W0 W v pc) (hb : Below W.heap.size W W') : RowP W0 W' v pc :=
  ⟨h.below.trans (hb.mono h.below.size), (Keeps.of_below (X := fun _ => False) hb).owns h.row (fun _ _ h => h), fun c hc => bytes_below (h.vals c hc) hb (Nat.le_refl _), h.apart⟩
theorem RowP.form {W0 W : World} {v : Value} {pc : List (PE × List UInt8)} (h : RowP W0 W v pc) : ∃ a c, v = .slice a pc.length c := by
  rcases h.row.2 with ⟨rfl, e0⟩ | ⟨g, cap, cur, rfl, _⟩
  · exact ⟨none, 0, by rw [e0]⟩
  · exact ⟨_, _, rfl⟩
theorem RowP.push {W0 W W' : World} {v : Value} {pc : List (PE × List UInt8)} (h : RowP W0 W v pc) {y : PE} {b : List UInt8} (hy : BytesAt W (peV y) b) (ha : b ≠ [] → ∀ k, (peV y).ownBlock = some k → v.ownBlock ≠ some k) {g m cap : Nat} (hm : m = pc.length + 1)
    (ho : W'.ownsRow W0.heap.size 41 33 (.slice (some ⟨g, 0, none⟩) m cap) m (cellsP (pc.map Prod.fst ++ [y]))) (hg : W.grownBy W' v.ownBlock) (hat : v.ownBlock = some g ∨ g = W.heap.size) : RowP W0 W' (.slice (some ⟨g, 0, none⟩) m cap) (pc ++ [(y, b)]) := by
  have hk : Keeps (fun k => v.ownBlock = some k) W W' := Keeps.of_grown hg (fun k hk => hk)
  have hnew : ∀ c ∈ pc ++ [(y, b)], BytesAt W (peV c.1) c.2 ∧ (c.2 ≠ [] → ∀ k, (peV c.1).ownBlock = some k → v.ownBlock ≠ some k) := fun c hc => by
    rcases List.mem_append.1 hc with hc | hc
    · exact ⟨h.vals c hc, h.apart c hc⟩
    · rw [List.mem_singleton.1 hc]; exact ⟨hy, ha⟩
  refine ⟨h.below.trans (hk.below h.below.size (fun k hk => own_base h.row k hk)), ?_, fun c hc => bytes_keepB (hnew c hc).1 hk (hnew c hc).2, fun c hc h0 k ek e => ?_⟩
  · rw [List.length_append, List.length_singleton, ← hm, List.map_append]; exact ho
  · obtain rfl : g = k := by simpa [Value.ownBlock] using e
    rcases hat with e2 | e2
    · exact (hnew c hc).2 h0 _ ek e2
    · have := bytes_ltB (hnew c hc).1 h0 ek; omega
theorem RowP.pairs {W0 W : World} {v : Value} {pc : List (PE × List UInt8)} (h : RowP W0 W v pc) {P : List Keys.Pr} (hP : pc.map (fun c => (c.1.1, c.2)) = P) : PairsAt W v P := pairs_own (W0 := W) h.row h.vals (Below.refl _ _) hP
/-- append(nil, v...) of bytes: they are one's own. -/
theorem wp_append_nil_bytesB {w : World} {o : Oper} {a : Act} {K : Act → World → Prop} {Q : Exit → Act → World → Prop} (s x : Operand)
    (ho : o.op = .call { callee := .builtin .append, args := #[s, x], argTypes := #[39, 39] }) (hs : a.eval s = .slice none 0 0) (v : Value) (bs : List UInt8) (hx : a.eval x = v) (hv : BytesAt w v bs) (hl : bs.length < 4000000000)
    (h : ∀ (a' : Option Addr) (c' : Nat) (w' : World), Below w.heap.size w w' → BytesAt w' (.slice a' bs.length c') bs → (∀ k, (Value.slice a' bs.length c').ownBlock = some k → w.heap.size ≤ k) → K (a.put o.dst (.slice a' bs.length c')) w') : o.wp Tryz.prog a w K Q := by
  obtain ⟨i0, hi0, hz0⟩ := Option.map_eq_some_iff.1 infoByteZ
  simp only [Prod.mk.injEq] at hz0
  obtain ⟨ad, cap, rfl, h1, h2, h3⟩ := hv
  by_cases hb : bs = []
  · subst hb
    have hrun : (Builtin.append_ #[39, 39] o.type #[.slice none 0 0, .slice ad 0 cap]).run Tryz.prog w = .ok (.slice none 0 0) w := by
      cases ad <;> simp [Builtin.append_, run_underlying Tryz.underlying39, sizeOf, typeInfo, hi0, Builtin.lenOf, Builtin.firstCells, loadCells, loadCellsFrom]
    unfold Oper.wp
    simp [execOp, ho, resolve, invoke, builtin, hs, hx, hrun, Result.andThen]
    exact h none 0 w (Below.refl _ _) ⟨none, 0, rfl, Nat.le_refl _, by decide, .inl rfl⟩ (fun k hk => by cases hk)
  · obtain ⟨b, off, rfl, hr⟩ := h3.resolve_left hb
    refine wp_append_own w s x _ ho w.heap.size 5 i0 (.int .u8 0) 1 1 Tryz.underlying39 hi0 hz0.1 hz0.2.1 hz0.2.2 rfl (by decide) (.slice none 0 0) 0 [] hs (World.ownsRow_nil _ _ _ _) ⟨b, off, none⟩ bs.length cap (cells8 bs) hx (by rw [length_cells8]; omega) (fun j u hj => by rw [Addr.add_mid]; exact hr j u hj) (oneCell_cells8 _) (by unfold maxLen; omega) (by omega) (Nat.le_refl _) ?_
    intro v' w' ho' hg' _
    rw [Nat.zero_add] at ho'
    have hform : ∃ a' c', v' = .slice a' bs.length c' := by
      rcases ho'.2 with ⟨rfl, e0⟩ | ⟨g, cap', cur, rfl, _⟩
      · exact ⟨none, 0, by rw [e0]⟩
      · exact ⟨_, _, rfl⟩
    obtain ⟨a', c', rfl⟩ := hform
    exact h a' c' w' (Keeps.below (B := w.heap.size) (Keeps.of_grown (X := fun _ => False) hg' (fun k hk => by cases hk)) (Nat.le_refl _) (fun _ h => h.elim)) (bytes_own (by simpa using ho') (List.length_pos_iff.2 hb)) (fun k hk => own_base ho' k hk)
end Go.Proofs.YtfmgoehnbaiamaaGreatDoor
-- Walk: almonerref15.At: what pairs come to.
namespace Go.Proofs.YtfmgoehnbaiamaaGreatDoor
/-- Two rows of pairs of one's own, side by side; their bytes lie where they were. -/
structure Row2 (W0 W : World) (v1 v2 : Value) (p1 p2 : List (PE × List UInt8)) : Prop where
  below : Below W0.heap.size W0 W
  r1 : W.ownsRow W0.heap.size 41 33 v1 p1.length (cellsP (p1.map Prod.fst))
  r2 : W.ownsRow W0.heap.size 41 33 v2 p2.length (cellsP (p2.map Prod.fst))
  e1 : ∀ c ∈ p1, BytesAt W0 (peV c.1) c.2
  e2 : ∀ c ∈ p2, BytesAt W0 (peV c.1) c.2
  dis : ∀ k, v1.ownBlock = some k → v2.ownBlock ≠ some k
theorem Row2.nil (W : World) : Row2 W W (.slice none 0 0) (.slice none 0 0) [] [] := ⟨Below.refl _ _, World.ownsRow_nil _ _ _ _, World.ownsRow_nil _ _ _ _, fun c hc => (by cases hc), fun c hc => (by cases hc), fun k hk => (by cases hk)⟩
theorem Row2.swap {W0 W : World} {v1 v2 : Value} {p1 p2 : List (PE × List UInt8)} (h : Row2 W0 W v1 v2 p1 p2) : Row2 W0 W v2 v1 p2 p1 := ⟨h.below, h.r2, h.r1, h.e2, h.e1, fun k hk h2 => h.dis k h2 hk⟩
theorem Row2.mem {W0 W W' : World} {v1 v2 : Value} {p1 p2 : List (PE × List UInt8)} (h : Row2 W0 W v1 v2 p1 p2) (hb : Below W.heap.size W W') : Row2 W0 W' v1 v2 p1 p2 :=
  ⟨h.below.trans (hb.mono h.below.size), (Keeps.of_below (X := fun _ => False) hb).owns h.r1 (fun _ _ h => h), (Keeps.of_below (X := fun _ => False) hb).owns h.r2 (fun _ _ h => h), h.e1, h.e2, h.dis⟩
theorem Row2.push {W0 W W' : World} {v1 v2 : Value} {p1 p2 : List (PE × List UInt8)} (h : Row2 W0 W v1 v2 p1 p2) {y : PE} {b : List UInt8} (hy : BytesAt W0 (peV y) b) {g m cap : Nat} (hm : m = p1.length + 1)
    (ho : W'.ownsRow W0.heap.size 41 33 (.slice (some ⟨g, 0, none⟩) m cap) m (cellsP (p1.map Prod.fst ++ [y]))) (hg : W.grownBy W' v1.ownBlock) (hat : v1.ownBlock = some g ∨ g = W.heap.size) : Row2 W0 W' (.slice (some ⟨g, 0, none⟩) m cap) v2 (p1 ++ [(y, b)]) p2 := by
  have hk : Keeps (fun k => v1.ownBlock = some k) W W' := Keeps.of_grown hg (fun k hk => hk)
  refine ⟨h.below.trans (hk.below h.below.size (fun k hk => own_base h.r1 k hk)), ?_, hk.owns h.r2 (fun k h2 h1 => h.dis k h1 h2), fun c hc => ?_, h.e2, fun k ek e2 => ?_⟩
  · rw [List.length_append, List.length_singleton, ← hm, List.map_append]; exact ho
  · rcases List.mem_append.1 hc with hc | hc
    · exact h.e1 c hc
    · rw [List.mem_singleton.1 hc]; exact hy
  · obtain rfl : g = k := by simpa [Value.ownBlock] using ek
    rcases hat with e3 | e3
    · exact h.dis _ e3 e2
    · have := own_lt h.r2 e2; omega
theorem Row2.pairs {W0 W : World} {v1 v2 : Value} {p1 p2 : List (PE × List UInt8)} (h : Row2 W0 W v1 v2 p1 p2) {P : List Keys.Pr} (hP : p1.map (fun c => (c.1.1, c.2)) = P) : PairsAt W v1 P := pairs_own h.r1 h.e1 h.below hP
theorem take_filter {P : List Keys.Pr} {j : Nat} {x : Keys.Pr} (h : P[j]? = some x) (f : Keys.Pr → Bool) : (P.take (j + 1)).filter f = (P.take j).filter f ++ (if f x then [x] else []) := by
  have hj := (List.getElem?_eq_some_iff.1 h).1
  have e := (List.getElem?_eq_some_iff.1 h).2
  rw [List.take_succ_eq_append_getElem hj, List.filter_append, e]
  congr 1
  simp [List.filter_cons]
theorem mapP_len {j : Nat} {p : List (PE × List UInt8)} {P : List Keys.Pr} {f : Keys.Pr → Bool} (h : p.map (fun c => (c.1.1, c.2)) = (P.take j).filter f) : p.length ≤ j := by
  have h1 := congrArg List.length h
  rw [List.length_map] at h1
  have h2 := List.length_filter_le f (P.take j)
  rw [List.length_take] at h2
  omega
set_option maxRecDepth 100000 in
set_option maxHeartbeats 2000000 in
theorem rat_nil (n : Nat) (a : Option Addr) (cap : Nat) (vn : Value) (w : World) (hn : n ≤ 256) (hN : SumsAt w vn nones) :
    Calls Tryz.prog 65 #[.slice a 0 cap, .int .i64 ((256 - n : Nat) : Int), vn] w fun e w' => e = .returned (sv (atH n [])) ∧ Below w.heap.size w w' := by
  obtain ⟨bn, on, cn, rfl, hcn, hr⟩ := nones_at hN
  have hb0 := al (Below.refl _ w) (.cells (cells8 (List.replicate 32 0)).toArray 24)
  have ht0 := there_new w (cells8 (List.replicate 32 0)).toArray 24
  have HB0 := Lib.hid (And.intro hb0 (And.intro ht0 (hr _ hb0 n hn)))
  obtain ⟨A, hA⟩ : ∃ A, A = em n := ⟨_, rfl⟩
  rw [atH_nil, ← hA]
  rw [← hA] at HB0
  obtain ⟨D, hD⟩ : ∃ D, D = 256 - n := ⟨_, rfl⟩
  rw [← hD] at HB0 ⊢
  have hD0 : (0 : Int) ≤ (D : Int) := by omega
  have hD1 : (D : Int) < 257 := by omega
  clear hb0 ht0 hr hA hD hN
  go_enter Tryz.func65, Tryz.ntmps65
  go_wp2_with (first
    | (refine wpList_load_sum rfl _ rfl bn (on + D * 32) rfl A HB0.out.2.2 ?_)
    | (refine wpList_store_sum rfl _ _ rfl w.heap.size 0 A rfl rfl HB0.out.2.1 ?_))
  try rw [Exit.noGoto_ret]
  exact bodyPost_ret (results_sum Tryz.results65 _ _ _ _ rfl (World.there_setCells HB0.out.2.1 _ _ _)) rfl ⟨rfl, setCells_below _ (Nat.le_refl _) _ _ _ _ HB0.out.1⟩
set_option maxRecDepth 100000 in
set_option maxHeartbeats 4000000 in
theorem rat_any : ∀ (n : Nat) (P : List Keys.Pr) (v vn : Value) (w : World), n ≤ 256 → PairsAt w v P → SumsAt w vn nones → (∀ p ∈ P, p.2.length < 900000) → P.length < 100000 →
    Calls Tryz.prog 65 #[v, .int .i64 ((256 - n : Nat) : Int), vn] w fun e w' => e = .returned (sv (atH n P)) ∧ Below w.heap.size w w' := by
  intro n
  induction n with
  | zero =>
    intro P v vn w hn hv hN hF hl
    by_cases hP : P = []
    · subst hP
      obtain ⟨a, cap, rfl, h1, h2⟩ := pairs_form hv
      exact rat_nil 0 a cap vn w hn hN
    · obtain ⟨ba, oa, ca, y, xs, rfl, hr1, hy1, hg1⟩ := pairs_one hv (i := 0) (List.length_pos_iff.2 hP)
      rw [Nat.zero_mul, Nat.add_zero] at hr1
      obtain ⟨bn, on, cn, rfl, hcn, _⟩ := nones_at hN
      have hxs : xs.length < 900000 := hF (y.1, xs) (List.mem_iff_getElem?.2 ⟨0, hg1⟩)
      have hat : atH 0 P = vl y.1 xs := by
        rw [atH_zero]
        cases P with
        | nil => cases hg1
        | cons p r =>
          simp only [List.getElem?_cons_zero, Option.some.injEq] at hg1
          rw [hg1]
      obtain ⟨N, hNN⟩ : ∃ N, N = P.length := ⟨_, rfl⟩
      have h0 : N ≠ 0 := fun e => hP (List.length_eq_zero_iff.1 (by rw [← hNN, e]))
      rw [← hNN] at hv ⊢
      have hb0 := al (Below.refl _ w) (.cells (cells8 (List.replicate 32 0)).toArray 24)
      have ht0 := there_new w (cells8 (List.replicate 32 0)).toArray 24
      have kk := Keeps.of_below (X := fun _ => False) hb0
      obtain ⟨A, hA⟩ : ∃ A, A = vl y.1 xs := ⟨_, rfl⟩
      rw [hat, ← hA]
      have HB0 := Lib.hid (And.intro hb0 (And.intro ht0 (And.intro (kk.range hr1 (fun h => h)) (And.intro (bytes_below hy1 hb0 (Nat.le_refl _)) (And.intro hxs hA)))))
      clear hb0 ht0 kk hr1 hy1 hg1 hxs hA hat hv hNN hN hF hl hn
      have f1 : decide (N = 0) = false := by simpa using h0
      have f2 : decide ((N : Int) = 0) = false := by simp; omega
      have f3 : ((N : Int) == 0) = false := by rw [beq_eq_false_iff_ne]; omega
      have f4 : (0 : Int) < (N : Int) := by omega
      have f5 : 0 < N := by omega
      obtain ⟨q, hq⟩ : ∃ q, q = w.heap.size := ⟨_, rfl⟩
      have HQ := Lib.hid hq
      clear hq
      go_enter Tryz.func65, Tryz.ntmps65
      go_wp2_with fail
      have hcell : (World.drew (w.alloc (.cells (cells8 (List.replicate 32 0)).toArray 24))).cell? ⟨ba, oa + 32, none⟩ = some (peV y) := HB0.out.2.2.1 32 (peV y) (by rw [encP, List.getElem?_append_right (by rw [length_cellsOf]; omega), length_cellsOf]; rfl)
      have HC := Lib.hid (show (World.drew (w.alloc (.cells (cells8 (List.replicate 32 0)).toArray 24))).rangeAt ba oa (cellsOf y.1) ∧ _ from And.intro (encP_key HB0.out.2.2.1) hcell)
      have HD := Lib.hid (show Below w.heap.size w (World.drew (w.alloc (.cells (cells8 (List.replicate 32 0)).toArray 24))) ∧ (World.drew (w.alloc (.cells (cells8 (List.replicate 32 0)).toArray 24))).there w.heap.size 0 32 ∧ BytesAt (World.drew (w.alloc (.cells (cells8 (List.replicate 32 0)).toArray 24))) (peV y) xs from ⟨HB0.out.1.drew, HB0.out.2.1, bytes_below HB0.out.2.2.2.1 (Below.refl _ _).drew (Nat.le_refl _)⟩)
      have HXA := Lib.hid HB0.out.2.2.2.2
      clear hcell HB0
      refine wp_region_sched (fun W => W.rangeAt ba oa (cellsOf y.1) ∧ W.cell? ⟨ba, oa + 32, none⟩ = some (peV y)) [.t 0, .t 1, .t 2, .t 4, .t 5, .t 6, .s 3, .e 7 true, .e 8 false, .e 9 false] (by kernel_rfl) (by kernel_rfl) (by intro c a d v w h; cases d <;> exact h) ?_
      change wpS _ _ _ _ _ _ _ (World.drew (w.alloc (.cells (cells8 (List.replicate 32 0)).toArray 24)))
      rw [← HQ.out] at HD ⊢
      generalize World.drew (w.alloc (.cells (cells8 (List.replicate 32 0)).toArray 24)) = V at *
      iterate 6
        refine wpS_t rfl (v := ?_) (by rfl) (fun W => ?_) ?_
        rotate_left
        · go_simp
          try rfl
        try simp only [Act.put, List.setIfInBounds_toArray, List.set_cons_zero, List.set_cons_succ]
      refine wpS_load_sum (by exact HC.out) rfl (by rfl) _ (by rfl) ba oa (by rfl) y.1 (fun V hV => hV.1) ?_
      try simp only [Act.put, List.setIfInBounds_toArray, List.set_cons_zero, List.set_cons_succ]
      refine wpS_k rfl (by rfl) (fun K hK => ?_)
      have g := HC.out.2
      go_simp
      refine hK _ _ ⟨by exact HC.out, ?_⟩; clear hK K
      try simp only [Act.put, List.setIfInBounds_toArray, List.set_cons_zero, List.set_cons_succ]
      clear g
      refine wpS_e rfl (by rfl) (fun K hK => ?_)
      go_simp
      have HX := Lib.hid (rval_any y.1 xs (peV y) V HD.out.2.2 (by have := HXA.out.1; omega))
      rw [← HXA.out.2] at HX
      refine HX.out.mono ?_
      rintro e V1 ⟨rfl, hb⟩
      have H1 := Lib.hid (And.intro (HD.out.1.trans (hb.mono (by rw [HQ.out]; exact HD.out.1.size))) ((Keeps.of_below (X := fun _ => False) hb).there HD.out.2.1 (by decide) (fun h => h)))
      clear hb HX HD
      refine hK _ _ ?_; clear hK K
      try simp only [Act.put, List.setIfInBounds_toArray, List.set_cons_zero, List.set_cons_succ]
      refine wpS_e rfl (by rfl) (fun K hK => ?_)
      refine wp_store_sum _ _ (by rfl) q 0 A (by rfl) (by rfl) H1.out.2 ?_
      refine hK _ _ ?_; clear hK K
      try simp only [Act.put]
      refine wpS_done ?_
      go_wp2_with fail
      try rw [Exit.noGoto_ret]
      exact bodyPost_ret (results_sum Tryz.results65 _ _ _ _ rfl (World.there_setCells H1.out.2 _ _ _)) rfl ⟨rfl, setCells_below _ (by rw [HQ.out]; exact Nat.le_refl _) _ _ _ _ (by rw [← HQ.out]; exact H1.out.1)⟩
  | succ n ih =>
    intro P v vn w hn hv hN hF hl
    by_cases hP : P = []
    · subst hP
      obtain ⟨a, cap, rfl, h1, h2⟩ := pairs_form hv
      exact rat_nil (n + 1) a cap vn w hn hN
    · have hx0 := pairs_one hv (i := 0) (List.length_pos_iff.2 hP)
      obtain ⟨ba, oa, ca, _, _, rfl, _, _, _⟩ := hx0
      obtain ⟨_, _, he, hca, _⟩ := pairs_form hv
      simp only [Value.slice.injEq] at he
      obtain ⟨-, -, rfl⟩ := he
      obtain ⟨one, h1⟩ : ∃ x, x = P.filter (fun p => !(Keys.kn p.1).testBit n) := ⟨_, rfl⟩
      obtain ⟨two, h2⟩ : ∃ x, x = P.filter (fun p => (Keys.kn p.1).testBit n) := ⟨_, rfl⟩
      have hat : atH (n + 1) P = sd (atH n one) (atH n two) := by
        rw [h1, h2]
        unfold atH
        rw [Keys.at']
      obtain ⟨A, hA⟩ : ∃ A, A = atH n one := ⟨_, rfl⟩
      obtain ⟨B, hB⟩ : ∃ B, B = atH n two := ⟨_, rfl⟩
      rw [hat, ← hA, ← hB]
      have hl1 : one.length ≤ P.length := by rw [h1]; exact List.length_filter_le _ _
      have hl2 : two.length ≤ P.length := by rw [h2]; exact List.length_filter_le _ _
      have i1 := fun (v vn : Value) (w : World) g1 g2 => ih one v vn w (by omega) g1 g2 (fun p hp => hF p (by rw [h1] at hp; exact (List.mem_filter.1 hp).1)) (by omega)
      have i2 := fun (v vn : Value) (w : World) g1 g2 => ih two v vn w (by omega) g1 g2 (fun p hp => hF p (by rw [h2] at hp; exact (List.mem_filter.1 hp).1)) (by omega)
      rw [← hA] at i1
      rw [← hB] at i2
      obtain ⟨D, hD⟩ : ∃ D, D = 256 - (n + 1) := ⟨_, rfl⟩
      obtain ⟨E, hE⟩ : ∃ E, E = 256 - n := ⟨_, rfl⟩
      rw [← hE] at i1 i2
      rw [← hD]
      have HI := Lib.hid (And.intro i1 i2)
      have HFI := Lib.hid (And.intro h1 h2)
      obtain ⟨W0, hW0⟩ : ∃ x, x = w.alloc (.cells (cells8 (List.replicate 32 0)).toArray 24) := ⟨_, rfl⟩
      have hb0 : Below w.heap.size w W0 := by rw [hW0]; exact al (Below.refl _ w) _
      have ht0 : W0.there w.heap.size 0 32 := by rw [hW0]; exact there_new w (cells8 (List.replicate 32 0)).toArray 24
      have HB0 := Lib.hid (And.intro trivial (And.intro ht0 (And.intro (hv.below hb0) (hN.below hb0 (Nat.le_refl _)))))
      have HBW := Lib.hid hb0
      obtain ⟨N, hNN⟩ : ∃ N, N = P.length := ⟨_, rfl⟩
      have h0 : N ≠ 0 := fun e => hP (List.length_eq_zero_iff.1 (by rw [← hNN, e]))
      rw [← hNN] at HB0 hca hl ⊢
      have HNN := Lib.hid hNN
      have HNB := Lib.hid hl
      have HDE := Lib.hid (show D + 1 = E ∧ D ≤ 255 ∧ 255 - D = n by omega)
      have hw : IntKind.i64.wrap ((D : Int) + 1) = (E : Int) := by rw [IntKind.wrap_i64]; omega
      have f4 : decide (D = 256) = false := by simp; omega
      have f5 : decide ((D : Int) = 256) = false := by simp; omega
      have f6 : ((D : Int) == 256) = false := by rw [beq_eq_false_iff_ne]; omega
      clear hb0 ht0 hv hNN hN hF hl hn i1 i2 hA hB hat h1 h2 ih hP hl1 hl2 hD hE
      have f1 : decide (N = 0) = false := by simpa using h0
      have f2 : decide ((N : Int) = 0) = false := by simp; omega
      have f3 : ((N : Int) == 0) = false := by rw [beq_eq_false_iff_ne]; omega
      have q3 : (N : Int) ≤ (ca : Int) := by omega
      obtain ⟨q, hq⟩ : ∃ q, q = w.heap.size := ⟨_, rfl⟩
      have HQ := Lib.hid hq
      rw [← hq] at HB0
      have HW0 := Lib.hid hW0
      clear hq hW0
      go_enter Tryz.func65, Tryz.ntmps65
      refine Alm.wp_cut 1 ?_
      intro T hT
      dsimp only [cutN]
      replace hT := Lib.hid hT
      go_wp2_with fail
      refine hT.out _ _ ?_
      clear hT
      dsimp only [dropN]
      change Code.wp _ _ _ _ (w.alloc (.cells (cells8 (List.replicate 32 0)).toArray 24))
      rw [← HW0.out, ← HQ.out]
      clear HW0
      go_wp2_with fail
      clear f1 f2 f3 f4 f5 f6
      go_loopw [7, 8, 9] (fun u7 u8 iv W => ∃ (j : Nat) (p1 p2 : List (PE × List UInt8)), j ≤ N ∧ iv = .int .i64 (j : Int) ∧ (∃ a c, u7 = .slice a p1.length c) ∧ (∃ a c, u8 = .slice a p2.length c) ∧ Row2 W0 W u7 u8 p1 p2 ∧ p1.map (fun c => (c.1.1, c.2)) = (P.take j).filter (fun p => !(Keys.kn p.1).testBit n) ∧ p2.map (fun c => (c.1.1, c.2)) = (P.take j).filter (fun p => (Keys.kn p.1).testBit n)) (fun _ _ iv _ => N - (intOf iv).toNat)
      case atStart => exact ⟨0, [], [], by omega, rfl, ⟨_, _, rfl⟩, ⟨_, _, rfl⟩, Row2.nil _, rfl, rfl⟩
      case round =>
        obtain ⟨j, p1, p2, hj, rfl, ⟨a1, c1, rfl⟩, ⟨a2, c2, rfl⟩, hR, hF1, hF2⟩ := hrel
        have HR := Lib.hid hR
        have HF := Lib.hid (And.intro hF1 hF2)
        have HLN := Lib.hid (And.intro (mapP_len hF1) (mapP_len hF2))
        clear hR hF1 hF2
        by_cases hlt : j < N
        · have g1 : decide (j < N) = true := by simpa using hlt
          have g1' : decide ((j : Int) < (N : Int)) = true := by simp; omega
          have hj0 : (0 : Int) ≤ (j : Int) := by omega
          have hlt' : (j : Int) < (N : Int) := by omega
          have HJ := Lib.hid (And.intro hj hlt)
          clear hj
          have hPA := HB0.out.2.2.1
          rw [HNN.out] at hPA
          obtain ⟨ba', oa', ca', y, yb, he1, hr1, hyb, hyP⟩ := pairs_one hPA (i := j) (by rw [← HNN.out]; exact hlt)
          simp only [Value.slice.injEq, Option.some.injEq, Addr.mk.injEq] at he1
          obtain ⟨⟨rfl, rfl, -⟩, -, rfl⟩ := he1
          have HYB := Lib.hid hyb
          have HYP := Lib.hid hyP
          have HX1 := Lib.hid ((Keeps.of_below (X := fun _ => False) HR.out.below).range hr1 (fun h => h))
          clear hPA hr1 hyb hyP hlt
          have hbit := Keys.bit_odd (Keys.kn y.1) n
          obtain ⟨qb, hqb⟩ : ∃ q, q = (Keys.kn y.1 >>> n) % 2 := ⟨_, rfl⟩
          have hbi := fun W => rbit_any y.1 D W (by have := HDE.out; omega)
          rw [HDE.out.2.2, ← hqb] at hbi
          rw [← hqb] at hbit
          have hq2 : qb < 2 := by rw [hqb]; exact Nat.mod_lt _ (by decide)
          clear hqb
          have hcase : qb = 0 ∨ qb = 1 := by omega
          rcases hcase with rfl | rfl
          · rw [show ((0 : Nat) : Int) = 0 from rfl] at hbi
            have HBI := Lib.hid hbi
            have hbt : (Keys.kn y.1).testBit n = false := by rw [hbit]; rfl
            have HBT := Lib.hid hbt
            clear hbi hbit hq2 hbt
            go_wp2_with (refine wpList_load_sum rfl _ rfl ba (oa + j * 33) rfl y.1 (encP_key HX1.out) ?_)
            refine (HBI.out _).mono ?_
            rintro e V1 ⟨rfl, hb1⟩
            have HR1 := Lib.hid (HR.out.mem hb1)
            have HX := Lib.hid ((Keeps.of_below (X := fun _ => False) hb1).range HX1.out (fun h => h))
            clear HX1 HR hb1 HBI
            have HX1 := Lib.hid HX.out
            clear HX
            have HG := Lib.hid trivial
            go_wp2_with (first
              | (have _ := HG; refine wpList_load_pair rfl _ rfl ba (oa + j * 33) rfl y HX1.out ?_)
              | (have _ := HG; refine wpList_build_pairs rfl 1 _ rfl [y] rfl (by omega) (by omega) rfl ?_; have hb2 := al (Below.refl V1.heap.size V1) (.cells (cellsP [y]).toArray 41); have HP3 := Lib.hid (And.intro (HR1.out.mem hb2) (range_new V1 (cellsP [y]).toArray 41 _ rfl)); clear HG hb2; generalize V1.heap.size = y8 at *; generalize V1.alloc (.cells (cellsP [y]).toArray 41) = V2 at *)
              | (have _ := HP3; refine wpList_append_pairs rfl _ _ rfl W0.heap.size (.slice a1 p1.length c1) (p1.map Prod.fst) [y] p1.length 1 (by rw [List.length_map]) rfl rfl (by have hx := HP3.out.1.r1; exact hx) y8 0 1 rfl HP3.out.2 (by omega) (by have := HLN.out; have := HNB.out; have := HJ.out; omega) HP3.out.1.below.size ?_; intro g9 cap9 V4 ho9 hg9 hat9 _; have HQ9 := Lib.hid ((HP3.out.1.push (y := y) (b := yb) (m := p1.length + 1) HYB.out (by rfl) ho9 hg9 hat9)); clear ho9 hg9 hat9 HP3))
            have hwj : wrap64 ((j : Int) + 1) = ((j + 1 : Nat) : Int) := by have := HNB.out; have := HJ.out; unfold wrap64; omega
            try rw [hwj]
            clear hwj
            exact ⟨⟨j + 1, p1 ++ [(y, yb)], p2, by have := HJ.out; omega, rfl, ⟨_, _, by rw [List.length_append, List.length_singleton]⟩, ⟨_, _, rfl⟩, HQ9.out, by rw [take_filter HYP.out, List.map_append, HF.out.1]; simp [HBT.out], by rw [take_filter HYP.out, HF.out.2]; simp [HBT.out]⟩, by simp only [intOf]; have := HJ.out; omega⟩
          · rw [show ((1 : Nat) : Int) = 1 from rfl] at hbi
            have HBI := Lib.hid hbi
            have hbt : (Keys.kn y.1).testBit n = true := by rw [hbit]; rfl
            have HBT := Lib.hid hbt
            clear hbi hbit hq2 hbt
            go_wp2_with (refine wpList_load_sum rfl _ rfl ba (oa + j * 33) rfl y.1 (encP_key HX1.out) ?_)
            refine (HBI.out _).mono ?_
            rintro e V1 ⟨rfl, hb1⟩
            have HR1 := Lib.hid (HR.out.mem hb1)
            have HX := Lib.hid ((Keeps.of_below (X := fun _ => False) hb1).range HX1.out (fun h => h))
            clear HX1 HR hb1 HBI
            have HX1 := Lib.hid HX.out
            clear HX
            have HG := Lib.hid trivial
            go_wp2_with (first
              | (have _ := HG; refine wpList_load_pair rfl _ rfl ba (oa + j * 33) rfl y HX1.out ?_)
              | (have _ := HG; refine wpList_build_pairs rfl 1 _ rfl [y] rfl (by omega) (by omega) rfl ?_; have hb2 := al (Below.refl V1.heap.size V1) (.cells (cellsP [y]).toArray 41); have HP3 := Lib.hid (And.intro (HR1.out.mem hb2) (range_new V1 (cellsP [y]).toArray 41 _ rfl)); clear HG hb2; generalize V1.heap.size = y8 at *; generalize V1.alloc (.cells (cellsP [y]).toArray 41) = V2 at *)
              | (have _ := HP3; refine wpList_append_pairs rfl _ _ rfl W0.heap.size (.slice a2 p2.length c2) (p2.map Prod.fst) [y] p2.length 1 (by rw [List.length_map]) rfl rfl (by have hx := HP3.out.1.r2; exact hx) y8 0 1 rfl HP3.out.2 (by omega) (by have := HLN.out; have := HNB.out; have := HJ.out; omega) HP3.out.1.below.size ?_; intro g9 cap9 V4 ho9 hg9 hat9 _; have HQ9 := Lib.hid ((HP3.out.1.swap.push (y := y) (b := yb) (m := p2.length + 1) HYB.out (by rfl) ho9 hg9 hat9).swap); clear ho9 hg9 hat9 HP3))
            have hwj : wrap64 ((j : Int) + 1) = ((j + 1 : Nat) : Int) := by have := HNB.out; have := HJ.out; unfold wrap64; omega
            try rw [hwj]
            clear hwj
            exact ⟨⟨j + 1, p1, p2 ++ [(y, yb)], by have := HJ.out; omega, rfl, ⟨_, _, rfl⟩, ⟨_, _, by rw [List.length_append, List.length_singleton]⟩, HQ9.out, by rw [take_filter HYP.out, HF.out.1]; simp [HBT.out], by rw [take_filter HYP.out, List.map_append, HF.out.2]; simp [HBT.out]⟩, by simp only [intOf]; have := HJ.out; omega⟩
        · have g1 : decide (j < N) = false := by simpa using hlt
          have g1' : decide ((j : Int) < (N : Int)) = false := by simp; omega
          have hjN : j = N := by omega
          have htk : P.take j = P := List.take_of_length_le (by rw [← HNN.out]; omega)
          have hF1 := HF.out.1
          have hF2 := HF.out.2
          rw [htk, ← HFI.out.1] at hF1
          rw [htk, ← HFI.out.2] at hF2
          have H1 := Lib.hid (And.intro (HBW.out.trans (HR.out.below.mono HBW.out.size)) (And.intro ((Keeps.of_below (X := fun _ => False) HR.out.below).there HB0.out.2.1 (by decide) (fun h => h)) (And.intro (HR.out.pairs hF1) (And.intro (HR.out.swap.pairs hF2) (HB0.out.2.2.2.below HR.out.below (Nat.le_refl _))))))
          clear hF1 hF2 htk hjN hlt hj HR HF
          have HG := Lib.hid trivial
          go_wp2_with (first
            | (have _ := HG; go_at_call 65; refine (HI.out.1 _ _ _ H1.out.2.2.1 H1.out.2.2.2.2).mono ?_; rintro e V1 ⟨rfl, hb1⟩; have H2 := Lib.hid (And.intro (H1.out.1.trans (hb1.mono H1.out.1.size)) (And.intro ((Keeps.of_below (X := fun _ => False) hb1).there H1.out.2.1 (by decide) (fun h => h)) (And.intro (H1.out.2.2.2.1.below hb1) (H1.out.2.2.2.2.below hb1 (Nat.le_refl _))))); clear hb1 HG)
            | (have _ := H2; go_at_call 65; refine (HI.out.2 _ _ _ H2.out.2.2.1 H2.out.2.2.2).mono ?_; rintro e V2 ⟨rfl, hb2⟩; have H3 := Lib.hid (And.intro (H2.out.1.trans (hb2.mono H2.out.1.size)) ((Keeps.of_below (X := fun _ => False) hb2).there H2.out.2.1 (by decide) (fun h => h))); clear hb2 H2)
            | (go_at_call 125; refine (rside_any A B _).mono ?_; rintro e V3 ⟨rfl, hb3⟩; have H4 := Lib.hid (And.intro (H3.out.1.trans (hb3.mono H3.out.1.size)) ((Keeps.of_below (X := fun _ => False) hb3).there H3.out.2 (by decide) (fun h => h))); clear hb3 H3)
            | (refine wpList_store_sum rfl _ _ rfl q 0 (sd A B) rfl rfl H4.out.2 ?_))
          try rw [Exit.noGoto_ret]
          exact bodyPost_ret (results_sum Tryz.results65 _ _ _ _ rfl (World.there_setCells H4.out.2 _ _ _)) rfl ⟨rfl, by have h9 := H4.out.1; rw [← HQ.out] at h9; exact setCells_below _ (Nat.le_refl _) _ _ _ _ h9⟩
end Go.Proofs.YtfmgoehnbaiamaaGreatDoor
