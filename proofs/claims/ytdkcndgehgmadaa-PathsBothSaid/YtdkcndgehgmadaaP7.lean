/-
  Walks: the law PathsBack.
-/
import Derived.Test.YtdkcndgehgmadaaP5
open Go Go.RowKit Alm
namespace Alm
theorem join3 {α β γ : Type} {G : α → β → γ → Prop} {g : Prop} (F : α → β → γ → Prop) (main : (∀ a b c, F a b c → G a b c) → g) (key : ∀ a b c, F a b c → G a b c) : g := main key
/-- What is written since a world is above that world. -/
theorem below_keeps {X : Nat → Prop} {w V V' : World} (h : Below w.heap.size w V) (hk : Keeps X V V') (hx : ∀ k, X k → w.heap.size ≤ k) : Below w.heap.size w V' :=
  ((Keeps.of_below (X := fun _ => False) h).trans' hk (fun i hi => .inr (hx i hi))).below (Nat.le_refl _) (fun _ h => h.elim)
theorem halves_le (n : Nat) : halves n ≤ n := by
  induction n using halves.induct with
  | case1 => rw [halves]; simp
  | case2 n h ih => rw [halves, dif_neg h]; omega
end Alm
namespace Go.Proofs.Ytdkcndgehgmadaa
theorem wrapS (a : Int) (h0 : 0 ≤ a) (h1 : a < 4000000000) : wrap64 a = a := by unfold wrap64; omega
theorem plen_le_n (k n : Nat) : plen k n ≤ n := by
  have := plen_le_halves k n
  have := halves_le (n - 1)
  omega
/-- append of a list of sums to none. -/
theorem wp_append_nil {w : World} {o : Oper} {a : Act} {K : Act → World → Prop} {Q : Exit → Act → World → Prop} (s x : Operand)
    (ho : o.op = .call { callee := .builtin .append, args := #[s, x], argTypes := #[22, 22] })
    (base : Nat) (hB : base ≤ w.heap.size) (v : Value) (xs : List Sum) (hs : a.eval s = .slice none 0 0) (hx : a.eval x = v) (hv : SumsAt w v xs) (hl : xs.length < 4000000000)
    (h : ∀ u w', w'.ownsRow base 24 32 u xs.length (cellsAll xs) → Below w.heap.size w w' → K (a.put o.dst u) w') : o.wp Try.prog a w K Q := by
  by_cases h0 : xs = []
  · subst h0
    obtain ⟨ad, cap, rfl, _, _, _⟩ := hv
    have h := h (.slice none 0 0) w (World.ownsRow_nil _ _ _ _) (Below.refl _ _)
    obtain ⟨i, z, hi, _⟩ := info_sum
    rw [List.length_nil] at hx
    have hrun : (Builtin.append_ #[22, 22] o.type #[.slice none 0 0, .slice ad 0 cap]).run Try.prog w = .ok (.slice none 0 0) w := by
      cases ad <;> simp [Builtin.append_, run_underlying Try.underlying22, sizeOf, typeInfo, hi, Builtin.lenOf, Builtin.firstCells, storeCells, loadCells, loadCellsFrom]
    unfold Oper.wp
    simp [execOp, ho, resolve, invoke, builtin, hs, hx, hrun, Result.andThen]
    exact h
  · obtain ⟨b, off, cap, rfl, h1, h2, hr⟩ := sums_form hv h0
    refine wp_append_sums s x ho base (.slice none 0 0) [] xs 0 xs.length rfl rfl hs (World.ownsRow_nil _ _ _ _) b off cap hx hr (List.length_pos_iff.2 h0) (by omega) hB ?_
    intro g c w' ho' hg _ _
    rw [Nat.zero_add] at ho'
    have hb := (Keeps.of_grown (X := fun _ => False) hg (fun k hk => by cases hk)).below (B := w.heap.size) (Nat.le_refl _) (fun _ h => h.elim)
    have := h _ w' ho' hb
    rw [Nat.zero_add]; exact this
set_option maxRecDepth 100000 in
set_option maxHeartbeats 4000000 in
theorem pathsBack_any (l : List Sum) (v : Value) (f : Nat) (s : Sum) (w : World) (hv : SumsAt w v l) (hf : f ≤ 255) : Calls Try.prog 3 #[v, .int .u8 (f : Int), sv s] w fun e w' => e = .returned (.bool true) ∧ Below w.heap.size w w' := by
  have hb0 := al (Below.refl _ w) (.cells (cellsOf s).toArray 24)
  have hs0 := range_new w (cellsOf s).toArray 24 _ rfl
  have HV := Lib.hid (hv.below hb0 (Nat.le_refl _))
  have HB0 := Lib.hid (And.intro hb0 hs0)
  clear hb0 hs0
  obtain ⟨a, cap, rfl, h1, h2, h3⟩ := hv
  obtain ⟨n, hn⟩ : ∃ n, n = l.length := ⟨_, rfl⟩
  rw [← hn] at h1 HV ⊢
  have HN := Lib.hid hn; clear hn
  unfold maxLen at h2
  have hf0 : (0 : Int) ≤ (f : Int) := by omega
  have hf1 : (f : Int) ≤ 255 := by omega
  by_cases hz : n = 0
  · have hz' : ((n : Int) == 0) = true := by rw [beq_iff_eq]; omega
    clear hz
    go_enter Try.func3, Try.ntmps3
    go_wp2_with fail
    refine (alive_paths (w.alloc (.cells (cellsOf s).toArray 24))).mono ?_
    rintro e w1 ⟨rfl, hb⟩
    go_wp2_with fail
    exact bodyPost_ret (results_tmp rfl _ _ _) rfl ⟨rfl, HB0.out.1.trans (hb.mono HB0.out.1.size)⟩
  have hz' : ((n : Int) == 0) = false := by rw [beq_eq_false_iff_ne]; omega
  by_cases hbig : 150 < n
  · have hbig' : (150 : Int) < (n : Int) := by omega
    go_enter Try.func3, Try.ntmps3
    go_wp2_with fail
    refine (alive_paths (w.alloc (.cells (cellsOf s).toArray 24))).mono ?_
    rintro e w1 ⟨rfl, hb⟩
    go_wp2_with fail
    exact bodyPost_ret (results_tmp rfl _ _ _) rfl ⟨rfl, HB0.out.1.trans (hb.mono HB0.out.1.size)⟩
  have hbig' : ¬ (150 : Int) < (n : Int) := by omega
  obtain ⟨k, hk⟩ : ∃ k, k = f % n := ⟨_, rfl⟩
  have hkn : k < n := by have := Nat.mod_lt f (show 0 < n by omega); omega
  have hwr : (f : Int) % (n : Int) = (k : Int) := by rw [← Int.natCast_emod, hk]
  have hl0 : l ≠ [] := by intro h; have := HN.out; rw [h] at this; simp at this; omega
  obtain ⟨b, o, rfl, hra⟩ := h3.resolve_left hl0
  have HR := Lib.hid (br HB0.out.1 hra); clear hra h3 hk
  have k0 : (0 : Int) ≤ (k : Int) := by omega
  have k1 : (k : Int) < (n : Int) := by omega
  have k3 : (k : Int) ≤ 150 := by omega
  have u1 : IntKind.u64.wrap (k : Int) = (k : Int) := by
    simp only [IntKind.wrap, IntKind.bits, IntKind.signed, Bool.false_and, Bool.false_eq_true, if_false]; omega
  have u2 : IntKind.u64.wrap (n : Int) = (n : Int) := by
    simp only [IntKind.wrap, IntKind.bits, IntKind.signed, Bool.false_and, Bool.false_eq_true, if_false]; omega
  have hkl : k < l.length := by have := HN.out; omega
  obtain ⟨y, hy⟩ : ∃ y, y = l[k] := ⟨_, rfl⟩
  have hy? : l[k]? = some y := by rw [hy]; exact List.getElem?_eq_getElem hkl
  have HRK := Lib.hid (fun (V : World) (hV : V.rangeAt b o (cellsAll l)) => (hy ▸ range_at hV hkl : V.rangeAt b (o + k * 32) (cellsOf y)))
  obtain ⟨x, hx⟩ : ∃ x, x = path nd e0 l k := ⟨_, rfl⟩
  have hlx : x.length = plen k n := by rw [hx, length_path, ← HN.out]
  obtain ⟨rb, hrb⟩ : ∃ r, r = rt l := ⟨_, rfl⟩
  have HYES : Hid (pathBe y k n x rb = true) := Lib.hid (by rw [hx, HN.out, hrb]; exact pathBe_path l k y hy?)
  have HMORE : Hid (pathBe y k n (x ++ [s]) rb = false) := Lib.hid (by rw [hx, HN.out, hrb]; exact pathBe_more l k y hy? s)
  have HLESS : Hid (∀ p : List Sum, p.length < x.length → pathBe y k n p rb = false) := Lib.hid (fun p hp => pathBe_less y k n p rb (by omega))
  have HL := fun W h => pathsOf_any l k (.slice (some ⟨b, o, none⟩) n cap) W h hkl (by have := HN.out; omega)
  have HRT := fun W h => rt_any l (.slice (some ⟨b, o, none⟩) n cap) W h
  rw [← hx] at HL
  rw [← hrb] at HRT
  have HL := Lib.hid HL
  have HRT := Lib.hid HRT
  have HK := Lib.hid (And.intro hkn hlx)
  have HN9 : Hid (n < 4000000000 ∧ n ≤ 150) := Lib.hid ⟨by omega, by omega⟩
  clear hlx hx hkn hbig hy? hy hkl hrb
  go_enter Try.func3, Try.ntmps3
  go_wp2_with fail
  obtain ⟨z, hz0⟩ : ∃ z, z = w.heap.size := ⟨_, rfl⟩
  have HZ := Lib.hid hz0
  have hbz := HB0.out
  rw [← hz0] at hbz ⊢
  clear hz0
  generalize w.alloc (.cells (cellsOf s).toArray 24) = W0 at *
  refine (HL.out W0 HV.out).mono ?_
  rintro e W1 ⟨v', rfl, hN, hb⟩
  have HX1 := Lib.hid hN.sums
  have HB1 := Lib.hid hb
  clear hb hN hbz
  go_wp2_with fail
  refine (HRT.out W1 (HV.out.below HB1.out (Nat.le_refl _))).mono ?_
  rintro e W2 ⟨rfl, hb⟩
  have HX2 := Lib.hid (HX1.out.below hb (Nat.le_refl _))
  have HB2 := Lib.hid (HB1.out.trans (hb.mono HB1.out.size))
  clear hb HX1 HB1
  have HG := Lib.hid trivial
  go_wp2_with (have _ := HG; refine wpList_var_sum (by rfl) rfl _ _ rfl rb rfl rfl ?_; intro W5 hb3 hr3 _ hlt3; clear HG)
  have HX5 := Lib.hid (HX2.out.below hb3 (Nat.le_refl _))
  have HQ5 := Lib.hid hr3
  have HB5 := Lib.hid (HB2.out.trans (hb3.mono HB2.out.size))
  generalize W2.heap.size = q1 at *
  have HZ5 := Lib.hid (br HB5.out (HZ.out ▸ HB0.out.2))
  have HR5 := Lib.hid (br HB5.out HR.out)
  have HW5 := Lib.hid (HB0.out.1.trans (HB5.out.mono HB0.out.1.size))
  clear hb3 hr3 hlt3 HX2 HB2 HB5 HR HL HRT HV HB0
  obtain ⟨av, cv, rfl, c1, c2, c3⟩ := HX5.out
  obtain ⟨m, hm⟩ : ∃ m, m = x.length := ⟨_, rfl⟩
  rw [← hm] at c1 HX5 ⊢
  have HM := Lib.hid hm
  have HK2 : Hid (x.length < 4000000000 ∧ m ≤ halves (n - 1)) := Lib.hid (by
    have h1 := HK.out.2
    have h2 := plen_le_halves k n
    have h3 := halves_le (n - 1)
    have := HN9.out.2
    omega)
  have HC3 := Lib.hid c3
  unfold maxLen at c2
  clear hm c3 h2 hf0 hf1 hf hwr hl0 hbig'
  have w0 : wrap64 ((n : Int) - 1) = ((n - 1 : Nat) : Int) := by have := HN9.out.2; rw [wrapS _ (by omega) (by omega)]; omega
  go_wp2_with fail
  clear w0
  have HNP : Hid (1 ≤ n) := Lib.hid (by omega)
  go_loopw [11, 12] (fun bt nn W => ∃ j q : Nat, bt = .int .i64 (j : Int) ∧ nn = .int .i64 (q : Int) ∧ j + halves q = halves (n - 1) ∧ q ≤ n - 1 ∧ W = W5) (fun _ nn _ => (intOf nn).toNat)
  case atStart => exact ⟨0, n - 1, rfl, by have := HNP.out; congr 1; omega, by omega, Nat.le_refl _, rfl⟩
  case round =>
    obtain ⟨j, q, rfl, rfl, hjq, hqn, hW⟩ := hrel
    have hW := hW.symm
    subst hW
    by_cases hq0 : q = 0
    · have hq' : ¬ (0 : Int) < (q : Int) := by omega
      have hjm : ¬ j < m := by
        rw [hq0] at hjq
        have h0 : halves 0 = 0 := by rw [halves]; simp
        have := HK2.out.2
        omega
      have hjm2 : decide (j < m) = false := decide_eq_false hjm
      clear hjq hqn hq0
      go_wp2_with fail
      refine wp_region_sched (fun V => Below W5.heap.size W5 V) [.t 0, .t 1, .t 2, .t 3, .t 4, .t 5, .t 6, .t 7, .t 8, .t 9, .t 10, .t 11, .t 13, .t 14, .t 15, .t 16, .t 17, .t 18, .s 12, .e 19 true, .e 20 true, .t 21, .t 22, .t 23, .t 24, .t 25, .t 26, .t 28, .t 29, .t 30, .t 31, .t 32, .t 33, .s 27, .s 35, .s 38, .f 34 36 true, .e 37 true, .e 39 true, .t 40] (by kernel_rfl) (by kernel_rfl) (by intro c a d v w h; cases d <;> exact h) ?_
      have HS := Lib.hid (Below.refl W5.heap.size W5).drew
      generalize W5.drew = V at *
      iterate 18
        refine wpS_t rfl (v := ?_) (by rfl) (fun W => ?_) ?_
        rotate_left
        · go_simp
          try rfl
        try simp only [Act.put, List.setIfInBounds_toArray, List.set_cons_zero, List.set_cons_succ]
      clear hjm hjm2
      refine wpS_load_sum (by exact HS.out) rfl (by rfl) _ (by rfl) b (o + k * 32) (by rfl) y (fun V hV => HRK.out V (br hV HR5.out)) ?_
      try simp only [Act.put, List.setIfInBounds_toArray, List.set_cons_zero, List.set_cons_succ]
      refine wpS_k rfl (by rfl) (fun K hK => ?_)
      refine wp_load_sum _ (by rfl) q1 0 (by rfl) rb (br HS.out HQ5.out) ?_
      refine hK _ _ ⟨by exact HS.out, ?_⟩; clear hK K
      try simp only [Act.put, List.setIfInBounds_toArray, List.set_cons_zero, List.set_cons_succ]
      refine wpS_k rfl (by rfl) (fun K hK => ?_)
      go_simp
      refine (pcheck_in y k n (.slice av m cv) x rb V (HX5.out.below HS.out (Nat.le_refl _)) HK.out.1 HN9.out.1).mono ?_
      rw [HYES.out]
      rintro e V ⟨rfl, hb⟩
      replace HS := Lib.hid (HS.out.trans (hb.mono HS.out.size)); clear hb
      refine hK _ _ ⟨by exact HS.out, ?_⟩; clear hK K
      try simp only [Act.put, List.setIfInBounds_toArray, List.set_cons_zero, List.set_cons_succ]
      iterate 12
        refine wpS_t rfl (v := ?_) (by rfl) (fun W => ?_) ?_
        rotate_left
        · go_simp
          try rfl
        try simp only [Act.put, List.setIfInBounds_toArray, List.set_cons_zero, List.set_cons_succ]
      refine wpS_load_sum (by exact HS.out) rfl (by rfl) _ (by rfl) b (o + k * 32) (by rfl) y (fun V hV => HRK.out V (br hV HR5.out)) ?_
      try simp only [Act.put, List.setIfInBounds_toArray, List.set_cons_zero, List.set_cons_succ]
      refine wpS_load_sum (by exact HS.out) rfl (by rfl) _ (by rfl) z 0 (by rfl) s (fun V hV => br hV HZ5.out) ?_
      try simp only [Act.put, List.setIfInBounds_toArray, List.set_cons_zero, List.set_cons_succ]
      refine wpS_load_sum (by exact HS.out) rfl (by rfl) _ (by rfl) q1 0 (by rfl) rb (fun V hV => br hV HQ5.out) ?_
      try simp only [Act.put, List.setIfInBounds_toArray, List.set_cons_zero, List.set_cons_succ]
      refine' join3 (fun (u : Value) (g : Nat) (V : World) => V.ownsRow W5.heap.size 24 32 u x.length (cellsAll x) ∧ V.rangeAt g 0 (cellsOf s) ∧ Below W5.heap.size W5 V) (fun key => ?_) ?_
      rotate_left
      · refine wpS_fk ?_ ?_
        · refine wpOp_of rfl (by rfl) (fun K hK => ?_)
          refine wp_append_nil _ _ (by rfl) W5.heap.size HS.out.size (.slice av m cv) x (by rfl) (by rfl) (HX5.out.below HS.out (Nat.le_refl _)) HK2.out.1 ?_
          intro u V1 hu hb
          have HS1 := Lib.hid (HS.out.trans (hb.mono HS.out.size))
          refine hK _ _ ⟨by exact HS1.out, ?_⟩; clear hK K hb
          try simp only [Act.put, List.setIfInBounds_toArray, List.set_cons_zero, List.set_cons_succ]
          refine wpOp_of rfl (by rfl) (fun K hK => ?_)
          refine wp_build_sums 1 _ (by rfl) [s] rfl (by omega) (by omega) (by rfl) ?_
          have hb := al (Below.refl V1.heap.size V1) (.cells (cellsAll [s]).toArray 24)
          have HS2 := Lib.hid (HS1.out.trans (hb.mono HS1.out.size))
          have HU := Lib.hid ((Keeps.of_below (X := fun _ => False) hb).owns hu (fun _ _ h => h))
          have HR := Lib.hid (range_new V1 (cellsAll [s]).toArray 24 (cellsOf s) (by rw [cellsAll_one]))
          clear hb hu
          generalize V1.alloc (.cells (cellsAll [s]).toArray 24) = V2 at *
          generalize V1.heap.size = g at *
          refine hK _ _ ⟨by exact HS2.out, ?_⟩; clear hK K
          try simp only [Act.put, List.setIfInBounds_toArray, List.set_cons_zero, List.set_cons_succ]
          exact key u g V2 ⟨HU.out, HR.out, HS2.out⟩
        · refine wpOp_of rfl (by rfl) (fun K hK => ?_)
          refine wp_build_sums 1 _ (by rfl) [s] rfl (by omega) (by omega) (by rfl) ?_
          have hb := al (Below.refl V.heap.size V) (.cells (cellsAll [s]).toArray 24)
          have HS1 := Lib.hid (HS.out.trans (hb.mono HS.out.size))
          have HR := Lib.hid (range_new V (cellsAll [s]).toArray 24 (cellsOf s) (by rw [cellsAll_one]))
          clear hb
          generalize V.alloc (.cells (cellsAll [s]).toArray 24) = V1 at *
          generalize V.heap.size = g at *
          refine hK _ _ ⟨by exact HS1.out, ?_⟩; clear hK K
          try simp only [Act.put, List.setIfInBounds_toArray, List.set_cons_zero, List.set_cons_succ]
          refine wpOp_of rfl (by rfl) (fun K hK => ?_)
          refine wp_append_nil _ _ (by rfl) W5.heap.size HS1.out.size (.slice av m cv) x (by rfl) (by rfl) (HX5.out.below HS1.out (Nat.le_refl _)) HK2.out.1 ?_
          intro u V2 hu hb
          have HS2 := Lib.hid (HS1.out.trans (hb.mono HS1.out.size))
          have HR2 := Lib.hid (br hb HR.out)
          refine hK _ _ ⟨by exact HS2.out, ?_⟩; clear hK K hb
          try simp only [Act.put, List.setIfInBounds_toArray, List.set_cons_zero, List.set_cons_succ]
          exact key u g V2 ⟨hu, HR2.out, HS2.out⟩
      · intro u g V hF
        have HF := Lib.hid hF; clear hF
        have HS := Lib.hid HF.out.2.2
        refine wpS_k rfl (by rfl) (fun K hK => ?_)
        refine wp_append_sums _ _ (by rfl) W5.heap.size u x [s] x.length 1 rfl rfl (by rfl) HF.out.1 g 0 1 (by rfl) (by rw [cellsAll_one]; exact HF.out.2.1) (by omega) (by have := HK2.out.1; omega) HS.out.size ?_
        intro g2 c2 V' ho hg _ _
        have hk := Keeps.of_grown (X := fun k => u.ownBlock = some k) hg (fun k hk => hk)
        have HSU := Lib.hid (sums_own (l := x ++ [s]) (by rw [List.length_append]; exact ho))
        replace HS := Lib.hid (below_keeps HS.out hk (fun k hk => (HF.out.1.lt k hk).1))
        clear ho hg hk HF
        refine hK _ _ ⟨by exact HS.out, ?_⟩; clear hK K
        try simp only [Act.put, List.setIfInBounds_toArray, List.set_cons_zero, List.set_cons_succ]
        refine wpS_k rfl (by rfl) (fun K hK => ?_)
        go_simp
        refine (pcheck_in y k n _ (x ++ [s]) rb V' HSU.out HK.out.1 HN9.out.1).mono ?_
        rw [HMORE.out]
        rintro e V ⟨rfl, hb⟩
        replace HS := Lib.hid (HS.out.trans (hb.mono HS.out.size)); clear hb HSU
        refine hK _ _ ⟨by exact HS.out, ?_⟩; clear hK K
        try simp only [Act.put, List.setIfInBounds_toArray, List.set_cons_zero, List.set_cons_succ]
        iterate 1
          refine wpS_t rfl (v := ?_) (by rfl) (fun W => ?_) ?_
          rotate_left
          · go_simp
            try rfl
          try simp only [Act.put, List.setIfInBounds_toArray, List.set_cons_zero, List.set_cons_succ]
        refine wpS_done ?_
        go_wp2_with fail
        refine wp_region_sched (fun V => Below W5.heap.size W5 V) [.e 0 true, .t 1, .t 2, .t 3, .t 4, .t 5, .t 6, .t 7, .t 8, .t 10, .t 11, .t 12, .t 13, .t 14, .t 15, .t 16, .t 17, .t 18, .t 19, .s 9, .e 20 true, .e 21 true, .t 22, .t 23, .t 24, .t 25] (by kernel_rfl) (by kernel_rfl) (by intro c a d v w h; cases d <;> exact h) ?_
        replace HS := Lib.hid HS.out.drew
        generalize V.drew = V at *
        refine wpS_k rfl (by rfl) (fun K hK => ?_)
        go_simp
        refine (alive_paths V).mono ?_
        rintro e V ⟨rfl, hb⟩
        replace HS := Lib.hid (HS.out.trans (hb.mono HS.out.size)); clear hb
        refine hK _ _ ⟨by exact HS.out, ?_⟩; clear hK K
        try simp only [Act.put, List.setIfInBounds_toArray, List.set_cons_zero, List.set_cons_succ]
        by_cases hm0 : m = 0
        · have h0 : ((m : Int) == 0) = true := by rw [beq_iff_eq]; omega
          clear hm0
          iterate 5
            refine wpS_t rfl (v := ?_) (by rfl) (fun W => ?_) ?_
            rotate_left
            · go_simp
              try rfl
            try simp only [Act.put, List.setIfInBounds_toArray, List.set_cons_zero, List.set_cons_succ]
          iterate 13
            refine wpS_t_skip rfl (by rfl) ?_
            try simp only [Act.put, List.setIfInBounds_toArray, List.set_cons_zero, List.set_cons_succ]
          iterate 1
            refine wpS_s_skip (by exact HS.out) rfl (by rfl) ?_
            try simp only [Act.put, List.setIfInBounds_toArray, List.set_cons_zero, List.set_cons_succ]
          refine wpS_k_skip (by exact HS.out) rfl (by rfl) ?_
          try simp only [Act.put, List.setIfInBounds_toArray, List.set_cons_zero, List.set_cons_succ]
          refine wpS_k_skip (by exact HS.out) rfl (by rfl) ?_
          try simp only [Act.put, List.setIfInBounds_toArray, List.set_cons_zero, List.set_cons_succ]
          iterate 1
            refine wpS_t_skip rfl (by rfl) ?_
            try simp only [Act.put, List.setIfInBounds_toArray, List.set_cons_zero, List.set_cons_succ]
          iterate 3
            refine wpS_t rfl (v := ?_) (by rfl) (fun W => ?_) ?_
            rotate_left
            · go_simp
              try rfl
            try simp only [Act.put, List.setIfInBounds_toArray, List.set_cons_zero, List.set_cons_succ]
          refine wpS_done ?_
          go_wp2_with fail
          exact bodyPost_ret (results_tmp rfl _ _ _) rfl ⟨rfl, HW5.out.trans (HS.out.mono HW5.out.size)⟩
        · have h0 : ((m : Int) == 0) = false := by rw [beq_eq_false_iff_ne]; omega
          obtain ⟨m', hm'⟩ : ∃ m', m = m' + 1 := ⟨m - 1, by omega⟩
          have hx0 : x ≠ [] := by intro h; have := HM.out; rw [h] at this; simp at this; omega
          obtain ⟨bv, ov, rfl, hrv⟩ := HC3.out.resolve_left hx0
          have hx32 : x.length < 4000000000 := HK2.out.1
          have hmx : m = x.length := HM.out
          have hw : IntKind.i64.wrap ((m : Int) - 1) = (m' : Int) := by rw [IntKind.wrap_i64]; omega
          have j0 : (0 : Int) ≤ (m' : Int) := by omega
          have j1 : (m' : Int) ≤ (m : Int) := by omega
          have j2 : (m' : Int) ≤ (cv : Int) := by omega
          have HY := Lib.hid (sums_take (cap := cv) (k := m') hrv (by omega) (by omega) (by unfold maxLen; omega))
          have HNO := Lib.hid (HLESS.out (x.take m') (by rw [List.length_take]; omega))
          clear hm0 hm' hx0 hrv hx32 hmx
          iterate 18
            refine wpS_t rfl (v := ?_) (by rfl) (fun W => ?_) ?_
            rotate_left
            · go_simp
              try rfl
            try simp only [Act.put, List.setIfInBounds_toArray, List.set_cons_zero, List.set_cons_succ]
          clear hw j0 j1 j2
          refine wpS_load_sum (by exact HS.out) rfl (by rfl) _ (by rfl) b (o + k * 32) (by rfl) y (fun V hV => HRK.out V (br hV HR5.out)) ?_
          try simp only [Act.put, List.setIfInBounds_toArray, List.set_cons_zero, List.set_cons_succ]
          refine wpS_k rfl (by rfl) (fun K hK => ?_)
          refine wp_load_sum _ (by rfl) q1 0 (by rfl) rb (br HS.out HQ5.out) ?_
          refine hK _ _ ⟨by exact HS.out, ?_⟩; clear hK K
          try simp only [Act.put, List.setIfInBounds_toArray, List.set_cons_zero, List.set_cons_succ]
          refine wpS_k rfl (by rfl) (fun K hK => ?_)
          go_simp
          refine (pcheck_in y k n _ (x.take m') rb V (HY.out.below HS.out (Nat.le_refl _)) HK.out.1 HN9.out.1).mono ?_
          rw [HNO.out]
          rintro e V ⟨rfl, hb⟩
          replace HS := Lib.hid (HS.out.trans (hb.mono HS.out.size)); clear hb
          refine hK _ _ ⟨by exact HS.out, ?_⟩; clear hK K
          try simp only [Act.put, List.setIfInBounds_toArray, List.set_cons_zero, List.set_cons_succ]
          iterate 4
            refine wpS_t rfl (v := ?_) (by rfl) (fun W => ?_) ?_
            rotate_left
            · go_simp
              try rfl
            try simp only [Act.put, List.setIfInBounds_toArray, List.set_cons_zero, List.set_cons_succ]
          refine wpS_done ?_
          go_wp2_with fail
          exact bodyPost_ret (results_tmp rfl _ _ _) rfl ⟨rfl, HW5.out.trans (HS.out.mono HW5.out.size)⟩
    · have hq' : (0 : Int) < (q : Int) := by omega
      have hh : halves q = halves (q / 2) + 1 := by conv => lhs; rw [halves, dif_neg hq0]
      have hle := halves_le (n - 1)
      have hj9 : j + 1 ≤ 150 := by have := HN9.out.2; omega
      have HH := Lib.hid (And.intro hh (And.intro hjq hqn))
      clear hh hjq hqn hle
      go_wp2_with fail
      have wq : wrap64 ((q : Int) / 2) = ((q / 2 : Nat) : Int) := by
        have := HH.out.2.2
        have := HN9.out.2
        rw [wrapS _ (by omega) (by omega)]; omega
      rw [wq]
      clear wq
      exact ⟨⟨j + 1, q / 2, rfl, rfl, by have := HH.out; omega, by have := HH.out.2.2; omega, trivial⟩, by simp [intOf]; omega⟩
end Go.Proofs.Ytdkcndgehgmadaa
