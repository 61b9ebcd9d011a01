/-
  Merged: S18, D1, D2, D3, D4, D5, D6.
-/
import Derived.Test.YtfmgoehnbaiamaaZS3
import Derived.Test.YtfmgoehnbaiamaaZV
-- Walk: ShowsNear.
open Go Go.RowKit Alm
namespace Go.Proofs.Ytfmgoehnbaiamaa
theorem sides_step {T : List (Option Sum)} {j : Nat} {x : Option Sum} (h : T[j]? = some x) : sidesOf (T.take (j + 1)) = sidesOf (T.take j) ++ x.toList ∧ sidesOf T = sidesOf (T.take (j + 1)) ++ sidesOf (T.drop (j + 1)) := by
  obtain ⟨hi, e⟩ := List.getElem?_eq_some_iff.1 h
  refine ⟨?_, ?_⟩
  · rw [List.take_succ_eq_append_getElem hi, e]
    unfold sidesOf
    rw [List.filterMap_append]
    cases x <;> rfl
  · unfold sidesOf
    rw [← List.filterMap_append, List.take_append_drop]
theorem sides_at {T : List (Option Sum)} {j : Nat} {t : Sum} (h : T[j]? = some (some t)) : (sidesOf T)[(sidesOf (T.take j)).length]? = some t ∧ (sidesOf (T.take (j + 1))).length = (sidesOf (T.take j)).length + 1 := by
  obtain ⟨h1, h2⟩ := sides_step h
  refine ⟨?_, by rw [h1]; simp⟩
  rw [h2, h1, List.append_assoc, List.getElem?_append_right (Nat.le_refl _), Nat.sub_self]
  rfl
theorem sides_no {T : List (Option Sum)} {j : Nat} (h : T[j]? = some none) : sidesOf (T.take (j + 1)) = sidesOf (T.take j) := by
  rw [(sides_step h).1]; simp
theorem sums_elem {w : World} {b o n c : Nat} {S : List Sum} (h : SumsAt w (.slice (some ⟨b, o, none⟩) n c) S) {i : Nat} {t : Sum} (ht : S[i]? = some t) : w.rangeAt b (o + i * 32) (cellsOf t) := by
  obtain ⟨a, cap, he, h1, h2, h3⟩ := h
  simp only [Value.slice.injEq] at he
  obtain ⟨rfl, -, -⟩ := he
  obtain ⟨hi, e⟩ := List.getElem?_eq_some_iff.1 ht
  obtain ⟨b', o', hb, hr⟩ := h3.resolve_left (by intro e; rw [e] at hi; simp at hi)
  simp only [Option.some.injEq, Addr.mk.injEq, and_true] at hb
  obtain ⟨rfl, rfl⟩ := hb
  rw [← e]
  exact range_at hr hi
theorem sums_ptr {w : World} {a : Option Addr} {n c : Nat} {S : List Sum} (h : SumsAt w (.slice a n c) S) {i : Nat} {t : Sum} (ht : S[i]? = some t) : ∃ b o, a = some ⟨b, o, none⟩ := by
  obtain ⟨a, cap, he, h1, h2, h3⟩ := h
  simp only [Value.slice.injEq] at he
  obtain ⟨rfl, -, -⟩ := he
  obtain ⟨hi, e⟩ := List.getElem?_eq_some_iff.1 ht
  obtain ⟨b', o', hb, hr⟩ := h3.resolve_left (by intro e; rw [e] at hi; simp at hi)
  exact ⟨b', o', hb⟩
theorem bit_ne (k : Sum) (i : Nat) : (Keys.kn k >>> i) % 2 = 1 ↔ (Keys.kn k).testBit i = true := by
  rw [shift_mod]; split <;> simp [*]
theorem bit_eq {k o : Sum} {i : Nat} : (Keys.kn k >>> i) % 2 = (Keys.kn o >>> i) % 2 ↔ (Keys.kn k).testBit i = (Keys.kn o).testBit i := by
  rw [shift_mod, shift_mod]
  cases (Keys.kn k).testBit i <;> cases (Keys.kn o).testBit i <;> simp
set_option maxRecDepth 100000 in
set_option maxHeartbeats 4000000 in
theorem showsNear_any (P : List Keys.Pr) (v : Value) (k : Sum) (mo : Sum) (w : World) (hv : PairsAt w v P) : Calls Try.prog 14 #[v, sv k, sv mo] w fun e w' => e = .returned (.bool true) ∧ Below w.heap.size w w' := by
  have hs1 : (w.alloc (.cells (cellsOf k).toArray 29)).heap.size = w.heap.size + 1 := Array.size_push _
  have hb0 := al (al (Below.refl _ w) (.cells (cellsOf k).toArray 29)) (.cells (cellsOf mo).toArray 29)
  have r1 := World.rangeAt_alloc (range_new w (cellsOf k).toArray 29 _ rfl) (.cells (cellsOf mo).toArray 29)
  have r2 := range_new (w.alloc (.cells (cellsOf k).toArray 29)) (cellsOf mo).toArray 29 _ rfl
  rw [hs1] at r2
  obtain ⟨z, hz⟩ : ∃ z, z = w.heap.size := ⟨_, rfl⟩
  obtain ⟨zm, hzm⟩ : ∃ z, z = w.heap.size + 1 := ⟨_, rfl⟩
  rw [← hz] at r1
  rw [← hzm] at r2
  have H0 := Lib.hid (And.intro hb0 (And.intro (And.intro r1 r2) (hv.below hb0)))
  have HZ := Lib.hid (And.intro hz hzm)
  clear r1 r2 hz hzm hs1
  clear hb0
  obtain ⟨a, cap, rfl, h1, h2⟩ := pairs_form hv
  obtain ⟨N, hN⟩ : ∃ N, N = P.length := ⟨_, rfl⟩
  rw [← hN] at H0 h1
  rw [← hN]
  have HN := Lib.hid hN
  clear hv hN h2
  go_enter Try.func14, Try.ntmps14
  go_wp2_with fail
  rw [← HZ.out.2, ← HZ.out.1]
  generalize (w.alloc (.cells (cellsOf k).toArray 29)).alloc (.cells (cellsOf mo).toArray 29) = W0 at *
  refine (great16_any P _ W0 H0.out.2.2).mono ?_
  rintro e W1 ⟨r, rfl, hr, hb⟩
  have HB1 := Lib.hid (H0.out.1.trans (hb.mono H0.out.1.size))
  have HR1 := Lib.hid (And.intro ((Keeps.of_below (X := fun _ => False) hb).range H0.out.2.1.1 (fun h => h)) (And.intro ((Keeps.of_below (X := fun _ => False) hb).range H0.out.2.1.2 (fun h => h)) (H0.out.2.2.below hb)))
  clear hb H0 HZ
  cases r with
  | true =>
    clear hr HR1
    go_wp2_with fail
    refine (alive16_any W1).mono ?_
    rintro e W2 ⟨rfl, hb2⟩
    have HB2 := Lib.hid (HB1.out.trans (hb2.mono HB1.out.size))
    clear hb2
    go_wp2_with fail
    exact bodyPost_ret (results_tmp rfl _ _ _) rfl ⟨rfl, HB2.out⟩
  | false =>
    have HP := Lib.hid (hr rfl)
    clear hr
    go_wp2_with fail
    refine (of16_any P _ W1 HR1.out.2.2 (by have := HP.out; omega)).mono ?_
    rintro e W2 ⟨p, b, l, x, rfl, hm, hp, _, hbb, _, hb⟩
    rw [← HN.out] at hm
    have H2 := Lib.hid (show LW w W2 p b N l [(z, k), (zm, mo)] [] [] from ⟨HB1.out.trans (hb.mono HB1.out.size), hm, by have := HB1.out.size; omega, fun q hq => by
      rcases List.mem_cons.1 hq with rfl | hq
      · exact (Keeps.of_below (X := fun _ => False) hb).range HR1.out.1 (fun h => h)
      · rw [List.mem_singleton.1 hq]; exact (Keeps.of_below (X := fun _ => False) hb).range HR1.out.2.1 (fun h => h), by simp, by simp⟩)
    have hl := puts_few hp HP.out
    have HL := Lib.hid (And.intro hp (And.intro hl (And.intro (sides_few k hp HP.out) (sides_few mo hp HP.out))))
    clear hm hp hb HB1 HR1 hl hbb
    go_wp2_with (refine wpList_load_sum rfl _ rfl z 0 rfl k (H2.out.r (z, k) (by simp)) ?_)
    refine (sof_any k W2 p b N l H2.out.map (by have := HL.out.2.1; omega)).mono ?_
    rintro e W4 ⟨which, vS, rfl, hS4, hB4, hb⟩
    obtain ⟨S, hS⟩ : ∃ S, S = sidesOf (tells k 256 (prs l)) := ⟨_, rfl⟩
    have hsf := HL.out.2.2.1
    have hsm := hS4.sums
    rw [← hS] at hsm hsf
    have HBT := Lib.hid (And.intro hS hB4)
    obtain ⟨aS, cS, rfl, hf1, hf2⟩ := sums_form hsm
    obtain ⟨M, hM⟩ : ∃ M, M = S.length := ⟨_, rfl⟩
    rw [← hM] at hf1 hsm hsf
    rw [← hM]
    have H4 := Lib.hid (And.intro (H2.out.below hb) hsm)
    have HK := Lib.hid (And.intro hM hsf)
    clear hS4 hB4 hb hS hf2 hM H2 hsf hsm
    have k1 : (M : Int) ≤ (cS : Int) := by omega
    have HG := Lib.hid trivial
    go_wp2_with (first
      | (have _ := HG; refine wpList_var_show (by rfl) rfl _ _ rfl which (.slice aS M cS) (by rfl) rfl rfl ?_; intro W5 hb hr; obtain ⟨z9, hz9⟩ : ∃ x, x = W4.heap.size := ⟨_, rfl⟩; rw [← hz9] at hr ⊢; have H5 := Lib.hid ((H4.out.1.below hb).addS hr (H4.out.2.below hb (Nat.le_refl _))); clear HG hb hr hz9 H4)
      | (have _ := H5; refine wpList_load_sum rfl _ rfl zm 0 rfl mo (H5.out.r (zm, mo) (by simp)) ?_))
    refine (sof_any mo W5 p b N l H5.out.map (by have := HL.out.2.1; omega)).mono ?_
    rintro e W6 ⟨which2, vT, rfl, hS4, hB4, hb⟩
    obtain ⟨S2, hS2⟩ : ∃ S, S = sidesOf (tells mo 256 (prs l)) := ⟨_, rfl⟩
    have hsf := HL.out.2.2.2
    have hsm := hS4.sums
    rw [← hS2] at hsm hsf
    have HBT2 := Lib.hid (And.intro hS2 hB4)
    obtain ⟨aT, cT, rfl, hf3, hf2⟩ := sums_form hsm
    obtain ⟨MT, hMT⟩ : ∃ M, M = S2.length := ⟨_, rfl⟩
    rw [← hMT] at hf3 hsm hsf
    rw [← hMT]
    have H6 := Lib.hid (And.intro (H5.out.below hb) hsm)
    have HK2 := Lib.hid (And.intro hMT hsf)
    clear hS4 hB4 hb hS2 hf2 hMT H5 hsf hsm
    have k2 : (MT : Int) ≤ (cT : Int) := by omega
    have HG := Lib.hid trivial
    go_wp2_with (have _ := HG; refine wpList_var_show (by rfl) rfl _ _ rfl which2 (.slice aT MT cT) (by rfl) rfl rfl ?_; intro W7 hb hr; obtain ⟨z11, hz11⟩ : ∃ x, x = W6.heap.size := ⟨_, rfl⟩; rw [← hz11] at hr ⊢; have H7 := Lib.hid ((H6.out.1.below hb).addS hr (H6.out.2.below hb (Nat.le_refl _))); clear HG hb hr hz11 H6)
    clear hf1 hf3
    go_loopw [13, 14, 15] (fun av iv sv_ W => ∃ (j at_ : Nat), j ≤ 256 ∧ iv = .int .i64 (j : Int) ∧ av = .int .i64 (at_ : Int) ∧ (∀ i, i < j → (Keys.kn k).testBit (255 - i) = (Keys.kn mo).testBit (255 - i)) ∧ at_ = (sidesOf ((tells k 256 (prs l)).take j)).length ∧ LW w W p b N l [(z, k), (zm, mo)] [] [(z11, which2, .slice aT MT cT, S2), (z9, which, .slice aS M cS, S)]) (fun _ iv _ _ => 256 - (intOf iv).toNat)
    case atStart => exact ⟨0, 0, by omega, rfl, rfl, fun i hi => by omega, rfl, H7.out⟩
    case round =>
      clear H7
      obtain ⟨j, at_, hj, rfl, rfl, hag, hat, hS⟩ := hrel
      have H7 := Lib.hid hS
      have HA := Lib.hid (And.intro hag hat)
      clear hS hag hat
      by_cases hlt : j < 256
      · have c1 : decide (j < 256) = true := by simpa using hlt
        have c1' : decide ((j : Int) < 256) = true := by simp; omega
        have HJ := Lib.hid hlt
        clear hj hlt
        obtain ⟨q1, hq1⟩ : ∃ q, q = (Keys.kn k >>> (255 - j)) % 2 := ⟨_, rfl⟩
        obtain ⟨q2, hq2⟩ : ∃ q, q = (Keys.kn mo >>> (255 - j)) % 2 := ⟨_, rfl⟩
        have HQ := Lib.hid (And.intro hq1 hq2)
        clear hq1 hq2
        go_wp2_with fail
        refine wp_region_sched (fun V => LW w V p b N l [(z, k), (zm, mo)] [] [(z11, which2, .slice aT MT cT, S2), (z9, which, .slice aS M cS, S)]) [.t 0, .t 1, .t 2, .t 4, .t 7, .s 3, .s 6, .e 5 true, .e 8 false, .t 9, .t 10] (by kernel_rfl) (by kernel_rfl) (by intro c a d v w h; cases d <;> exact h) ?_
        have HS := Lib.hid (H7.out.below (Below.refl _ _).drew)
        clear H7
        generalize World.drew _ = V at *
        iterate 5
          refine wpS_t rfl (v := ?_) (by rfl) (fun W => ?_) ?_
          rotate_left
          · go_simp
            try rfl
          try simp only [Act.put, List.setIfInBounds_toArray, List.set_cons_zero, List.set_cons_succ]
        refine wpS_load_sum (by exact HS.out) rfl (by rfl) _ (by rfl) z 0 (by rfl) k (fun W hW => hW.r (z, k) (by simp)) ?_
        try simp only [Act.put, List.setIfInBounds_toArray, List.set_cons_zero, List.set_cons_succ]
        refine wpS_load_sum (by exact HS.out) rfl (by rfl) _ (by rfl) zm 0 (by rfl) mo (fun W hW => hW.r (zm, mo) (by simp)) ?_
        try simp only [Act.put, List.setIfInBounds_toArray, List.set_cons_zero, List.set_cons_succ]
        refine wpS_k rfl (by rfl) (fun K hK => ?_)
        go_simp
        have hc := bit_any k j V HJ.out
        rw [← HQ.out.1] at hc
        refine hc.mono ?_
        clear hc
        rintro e V1 ⟨rfl, hb⟩
        have HS1 := Lib.hid (HS.out.below hb)
        clear hb HS
        refine hK _ _ ⟨by exact HS1.out, ?_⟩; clear hK K
        try simp only [Act.put, List.setIfInBounds_toArray, List.set_cons_zero, List.set_cons_succ]
        refine wpS_e rfl (by rfl) (fun K hK => ?_)
        go_simp
        have hc := bit_any mo j V1 HJ.out
        rw [← HQ.out.2] at hc
        refine hc.mono ?_
        clear hc
        rintro e V2 ⟨rfl, hb⟩
        have HS2 := Lib.hid (HS1.out.below hb)
        clear hb HS1
        refine hK _ _ ?_; clear hK K
        try simp only [Act.put, List.setIfInBounds_toArray, List.set_cons_zero, List.set_cons_succ]
        have hbe := @bit_eq k mo (255 - j)
        rw [← HQ.out.1, ← HQ.out.2] at hbe
        by_cases hqq : q1 = q2
        · have hbk := hbe.1 hqq
          subst hqq
          have hall : ∀ i, i ≤ j → (Keys.kn k).testBit (255 - i) = (Keys.kn mo).testBit (255 - i) := fun i hi => by
            rcases Nat.lt_or_ge i j with h | h
            · exact HA.out.1 i h
            · rw [show i = j by omega]; exact hbk
          have htk := tells_near (k := k) (o := mo) 256 (prs l) j hall HJ.out
          have HTK := Lib.hid (And.intro hall htk)
          clear hbe hbk hall htk
          iterate 2
            refine wpS_t rfl (v := ?_) (by rfl) (fun W => ?_) ?_
            rotate_left
            · go_simp
              try rfl
            try simp only [Act.put, List.setIfInBounds_toArray, List.set_cons_zero, List.set_cons_succ]
          refine wpS_done ?_
          go_wp2_with (refine wpList_load_sum rfl _ rfl z9 0 rfl which (which_show (HS2.out.s (z9, which, .slice aS M cS, S) (by simp)).1) ?_)
          refine (bit_any which j V2 HJ.out).mono ?_
          rintro e V3 ⟨rfl, hb⟩
          have HS3 := Lib.hid (HS2.out.below hb)
          clear hb HS2
          have hT1 : (tells k 256 (prs l))[j]? = (tells mo 256 (prs l))[j]? := by
            have h := congrArg (fun x => x[j]?) HTK.out.2
            simp only [List.getElem?_take_of_lt (Nat.lt_succ_self j)] at h
            exact h
          have hlen : j < (tells k 256 (prs l)).length := by rw [length_tells]; exact HJ.out
          obtain ⟨x1, hx1⟩ : ∃ x, (tells k 256 (prs l))[j]? = some x := ⟨_, List.getElem?_eq_getElem hlen⟩
          have hx2 : (tells mo 256 (prs l))[j]? = some x1 := by rw [← hT1]; exact hx1
          have hb1 : (Keys.kn which).testBit (255 - j) = x1.isSome := by
            have h := HBT.out.2 j HJ.out
            rw [List.getD_eq_getElem?_getD, hx1] at h
            exact h
          have hb2 : (Keys.kn which2).testBit (255 - j) = x1.isSome := by
            have h := HBT2.out.2 j HJ.out
            rw [List.getD_eq_getElem?_getD, hx2] at h
            exact h
          have hw1 : (Keys.kn which >>> (255 - j)) % 2 = if x1.isSome = true then 1 else 0 := by rw [shift_mod, hb1]
          have hw2 : (Keys.kn which2 >>> (255 - j)) % 2 = if x1.isSome = true then 1 else 0 := by rw [shift_mod, hb2]
          rw [hw1]
          have HW2 := Lib.hid hw2
          have HX := Lib.hid (And.intro hx1 hx2)
          clear hT1 hlen hx1 hx2 hb1 hb2 hw1 hw2
          have hwj : wrap64 ((j : Int) + 1) = ((j + 1 : Nat) : Int) := by have := HJ.out; unfold wrap64; omega
          have HWJ := Lib.hid hwj
          clear hwj
          cases x1 with
          | none =>
            have e0 : (if (none : Option Sum).isSome = true then 1 else 0 : Nat) = 0 := rfl
            rw [e0] at HW2 ⊢
            clear e0
            go_wp2_with (refine wpList_load_sum rfl _ rfl z11 0 rfl which2 (which_show (HS3.out.s (z11, which2, .slice aT MT cT, S2) (by simp)).1) ?_)
            refine (bit_any which2 j V3 HJ.out).mono ?_
            rw [HW2.out]
            rintro e V4 ⟨rfl, hb⟩
            have HS4 := Lib.hid (HS3.out.below hb)
            clear hb HS3
            go_wp2_with fail
            try rw [HWJ.out]
            exact ⟨⟨j + 1, at_, by have := HJ.out; omega, rfl, rfl, fun i hi => HTK.out.1 i (by omega), by rw [sides_no HX.out.1]; exact HA.out.2, HS4.out⟩, by simp only [intOf]; have := HJ.out; omega⟩
          | some t =>
            have e0 : (if (some t : Option Sum).isSome = true then 1 else 0 : Nat) = 1 := rfl
            rw [e0] at HW2 ⊢
            clear e0
            go_wp2_with (refine wpList_load_sum rfl _ rfl z11 0 rfl which2 (which_show (HS3.out.s (z11, which2, .slice aT MT cT, S2) (by simp)).1) ?_)
            refine (bit_any which2 j V3 HJ.out).mono ?_
            rw [HW2.out]
            rintro e V4 ⟨rfl, hb⟩
            have HS4 := Lib.hid (HS3.out.below hb)
            clear hb HS3
            have ha1 := sides_at HX.out.1
            have ha2 := sides_at HX.out.2
            have heq : (sidesOf ((tells mo 256 (prs l)).take j)).length = at_ := by
              rw [HA.out.2]
              have h := congrArg (fun x => (sidesOf (x.take j)).length) HTK.out.2
              simp only [List.take_take, Nat.min_eq_left (Nat.le_succ j)] at h
              exact h.symm
            rw [heq, ← HBT2.out.1] at ha2
            rw [← HA.out.2, ← HBT.out.1] at ha1
            have hat1 : at_ < M := by rw [HK.out.1]; exact (List.getElem?_eq_some_iff.1 ha1.1).1
            have hat2 : at_ < MT := by rw [HK2.out.1]; exact (List.getElem?_eq_some_iff.1 ha2.1).1
            obtain ⟨bS, oS, rfl⟩ := sums_ptr (HS4.out.s (z9, which, .slice aS M cS, S) (by simp)).2 ha1.1
            obtain ⟨bT, oT, rfl⟩ := sums_ptr (HS4.out.s (z11, which2, .slice aT MT cT, S2) (by simp)).2 ha2.1
            have HAT := Lib.hid (And.intro ha1 ha2.1)
            have hmb : M ≤ 16 := HK.out.2
            clear heq ha1 ha2
            have hwa : wrap64 ((at_ : Int) + 1) = ((at_ + 1 : Nat) : Int) := by unfold wrap64; omega
            have HWA := Lib.hid hwa
            have g1 : decide (M ≤ at_) = false := decide_eq_false (Nat.not_le.2 hat1)
            have g1' : decide ((M : Int) ≤ (at_ : Int)) = false := decide_eq_false (Int.not_le.2 (Int.ofNat_lt.2 hat1))
            have g2 : decide (MT ≤ at_) = false := decide_eq_false (Nat.not_le.2 hat2)
            have g2' : decide ((MT : Int) ≤ (at_ : Int)) = false := decide_eq_false (Int.not_le.2 (Int.ofNat_lt.2 hat2))
            have a0 : (0 : Int) ≤ (at_ : Int) := Int.natCast_nonneg _
            have a1 : (at_ : Int) < (M : Int) := Int.ofNat_lt.2 hat1
            have a2 : (at_ : Int) < (MT : Int) := Int.ofNat_lt.2 hat2
            clear hat1 hat2 hmb hwa
            go_wp2_with fail
            refine wp_region_sched (fun V => LW w V p b N l [(z, k), (zm, mo)] [] [(z11, which2, .slice (some ⟨bT, oT, none⟩) MT cT, S2), (z9, which, .slice (some ⟨bS, oS, none⟩) M cS, S)]) [.t 0, .t 1, .e 2 true, .t 3, .t 4, .t 5, .t 6, .t 7, .e 8 true, .t 9, .t 10, .t 11, .t 12, .t 13, .t 15, .t 18, .t 20, .s 14, .t 16, .s 17, .e 19 true, .t 21, .e 22 true, .t 23, .t 24] (by kernel_rfl) (by kernel_rfl) (by intro c a d v w h; cases d <;> exact h) ?_
            have HS5 := Lib.hid (HS4.out.below (Below.refl _ _).drew)
            clear HS4
            generalize World.drew _ = V5 at *
            have hes := eq_sums_same t
            iterate 2
              refine wpS_t rfl (v := ?_) (by rfl) (fun W => ?_) ?_
              rotate_left
              · go_simp
                try rfl
              try simp only [Act.put, List.setIfInBounds_toArray, List.set_cons_zero, List.set_cons_succ]
            refine wpS_k rfl (by rfl) (fun K hK => ?_)
            have g := cell_show (HS5.out.s (z9, which, .slice (some ⟨bS, oS, none⟩) M cS, S) (by simp)).1
            go_simp
            refine hK _ _ ⟨by exact HS5.out, ?_⟩; clear hK K
            try simp only [Act.put, List.setIfInBounds_toArray, List.set_cons_zero, List.set_cons_succ]
            clear g
            iterate 5
              refine wpS_t rfl (v := ?_) (by rfl) (fun W => ?_) ?_
              rotate_left
              · go_simp
                try rfl
              try simp only [Act.put, List.setIfInBounds_toArray, List.set_cons_zero, List.set_cons_succ]
            refine wpS_k rfl (by rfl) (fun K hK => ?_)
            have g := cell_show (HS5.out.s (z11, which2, .slice (some ⟨bT, oT, none⟩) MT cT, S2) (by simp)).1
            go_simp
            refine hK _ _ ⟨by exact HS5.out, ?_⟩; clear hK K
            try simp only [Act.put, List.setIfInBounds_toArray, List.set_cons_zero, List.set_cons_succ]
            clear g
            iterate 8
              refine wpS_t rfl (v := ?_) (by rfl) (fun W => ?_) ?_
              rotate_left
              · go_simp
                try rfl
              try simp only [Act.put, List.setIfInBounds_toArray, List.set_cons_zero, List.set_cons_succ]
            refine wpS_s (by exact HS5.out) rfl (v := .slice (some ⟨bS, oS, none⟩) M cS) (by rfl) (fun W hW => ?_) ?_
            · have g := cell_show (hW.s (z9, which, .slice (some ⟨bS, oS, none⟩) M cS, S) (by simp)).1
              go_simp
            try simp only [Act.put, List.setIfInBounds_toArray, List.set_cons_zero, List.set_cons_succ]
            iterate 1
              refine wpS_t rfl (v := ?_) (by rfl) (fun W => ?_) ?_
              rotate_left
              · go_simp
                try rfl
              try simp only [Act.put, List.setIfInBounds_toArray, List.set_cons_zero, List.set_cons_succ]
            refine wpS_load_sum (by exact HS5.out) rfl (by rfl) _ (by rfl) bS (oS + at_ * 32) (by rfl) t (fun W hW => sums_elem (hW.s (z9, which, .slice (some ⟨bS, oS, none⟩) M cS, S) (by simp)).2 HAT.out.1.1) ?_
            try simp only [Act.put, List.setIfInBounds_toArray, List.set_cons_zero, List.set_cons_succ]
            refine wpS_k rfl (by rfl) (fun K hK => ?_)
            have g := cell_show (HS5.out.s (z11, which2, .slice (some ⟨bT, oT, none⟩) MT cT, S2) (by simp)).1
            go_simp
            refine hK _ _ ⟨by exact HS5.out, ?_⟩; clear hK K
            try simp only [Act.put, List.setIfInBounds_toArray, List.set_cons_zero, List.set_cons_succ]
            clear g
            iterate 1
              refine wpS_t rfl (v := ?_) (by rfl) (fun W => ?_) ?_
              rotate_left
              · go_simp
                try rfl
              try simp only [Act.put, List.setIfInBounds_toArray, List.set_cons_zero, List.set_cons_succ]
            refine wpS_k rfl (by rfl) (fun K hK => ?_)
            refine wp_load_sum _ (by rfl) bT (oT + at_ * 32) (by rfl) t (sums_elem (HS5.out.s (z11, which2, .slice (some ⟨bT, oT, none⟩) MT cT, S2) (by simp)).2 HAT.out.2) ?_
            refine hK _ _ ⟨by exact HS5.out, ?_⟩; clear hK K
            try simp only [Act.put, List.setIfInBounds_toArray, List.set_cons_zero, List.set_cons_succ]
            iterate 2
              refine wpS_t rfl (v := ?_) (by rfl) (fun W => ?_) ?_
              rotate_left
              · go_simp
                try rfl
              try simp only [Act.put, List.setIfInBounds_toArray, List.set_cons_zero, List.set_cons_succ]
            refine wpS_done ?_
            go_wp2_with fail
            try rw [HWA.out]
            try rw [HWJ.out]
            exact ⟨⟨j + 1, at_ + 1, by have := HJ.out; omega, rfl, rfl, fun i hi => HTK.out.1 i (by omega), by rw [(sides_at HX.out.1).2, ← HA.out.2], HS5.out⟩, by simp only [intOf]; have := HJ.out; omega⟩
        · have n1 : ((q1 : Int) == (q2 : Int)) = false := by rw [beq_eq_false_iff_ne]; omega
          have n2 : decide (q1 = q2) = false := by simpa using hqq
          have n3 : decide ((q1 : Int) = (q2 : Int)) = false := by simp; omega
          clear hbe
          iterate 2
            refine wpS_t rfl (v := ?_) (by rfl) (fun W => ?_) ?_
            rotate_left
            · go_simp
              try rfl
            try simp only [Act.put, List.setIfInBounds_toArray, List.set_cons_zero, List.set_cons_succ]
          refine wpS_done ?_
          go_wp2_with fail
          refine (alive16_any V2).mono ?_
          rintro e V3 ⟨rfl, hb⟩
          have HB3 := Lib.hid (HS2.out.bw.trans (hb.mono HS2.out.bw.size))
          clear hb
          go_wp2_with fail
          exact bodyPost_ret (results_tmp rfl _ _ _) rfl ⟨rfl, HB3.out⟩
      · have hj' : j = 256 := by omega
        subst hj'
        clear hlt hj
        go_wp2_with fail
        refine wp_region_sched (fun V => True) [.t 0, .t 1, .t 2, .t 4, .t 7, .s 3, .s 6, .e 5 true, .e 8 false, .t 9, .t 10] (by kernel_rfl) (by kernel_rfl) (by intro c a d v w h; cases d <;> exact h) ?_
        have HS := Lib.hid (H7.out.below (Below.refl _ _).drew)
        clear H7
        generalize World.drew _ = V at *
        iterate 3
          refine wpS_t rfl (v := ?_) (by rfl) (fun W => ?_) ?_
          rotate_left
          · go_simp
            try rfl
          try simp only [Act.put, List.setIfInBounds_toArray, List.set_cons_zero, List.set_cons_succ]
        iterate 2
          refine wpS_t_skip rfl (by rfl) ?_
          try simp only [Act.put, List.setIfInBounds_toArray, List.set_cons_zero, List.set_cons_succ]
        iterate 2
          refine wpS_s_skip (trivial) rfl (by rfl) ?_
          try simp only [Act.put, List.setIfInBounds_toArray, List.set_cons_zero, List.set_cons_succ]
        refine wpS_k_skip (trivial) rfl (by rfl) ?_
        try simp only [Act.put, List.setIfInBounds_toArray, List.set_cons_zero, List.set_cons_succ]
        refine wpS_e_skip rfl (by rfl) ?_
        try simp only [Act.put, List.setIfInBounds_toArray, List.set_cons_zero, List.set_cons_succ]
        iterate 1
          refine wpS_t_skip rfl (by rfl) ?_
          try simp only [Act.put, List.setIfInBounds_toArray, List.set_cons_zero, List.set_cons_succ]
        iterate 1
          refine wpS_t rfl (v := ?_) (by rfl) (fun W => ?_) ?_
          rotate_left
          · go_simp
            try rfl
          try simp only [Act.put, List.setIfInBounds_toArray, List.set_cons_zero, List.set_cons_succ]
        refine wpS_done ?_
        go_wp2_with fail
        refine (alive16_any V).mono ?_
        rintro e V3 ⟨rfl, hb⟩
        have HB3 := Lib.hid (HS.out.bw.trans (hb.mono HS.out.bw.size))
        clear hb
        go_wp2_with fail
        exact bodyPost_ret (results_tmp rfl _ _ _) rfl ⟨rfl, HB3.out⟩
end Go.Proofs.Ytfmgoehnbaiamaa
-- Plain law: ways down to a key (splits): where two of one root part there is a clash.
namespace Go.Proofs.Ytfmgoehnbaiamaa
open Keys (Rise Pr kn)
/-- What stands at a key, as it is summed up. -/
def endB (k : Sum) (v : List UInt8) : List UInt8 := if v = [] then [2] else 3 :: (k.toList ++ v)
theorem sha_end (k : Sum) (v : List UInt8) : sha (endB k v) = vl k v := by
  rw [vl_eq]; unfold endB
  by_cases h : v = []
  · simp only [if_pos h]
  · simp only [if_neg h]
theorem endB_inj {k : Sum} {v v' : List UInt8} (h : endB k v = endB k v') : v = v' := by
  unfold endB at h
  by_cases h1 : v = []
  · by_cases h2 : v' = []
    · rw [h1, h2]
    · rw [if_pos h1, if_neg h2] at h
      exact absurd (List.cons.inj h).1 (by decide)
  · by_cases h2 : v' = []
    · rw [if_neg h1, if_pos h2] at h
      exact absurd (List.cons.inj h).1 (by decide)
    · rw [if_neg h1, if_neg h2] at h
      exact List.append_cancel_left (List.cons.inj h).2
/-- What both sides sum up. -/
def sideB (p : Sum × Sum) : List UInt8 := 4 :: (p.1.toList ++ p.2.toList)
theorem sha_side (p : Sum × Sum) : sha (sideB p) = sd p.1 p.2 := by rw [sd_eq]; rfl
theorem sideB_inj {p q : Sum × Sum} (h : sideB p = sideB q) : p = q := by
  unfold sideB at h
  have h1 := (List.cons.inj h).2
  have hl : p.1.toList.length = q.1.toList.length := by simp
  obtain ⟨h2, h3⟩ := List.append_inj h1 hl
  exact Prod.ext (Vector.toList_inj.1 h2) (Vector.toList_inj.1 h3)
/-- Up a way, by what stands beside, from above. -/
noncomputable def wayUp (k : Sum) : Nat → List Sum → Sum → Sum
  | n + 1, t :: T, x => join k n t (wayUp k n T x)
  | _, _, x => x
/-- Both sides at a height. -/
def both (k : Sum) (n : Nat) (t x : Sum) : Sum × Sum := if (kn k).testBit n then (t, x) else (x, t)
theorem join_both (k : Sum) (n : Nat) (t x : Sum) : join k n t x = sd (both k n t x).1 (both k n t x).2 := by
  unfold join both
  by_cases h : (kn k).testBit n = true
  · rw [if_pos h, if_pos h]
  · rw [if_neg h, if_neg h]
theorem both_inj {k : Sum} {n : Nat} {t x t' x' : Sum} (h : both k n t x = both k n t' x') : t = t' ∧ x = x' := by
  unfold both at h
  by_cases hb : (kn k).testBit n = true
  · rw [if_pos hb, if_pos hb] at h; exact ⟨(Prod.mk.inj h).1, (Prod.mk.inj h).2⟩
  · rw [if_neg hb, if_neg hb] at h; exact ⟨(Prod.mk.inj h).2, (Prod.mk.inj h).1⟩
/-- Both sides at each depth, from above. -/
noncomputable def boths (k : Sum) : Nat → List Sum → Sum → List (Sum × Sum)
  | n + 1, t :: T, x => both k n t (wayUp k n T x) :: boths k n T x
  | _, _, _ => []
theorem length_boths (k : Sum) (x : Sum) : ∀ n T, T.length = n → (boths k n T x).length = n
  | 0, _, _ => by unfold boths; rfl
  | n + 1, t :: T, h => by rw [boths, List.length_cons, length_boths k x n T (by simpa using h)]
/-- What a way sums up, from above. -/
def steps (L : List (Sum × Sum)) (e : List UInt8) : List (List UInt8) := L.map sideB ++ [e]
/-- Where two ways part. -/
def part : List (List UInt8) → List (List UInt8) → Option (List UInt8 × List UInt8)
  | a :: A, b :: B => if a = b then part A B else some (a, b)
  | _, _ => none
theorem part_same : ∀ A, part A A = none
  | [] => rfl
  | a :: A => by rw [part, if_pos rfl, part_same A]
theorem part_clash (k : Sum) (e e' : List UInt8) (x x' : Sum) (hx : sha e = x) (hx' : sha e' = x') : ∀ n (T T' : List Sum), T.length = n → T'.length = n → wayUp k n T x = wayUp k n T' x' →
    ∀ a b, part (steps (boths k n T x) e) (steps (boths k n T' x') e') = some (a, b) → a ≠ b ∧ sha a = sha b := by
  intro n
  induction n with
  | zero =>
    intro T T' h1 h2 h a b hp
    unfold boths steps at hp
    unfold wayUp at h
    simp only [List.map_nil, List.nil_append, part] at hp
    by_cases he : e = e'
    · rw [if_pos he] at hp; cases hp
    · rw [if_neg he] at hp
      simp only [Option.some.injEq, Prod.mk.injEq] at hp
      rw [← hp.1, ← hp.2, hx, hx']
      exact ⟨he, h⟩
  | succ n ih =>
    intro T T' h1 h2 h a b hp
    match T, T', h1, h2 with
    | t :: T, t' :: T', h1, h2 =>
      rw [wayUp, wayUp, join_both, join_both] at h
      rw [boths, boths] at hp
      unfold steps at hp
      rw [List.map_cons, List.map_cons, List.cons_append, List.cons_append, part] at hp
      by_cases hs : sideB (both k n t (wayUp k n T x)) = sideB (both k n t' (wayUp k n T' x'))
      · rw [if_pos hs] at hp
        exact ih T T' (by simpa using h1) (by simpa using h2) (both_inj (sideB_inj hs)).2 a b hp
      · rw [if_neg hs] at hp
        simp only [Option.some.injEq, Prod.mk.injEq] at hp
        rw [← hp.1, ← hp.2, sha_side, sha_side]
        exact ⟨hs, h⟩
theorem part_ends {e e' : List UInt8} (he : e ≠ e') : ∀ (L L' : List (Sum × Sum)), L.length = L'.length → part (steps L e) (steps L' e') ≠ none
  | [], [], _ => by
    unfold steps
    simp only [List.map_nil, List.nil_append, part]
    rw [if_neg he]; simp
  | p :: L, q :: L', h => by
    have ih := part_ends he L L' (by simpa using h)
    unfold steps at ih ⊢
    rw [List.map_cons, List.map_cons, List.cons_append, List.cons_append, part]
    by_cases hs : sideB p = sideB q
    · rw [if_pos hs]; exact ih
    · rw [if_neg hs]; simp
/-! ### a show's way -/
/-- What stands beside, by a show, and the sides that are left; none: there were too few. -/
noncomputable def leadsT (which : Sum) : Nat → List Sum → Option (List Sum × List Sum)
  | 0, S => some ([], S)
  | n + 1, S => match leadsT which n S with
    | none => none
    | some (T, S') => if (kn which).testBit n then (if S' = [] then none else some (S'.getLast?.getD zeroSum :: T, S'.dropLast)) else some (em n :: T, S')
theorem run_leads (k which x : Sum) (S : List Sum) : ∀ n,
    (∀ T S', leadsT which n S = some (T, S') → runC k which n (x, S, false) = (wayUp k n T x, S', false) ∧ T.length = n) ∧ (leadsT which n S = none → (runC k which n (x, S, false)).2.2 = true)
  | 0 => by
    refine ⟨fun T S' h => ?_, fun h => (by cases h)⟩
    rw [leadsT] at h
    simp only [Option.some.injEq, Prod.mk.injEq] at h
    obtain ⟨h1, h2⟩ := h
    rw [← h1, ← h2]
    exact ⟨rfl, rfl⟩
  | n + 1 => by
    obtain ⟨i1, i2⟩ := run_leads k which x S n
    cases hl : leadsT which n S with
    | none =>
      have h3 := i2 hl
      refine ⟨fun T S' h => ?_, fun _ => ?_⟩
      · rw [leadsT, hl] at h; cases h
      · rw [runC, stepC]
        split
        · rw [if_pos (.inl h3)]
        · exact h3
    | some p =>
      obtain ⟨T0, S0⟩ := p
      obtain ⟨h3, h4⟩ := i1 T0 S0 hl
      have e : leadsT which (n + 1) S = if (kn which).testBit n then (if S0 = [] then none else some (S0.getLast?.getD zeroSum :: T0, S0.dropLast)) else some (em n :: T0, S0) := by rw [leadsT, hl]
      rw [e, runC, stepC, h3]
      by_cases hb : (kn which).testBit n = true
      · rw [if_pos hb, if_pos hb]
        by_cases hS : S0 = []
        · rw [if_pos hS, if_pos (.inr hS)]
          exact ⟨fun T S' h => (by cases h), fun _ => rfl⟩
        · rw [if_neg hS, if_neg (by simpa using hS)]
          refine ⟨fun T S' h => ?_, fun h => (by cases h)⟩
          simp only [Option.some.injEq, Prod.mk.injEq] at h
          obtain ⟨rfl, rfl⟩ := h
          exact ⟨rfl, by rw [List.length_cons, h4]⟩
      · rw [if_neg hb, if_neg hb]
        refine ⟨fun T S' h => ?_, fun h => (by cases h)⟩
        simp only [Option.some.injEq, Prod.mk.injEq] at h
        obtain ⟨rfl, rfl⟩ := h
        exact ⟨rfl, by rw [List.length_cons, h4]⟩
/-- The way of a show, if it has as many sides as it wants. -/
noncomputable def leadsTo (which : Sum) (S : List Sum) : Option (List Sum) := match leadsT which 256 S with | some (T, []) => some T | _ => none
theorem leads_length {which : Sum} {S T : List Sum} (h : leadsTo which S = some T) : T.length = 256 := by
  unfold leadsTo at h
  cases hl : leadsT which 256 S with
  | none => rw [hl] at h; cases h
  | some p =>
    obtain ⟨T0, S0⟩ := p
    rw [hl] at h
    cases S0 with
    | nil =>
      simp only [Option.some.injEq] at h
      rw [← h]
      exact ((run_leads zeroSum which zeroSum S 256).1 T0 [] hl).2
    | cons s r => cases h
theorem check_leads (root k : Sum) (v : List UInt8) (which : Sum) (S : List Sum) : checkOf root k v which S = match leadsTo which S with | some T => decide (wayUp k 256 T (vl k v) = root) | none => false := by
  unfold leadsTo checkOf
  obtain ⟨h1, h2⟩ := run_leads k which (vl k v) S 256
  cases hl : leadsT which 256 S with
  | none => simp [h2 hl]
  | some p =>
    obtain ⟨T0, S0⟩ := p
    rw [(h1 T0 S0 hl).1]
    cases S0 with
    | nil => simp
    | cons s r => simp
/-! ### the way to a key, of pairs -/
noncomputable def besides (k : Sum) : Nat → List Pr → List Sum
  | 0, _ => []
  | n + 1, l => atH n (oth k n l) :: besides k n (mine k n l)
theorem length_besides (k : Sum) : ∀ n l, (besides k n l).length = n
  | 0, _ => rfl
  | n + 1, l => by rw [besides, List.length_cons, length_besides k n]
theorem up_besides {k : Sum} : ∀ (n : Nat) (l : List Pr), Rise l → Near k n l → wayUp k n (besides k n l) (vl k (Keys.get l k)) = atH n l
  | 0, l, hr, hn => by rw [atH_own hr hn]; rfl
  | n + 1, l, hr, hn => by
    rw [besides, wayUp, atH_succ k n l, ← get_mine (k := k) (n := n) hr, up_besides n (mine k n l) (rise_mine hr) hn.mine]
theorem up_root {k : Sum} {l : List Pr} (hr : Rise l) : wayUp k 256 (besides k 256 l) (vl k (Keys.get l k)) = rootOf l := up_besides 256 l hr (near_top k l)
/-- What is under a key. -/
def under (k : Sum) : Nat → List Pr → List Pr
  | 0, l => l
  | n + 1, l => under k n (mine k n l)
theorem end_under {k : Sum} : ∀ (n : Nat) (l : List Pr), Rise l → Near k n l → Keys.get l k = match under k n l with | [] => [] | p :: _ => p.2
  | 0, l, hr, hn => by
    rw [under]
    cases l with
    | nil => rfl
    | cons p r =>
      have e : p.1 = k := Keys.kn_inj (by simpa using hn p List.mem_cons_self)
      have := Keys.get_mem hr (List.mem_cons_self (a := p) (l := r))
      rw [e] at this
      exact this
  | n + 1, l, hr, hn => by
    rw [under, ← get_mine (k := k) (n := n) hr]
    exact end_under n _ (rise_mine hr) hn.mine
/-! ### two lists of pairs -/
/-- May pairs be? -/
def May (l : List Pr) : Prop := Rise l ∧ ∀ p ∈ l, p.2 ≠ []
/-- The first key at which two have unlike bytes. -/
def otherK : List Pr → List Pr → Option Sum
  | [], [] => none
  | p :: _, [] => some p.1
  | [], q :: _ => some q.1
  | p :: a, q :: b => if kn p.1 < kn q.1 then some p.1 else if p.1 ≠ q.1 ∨ p.2 ≠ q.2 then some q.1 else otherK a b
theorem other_same : ∀ a, otherK a a = none
  | [] => rfl
  | p :: a => by rw [otherK, if_neg (Nat.lt_irrefl _), if_neg (by simp), other_same a]
theorem other_none : ∀ {a b : List Pr}, otherK a b = none → a = b
  | [], [], _ => rfl
  | p :: a, [], h => by rw [otherK] at h; cases h
  | [], q :: b, h => by rw [otherK] at h; cases h
  | p :: a, q :: b, h => by
    rw [otherK] at h
    by_cases h1 : kn p.1 < kn q.1
    · rw [if_pos h1] at h; cases h
    · rw [if_neg h1] at h
      by_cases h2 : p.1 ≠ q.1 ∨ p.2 ≠ q.2
      · rw [if_pos h2] at h; cases h
      · rw [if_neg h2] at h
        have h3 : p.1 = q.1 := Classical.byContradiction fun e => h2 (.inl e)
        have h4 : p.2 = q.2 := Classical.byContradiction fun e => h2 (.inr e)
        rw [other_none h, Prod.ext h3 h4]
theorem May.tail {p : Pr} {l : List Pr} (h : May (p :: l)) : May l := ⟨(List.pairwise_cons.1 h.1).2, fun q hq => h.2 q (List.mem_cons_of_mem _ hq)⟩
theorem get_head {p : Pr} {l : List Pr} (h : Rise (p :: l)) : Keys.get (p :: l) p.1 = p.2 := Keys.get_mem h List.mem_cons_self
theorem get_less {q : Pr} {l : List Pr} {k : Sum} (h : Rise (q :: l)) (hk : kn k < kn q.1) : Keys.get (q :: l) k = [] := Keys.get_none fun p hp e => by
  rcases List.mem_cons.1 hp with rfl | hp
  · rw [e] at hk; omega
  · have := (List.pairwise_cons.1 h).1 p hp
    rw [e] at this; omega
theorem get_tail {p : Pr} {l : List Pr} {k : Sum} (hk : p.1 ≠ k) : Keys.get (p :: l) k = Keys.get l k := by
  unfold Keys.get
  rw [List.find?_cons_of_neg (by simpa using hk)]
theorem other_get : ∀ {a b : List Pr} {k : Sum}, May a → May b → otherK a b = some k → Keys.get a k ≠ Keys.get b k
  | [], [], _, _, _, h => by rw [otherK] at h; cases h
  | p :: a, [], k, ha, _, h => by
    rw [otherK] at h
    obtain rfl := Option.some.inj h
    rw [get_head ha.1]
    exact ha.2 p List.mem_cons_self
  | [], q :: b, k, _, hb, h => by
    rw [otherK] at h
    obtain rfl := Option.some.inj h
    rw [get_head hb.1]
    exact fun e => hb.2 q List.mem_cons_self e.symm
  | p :: a, q :: b, k, ha, hb, h => by
    rw [otherK] at h
    by_cases h1 : kn p.1 < kn q.1
    · rw [if_pos h1] at h
      obtain rfl := Option.some.inj h
      rw [get_head ha.1, get_less hb.1 h1]
      exact ha.2 p List.mem_cons_self
    · rw [if_neg h1] at h
      by_cases h2 : p.1 ≠ q.1 ∨ p.2 ≠ q.2
      · rw [if_pos h2] at h
        obtain rfl := Option.some.inj h
        rw [get_head hb.1]
        by_cases h3 : p.1 = q.1
        · rw [← h3, get_head ha.1]
          rcases h2 with h2 | h2
          · exact absurd h3 h2
          · exact h2
        · have : kn q.1 < kn p.1 := by
            have : kn p.1 ≠ kn q.1 := fun e => h3 (Keys.kn_inj e)
            omega
          rw [get_less ha.1 this]
          exact fun e => hb.2 q List.mem_cons_self e.symm
      · rw [if_neg h2] at h
        have h3 : p.1 = q.1 := Classical.byContradiction fun e => h2 (.inl e)
        have ih := other_get ha.tail hb.tail h
        by_cases hk : p.1 = k
        · exfalso
          have e1 : Keys.get a k = [] := Keys.get_none fun r hr e => by
            have := (List.pairwise_cons.1 ha.1).1 r hr
            rw [e, ← hk] at this; omega
          have e2 : Keys.get b k = [] := Keys.get_none fun r hr e => by
            have := (List.pairwise_cons.1 hb.1).1 r hr
            rw [e, ← hk, h3] at this; omega
          exact ih (by rw [e1, e2])
        · rw [get_tail hk, get_tail (by rw [← h3]; exact hk)]
          exact ih
/-! ### what is told -/
/-- The way to a key, of pairs; of a show. -/
noncomputable def stepsTo (k : Sum) (l : List Pr) : List (List UInt8) := steps (boths k 256 (besides k 256 l) (vl k (Keys.get l k))) (endB k (Keys.get l k))
noncomputable def stepsBy (k : Sum) (v : List UInt8) (T : List Sum) : List (List UInt8) := steps (boths k 256 T (vl k v)) (endB k v)
theorem to_by (k : Sum) (l : List Pr) : stepsTo k l = stepsBy k (Keys.get l k) (besides k 256 l) := rfl
theorem by_clash {k : Sum} {v w : List UInt8} {T U : List Sum} (hT : T.length = 256) (hU : U.length = 256) (h : wayUp k 256 T (vl k v) = wayUp k 256 U (vl k w)) {a b : List UInt8} (hp : part (stepsBy k v T) (stepsBy k w U) = some (a, b)) : a ≠ b ∧ sha a = sha b := by
  unfold stepsBy at hp
  exact part_clash k _ _ _ _ (sha_end k v) (sha_end k w) 256 T U hT hU h a b hp
theorem by_told {k : Sum} {v w : List UInt8} {T U : List Sum} (hT : T.length = 256) (hU : U.length = 256) (h : v ≠ w) : part (stepsBy k v T) (stepsBy k w U) ≠ none :=
  part_ends (fun e => h (endB_inj e)) _ _ (by rw [length_boths _ _ _ _ hT, length_boths _ _ _ _ hU])
open Classical in
noncomputable def mapsClash (a b : List Pr) : Option (List UInt8 × List UInt8) :=
  if May a ∧ May b then match otherK a b with | none => none | some k => if rootOf a = rootOf b then part (stepsTo k a) (stepsTo k b) else none else none
open Classical in
noncomputable def showClash (l : List Pr) (k : Sum) (v : List UInt8) (which : Sum) (S : List Sum) : Option (List UInt8 × List UInt8) :=
  match leadsTo which S with
  | none => none
  | some T => if May l ∧ rootOf l = wayUp k 256 T (vl k v) ∧ endB k (Keys.get l k) ≠ endB k v then part (stepsTo k l) (stepsBy k v T) else none
noncomputable def twoClash (k : Sum) (v : List UInt8) (which : Sum) (S : List Sum) (w : List UInt8) (which' : Sum) (S' : List Sum) : Option (List UInt8 × List UInt8) :=
  match leadsTo which S, leadsTo which' S' with
  | some T, some U => if wayUp k 256 T (vl k v) = wayUp k 256 U (vl k w) ∧ v ≠ w then part (stepsBy k v T) (stepsBy k w U) else none
  | _, _ => none
theorem maps_told {a b : List Pr} (ha : May a) (hb : May b) : (mapsClash a b).isSome = decide (rootOf a = rootOf b ∧ a ≠ b) := by
  unfold mapsClash
  rw [if_pos ⟨ha, hb⟩]
  cases ho : otherK a b with
  | none =>
    have := other_none ho
    simp [this]
  | some k =>
    have hne : a ≠ b := fun e => by rw [e, other_same] at ho; cases ho
    by_cases hr : rootOf a = rootOf b
    · simp only [if_pos hr]
      have h := by_told (k := k) (T := besides k 256 a) (U := besides k 256 b) (length_besides _ _ _) (length_besides _ _ _) (other_get ha hb ho)
      rw [← to_by, ← to_by] at h
      rw [Option.isSome_iff_ne_none.2 h]
      simp [hr, hne]
    · simp [hr]
theorem maps_clash {a b : List Pr} {x y : List UInt8} (h : mapsClash a b = some (x, y)) : x ≠ y ∧ sha x = sha y := by
  unfold mapsClash at h
  by_cases hm : May a ∧ May b
  · rw [if_pos hm] at h
    cases ho : otherK a b with
    | none => rw [ho] at h; cases h
    | some k =>
      rw [ho] at h
      by_cases hr : rootOf a = rootOf b
      · simp only [if_pos hr] at h
        rw [to_by, to_by] at h
        exact by_clash (length_besides _ _ _) (length_besides _ _ _) (by rw [up_root hm.1.1, up_root hm.2.1, hr]) h
      · simp only [if_neg hr] at h; cases h
  · rw [if_neg hm] at h; cases h
theorem show_told {l : List Pr} (hl : May l) (k : Sum) (v : List UInt8) (which : Sum) (S : List Sum) : (showClash l k v which S).isSome = (checkOf (rootOf l) k v which S && decide (Keys.get l k ≠ v)) := by
  rw [check_leads]
  unfold showClash
  cases hT : leadsTo which S with
  | none => rfl
  | some T =>
    by_cases hr : rootOf l = wayUp k 256 T (vl k v)
    · by_cases hv : Keys.get l k = v
      · simp [hv]
      · have he : endB k (Keys.get l k) ≠ endB k v := fun e => hv (endB_inj e)
        have h := by_told (k := k) (T := besides k 256 l) (U := T) (length_besides _ _ _) (leads_length hT) hv
        rw [← to_by] at h
        simp only [if_pos (show May l ∧ rootOf l = wayUp k 256 T (vl k v) ∧ endB k (Keys.get l k) ≠ endB k v from ⟨hl, hr, he⟩)]
        rw [Option.isSome_iff_ne_none.2 h]
        simp [hr, hv]
    · simp only [if_neg (show ¬ (May l ∧ rootOf l = wayUp k 256 T (vl k v) ∧ endB k (Keys.get l k) ≠ endB k v) from fun h => hr h.2.1)]
      have hr' : ¬ wayUp k 256 T (vl k v) = rootOf l := fun e => hr e.symm
      simp [hr']
theorem show_clash {l : List Pr} {k : Sum} {v : List UInt8} {which : Sum} {S : List Sum} {x y : List UInt8} (h : showClash l k v which S = some (x, y)) : x ≠ y ∧ sha x = sha y := by
  unfold showClash at h
  cases hT : leadsTo which S with
  | none => rw [hT] at h; cases h
  | some T =>
    rw [hT] at h
    by_cases hc : May l ∧ rootOf l = wayUp k 256 T (vl k v) ∧ endB k (Keys.get l k) ≠ endB k v
    · simp only [if_pos hc] at h
      rw [to_by] at h
      exact by_clash (length_besides _ _ _) (leads_length hT) (by rw [up_root hc.1.1, hc.2.1]) h
    · simp only [if_neg hc] at h; cases h
theorem two_told {k : Sum} {v w : List UInt8} {which which' root : Sum} {S S' : List Sum} (h1 : checkOf root k v which S = true) (h2 : checkOf root k w which' S' = true) : (twoClash k v which S w which' S').isSome = decide (v ≠ w) := by
  rw [check_leads] at h1 h2
  unfold twoClash
  cases hT : leadsTo which S with
  | none => rw [hT] at h1; cases h1
  | some T =>
    cases hU : leadsTo which' S' with
    | none => rw [hU] at h2; cases h2
    | some U =>
      rw [hT] at h1
      rw [hU] at h2
      have e1 := of_decide_eq_true h1
      have e2 := of_decide_eq_true h2
      by_cases hv : v = w
      · simp [hv]
      · have h := by_told (k := k) (T := T) (U := U) (leads_length hT) (leads_length hU) hv
        simp only [if_pos (show wayUp k 256 T (vl k v) = wayUp k 256 U (vl k w) ∧ v ≠ w from ⟨by rw [e1, e2], hv⟩)]
        rw [Option.isSome_iff_ne_none.2 h]
        simp [hv]
theorem two_clash {k : Sum} {v w : List UInt8} {which which' : Sum} {S S' : List Sum} {x y : List UInt8} (h : twoClash k v which S w which' S' = some (x, y)) : (x ≠ y ∧ sha x = sha y) ∧ v ≠ w := by
  unfold twoClash at h
  cases hT : leadsTo which S with
  | none => rw [hT] at h; cases h
  | some T =>
    cases hU : leadsTo which' S' with
    | none => rw [hT, hU] at h; cases h
    | some U =>
      rw [hT, hU] at h
      by_cases hc : wayUp k 256 T (vl k v) = wayUp k 256 U (vl k w) ∧ v ≠ w
      · simp only [if_pos hc] at h
        exact ⟨by_clash (leads_length hT) (leads_length hU) hc.1 h, hc.2⟩
      · simp only [if_neg hc] at h; cases h
end Go.Proofs.Ytfmgoehnbaiamaa
-- Walks: splits.end, both.bytes; a way in memory.
namespace Go.Proofs.Ytfmgoehnbaiamaa
set_option maxRecDepth 100000 in
set_option maxHeartbeats 1000000 in
theorem concat_new (vs : List Value) (ls : List (List UInt8)) (b o cap : Nat) (w : World) (h : Parts2 w b o vs ls) (hc : ls.length ≤ cap) (hk : ls.length ≤ 1000) (hpos : 1 ≤ ls.flatten.length) (hl : ls.flatten.length ≤ 140737488355328) :
    Calls Try.prog 59 #[.slice (some ⟨b, o, none⟩) ls.length cap] w fun e w' => ∃ v, e = .returned v ∧ BytesNew w' w.heap.size v ls.flatten ∧ Below w.heap.size w w' := by
  obtain ⟨k, hkk⟩ : ∃ k, k = ls.length := ⟨_, rfl⟩
  rw [← hkk] at hc hk ⊢
  have HK := Lib.hid hkk; clear hkk
  have HL := Lib.hid hl; clear hl
  have HP := Lib.hid hpos; clear hpos
  have hk' : (k : Int) ≤ 1000 := by omega
  go_enter Try.func59, Try.ntmps59
  go_wp2_with fail
  go_loopw [3, 11] (fun s i W => ∃ j : Nat, j ≤ k ∧ i = .int .i64 (j : Int) ∧ s = .int .i64 ((ls.take j).flatten.length : Int) ∧ Below w.heap.size w W) (fun _ i _ => k - (intOf i).toNat)
  case atStart => exact ⟨0, by omega, rfl, rfl, Below.refl _ _⟩
  case round =>
    obtain ⟨j, hj, rfl, rfl, hB⟩ := hrel
    by_cases hlt : j < k
    · have hlt' : (j : Int) < (k : Int) := by omega
      have hc0 := parts2_cell h (j := j) (by rw [← HK.out]; exact hlt)
      have hc1 : wr.cell? ⟨b, o + j, none⟩ = some (vs.getD j undef) := (hB.cell (p := ⟨b, o + j, none⟩) (World.block_lt_of_cell? w _ hc0)).trans hc0
      obtain ⟨a, n, c, hv, hn, hnc, -⟩ := h.2.2 j (by rw [← HK.out]; exact hlt)
      rw [hv] at hc1
      clear hc0 hv
      have hft := flat_take ls j (by rw [← HK.out]; exact hlt)
      have hfl := congrArg List.length hft
      rw [List.length_append, ← hn] at hfl
      have hle := flat_take_le ls (j + 1)
      have hmx := HL.out
      obtain ⟨s1, hs1⟩ : ∃ s, s = (ls.take j).flatten.length := ⟨_, rfl⟩
      obtain ⟨s2, hs2⟩ : ∃ s, s = (ls.take (j + 1)).flatten.length := ⟨_, rfl⟩
      rw [← hs1, ← hs2] at hfl
      rw [← hs2] at hle
      rw [← hs1]
      have hsum : IntKind.i64.wrap ((s1 : Int) + (n : Int)) = (s2 : Int) := by rw [IntKind.wrap_i64]; omega
      have HS2 := Lib.hid hs2
      clear hft hn hs1 hs2 hfl hle hmx
      go_wp2_with fail
      exact ⟨⟨j + 1, by omega, by simp, by rw [HS2.out], hB⟩, by simp [intOf]; omega⟩
    · have hjk : j = k := by omega
      subst hjk
      have htk : ls.take j = ls := List.take_of_length_le (by rw [HK.out]; exact Nat.le_refl _)
      rw [htk]
      obtain ⟨T, hT⟩ : ∃ T, T = ls.flatten.length := ⟨_, rfl⟩
      rw [← hT]
      have hT1 : 1 ≤ T := by rw [hT]; exact HP.out
      have hT2 : T ≤ 140737488355328 := by rw [hT]; exact HL.out
      have HT := Lib.hid hT; clear hT
      have Ht := Lib.hid htk; clear htk
      have G := Lib.hid (grow_any T wr hT1 hT2); clear hT1 hT2
      go_wp2_with fail
      refine G.out.mono ?_
      rintro e w1 ⟨v, rfl, ho1, hb1⟩
      obtain ⟨i0, hi0, hz0⟩ := Option.map_eq_some_iff.1 infoByteZ
      simp only [Prod.mk.injEq] at hz0
      have HI := Lib.hid hi0; clear hi0
      have HZ := Lib.hid hz0; clear hz0
      have hB1 : Below w.heap.size w w1 := hB.trans (hb1.mono hB.size)
      have ho1' : w1.ownsRow w.heap.size 5 1 v 0 [] := own_mono ho1 hB.size
      clear ho1 hb1 hB G
      go_wp2_with fail
      go_loopw [6, 27] (fun v i W => ∃ q : Nat, q ≤ j ∧ i = .int .i64 (q : Int) ∧ W.ownsRow w.heap.size 5 1 v (ls.take q).flatten.length (cells8 (ls.take q).flatten) ∧ Below w.heap.size w W) (fun _ i _ => j - (intOf i).toNat)
      case atStart => exact ⟨0, by omega, rfl, ho1', hB1⟩
      case round =>
        clear hB1 ho1'
        obtain ⟨q, hq, rfl, ho2, hB2⟩ := hrel
        by_cases hlt2 : q < j
        · have hlt' : (q : Int) < (j : Int) := by omega
          have hc0 := parts2_cell h (j := q) (by rw [← HK.out]; exact hlt2)
          have hc1 := (hB2.cell (p := ⟨b, o + q, none⟩) (World.block_lt_of_cell? w _ hc0)).trans hc0
          obtain ⟨a, n, c, hv, hn, hnc, hor⟩ := h.2.2 q (by rw [← HK.out]; exact hlt2)
          rw [hv] at hc1
          clear hc0 hv
          have hft := flat_take ls q (by rw [← HK.out]; exact hlt2)
          have hfl := congrArg List.length hft
          rw [List.length_append, ← hn] at hfl
          have hle := flat_take_le ls (q + 1)
          have hmx := HL.out
          have hnn : (ls.take q).flatten.length + n ≤ 140737488355328 := by omega
          have HN := Lib.hid hnn; clear hnn
          have HF := Lib.hid hft; clear hft
          have HFL := Lib.hid hfl; clear hfl
          have HNn := Lib.hid hn; clear hn
          clear hle hmx
          by_cases hn0 : n = 0
          · have hp0 : ls.getD q [] = [] := List.length_eq_zero_iff.1 (by rw [← HNn.out]; exact hn0)
            have hHF := HF.out
            rw [hp0, List.append_nil] at hHF
            have HHF := Lib.hid hHF; clear hHF hp0 hor
            subst hn0
            go_wp2_with (at_builtin; refine wpList_append_zero rfl _ _ rfl w.heap.size i0 HI.out _ _ _ rfl ho2 a c rfl ?_)
            exact ⟨⟨q + 1, by omega, by simp, by rw [HHF.out]; exact ho2, hB2⟩, by simp [intOf]; omega⟩
          · obtain ⟨b', o', rfl, hrg, hb'⟩ := hor.resolve_left (by intro h; rw [HNn.out, h] at hn0; exact hn0 rfl)
            have hrg' := range_below hB2 hrg hb'
            clear hrg
            go_wp2_with (at_builtin; refine wpList_append_own _ rfl _ _ _ rfl w.heap.size 5 i0 (.int .u8 0) 1 1 Try.underlying34 HI.out HZ.out.1 HZ.out.2.1 HZ.out.2.2 rfl (by decide) _ _ _ rfl ho2 ⟨b', o', none⟩ n c (cells8 (ls.getD q [])) rfl (by rw [length_cells8, HNn.out]; omega) (fun j u hj => by rw [Addr.add_mid]; exact hrg' j u hj) (oneCell_cells8 _) (by unfold maxLen; have := HN.out; omega) (by have := HN.out; omega) hB2.size ?_; intro v' w2 ho3 hg3 _)
            rw [← HFL.out, ← cells8_append, ← HF.out] at ho3
            exact ⟨⟨q + 1, by omega, by simp, ho3, hB2.grown hg3 hB2.size (own_base ho2)⟩, by simp [intOf]; omega⟩
        · have hqj : q = j := by omega
          subst hqj
          rw [Ht.out] at ho2
          go_wp2_with fail
          refine bodyPost_ret (results_tmp rfl _ _ _) rfl ?_
          exact ⟨_, rfl, ⟨bytes_own ho2 HP.out, fun k hk => ⟨own_base ho2 k hk, own_lt ho2 hk⟩⟩, hB2⟩
theorem length_endB (k : Sum) (v : List UInt8) : (endB k v).length ≤ 33 + v.length := by
  unfold endB; split <;> simp <;> omega
theorem endB_ne (k : Sum) (v : List UInt8) : endB k v ≠ [] := by
  unfold endB; split <;> simp
set_option maxRecDepth 100000 in
set_option maxHeartbeats 1000000 in
theorem end_any (k : Sum) (l : List UInt8) (v : Value) (w : World) (hv : BytesAt w v l) (hl : l.length < 140737488355000) : Calls Try.prog 88 #[sv k, v] w fun e w' => ∃ v', e = .returned v' ∧ BytesNew w' w.heap.size v' (endB k l) ∧ Below w.heap.size w w' := by
  have hr := range_new w (cellsOf k).toArray 29 _ rfl
  have hb := al (Below.refl _ w) (.cells (cellsOf k).toArray 29)
  have hz1 : (w.alloc (.cells (cellsOf k).toArray 29)).heap.size = w.heap.size + 1 := Array.size_push _
  have hv1 := bytes_below hv hb (Nat.le_refl _)
  obtain ⟨ad, cap, rfl, h1, h2, h3⟩ := hv
  obtain ⟨n, hn⟩ : ∃ n, n = l.length := ⟨_, rfl⟩
  rw [← hn] at hv1 ⊢
  have HN := Lib.hid (And.intro hn hl)
  have H1 := Lib.hid (And.intro hv1 (And.intro hr (And.intro hb hz1)))
  clear hr hb hz1 hv1 h1 h2 h3 hn hl
  by_cases h0 : n = 0
  · have hl0 : l = [] := List.length_eq_zero_iff.1 (by rw [← HN.out.1, h0])
    have he : endB k l = [2] := by rw [hl0]; rfl
    rw [he]
    subst h0
    go_enter Try.func88, Try.ntmps88
    go_wp2_with fail
    refine bodyPost_ret (results_tmp rfl _ _ _) rfl ?_
    refine ⟨.slice (some ⟨w.heap.size + 1, 0, none⟩) 1 1, rfl, ⟨⟨_, 1, rfl, Nat.le_refl _, by unfold maxLen; omega, .inr ⟨_, 0, rfl, ?_⟩⟩, fun i hk => ?_⟩, ?_⟩
    · have := range_new (w.alloc (.cells (cellsOf k).toArray 29)) #[.int .u8 2] 5 _ rfl
      rw [H1.out.2.2.2] at this
      exact this
    · simp only [Value.ownBlock, Option.some.injEq] at hk
      rw [← hk, World.size_alloc, H1.out.2.2.2]
      omega
    · exact al H1.out.2.2.1 _
  · have hne : l ≠ [] := by intro e; have := HN.out.1; rw [e] at this; exact h0 this
    have hsf : [[3], k.toList, l].flatten = endB k l := by
      unfold endB
      rw [if_neg hne]
      simp
    have hn0 : decide (n = 0) = false := by simpa using h0
    have hn1 : decide ((n : Int) = 0) = false := by simp; omega
    have HSF := Lib.hid hsf
    have h3 := al H1.out.2.2.1 (.cells #[.int .u8 3] 5)
    have hz3 : ((w.alloc (.cells (cellsOf k).toArray 29)).alloc (.cells #[.int .u8 3] 5)).heap.size = w.heap.size + 1 + 1 := by rw [World.size_alloc, H1.out.2.2.2]
    have hP := parts_val (w := (w.alloc (.cells (cellsOf k).toArray 29)).alloc (.cells #[.int .u8 3] 5)) (p := w.heap.size + 1) (q := w.heap.size + 1 + 1) (a := w.heap.size) k l (.slice ad n cap) (by rw [hz3]; omega) (by rw [hz3]; omega) 34
      (by rw [← H1.out.2.2.2]; exact range_new _ _ _ _ rfl) (World.rangeAt_alloc H1.out.2.1 _) (bytes_below H1.out.1 (al (Below.refl _ _) _) (Nat.le_refl _)) hz3.symm
    have hB4 := al h3 (.cells #[.slice (some ⟨w.heap.size + 1, 0, none⟩) 1 1, .slice (some ⟨w.heap.size, 0, none⟩) 32 32, .slice ad n cap] 34)
    have HPP := Lib.hid (And.intro hP hB4)
    clear h3 hz3 hP hB4 H1 hsf
    go_enter Try.func88, Try.ntmps88
    go_wp2_with fail
    change Calls _ _ _ (((w.alloc (.cells (cellsOf k).toArray 29)).alloc (.cells #[.int .u8 3] 5)).alloc (.cells #[.slice (some ⟨w.heap.size + 1, 0, none⟩) 1 1, .slice (some ⟨w.heap.size, 0, none⟩) 32 32, .slice ad n cap] 34)) _
    generalize (((w.alloc (.cells (cellsOf k).toArray 29)).alloc (.cells #[.int .u8 3] 5)).alloc (.cells #[.slice (some ⟨w.heap.size + 1, 0, none⟩) 1 1, .slice (some ⟨w.heap.size, 0, none⟩) 32 32, .slice ad n cap] 34)) = W at *
    refine (concat_new _ [[3], k.toList, l] _ _ 3 W HPP.out.1 (by simp) (by simp) (by simp) (by have := HN.out.2; simp; omega)).mono ?_
    rintro e w1 ⟨v, rfl, hbv, hb⟩
    have HH := Lib.hid (And.intro hbv (HPP.out.2.trans (hb.mono HPP.out.2.size)))
    have HSZ := Lib.hid HPP.out.2.size
    clear hb hbv HPP
    go_wp2_with fail
    refine bodyPost_ret (results_tmp rfl _ _ _) rfl ?_
    exact ⟨v, rfl, ⟨by rw [← HSF.out]; exact HH.out.1.1, fun k hk => ⟨Nat.le_trans HSZ.out (HH.out.1.2 k hk).1, (HH.out.1.2 k hk).2⟩⟩, HH.out.2⟩
/-- Both sides, as a value. -/
abbrev b2 (p : Sum × Sum) : Value := .agg (cells2 p.1 p.2).toArray
theorem parts_both {w : World} {p q a : Nat} (s : Sum × Sum) (hp : p < w.heap.size) (ha : a < w.heap.size) (t : TypeId)
    (h1 : w.rangeAt p 0 (cells8 [4])) (h2 : w.rangeAt a 0 (cellsOf s.1)) (h3 : w.rangeAt a 32 (cellsOf s.2)) (hq : q = w.heap.size) :
    Parts2 (w.alloc (.cells #[.slice (some ⟨p, 0, none⟩) 1 1, .slice (some ⟨a, 0, none⟩) 32 32, .slice (some ⟨a, 32, none⟩) 32 32] t)) q 0 [.slice (some ⟨p, 0, none⟩) 1 1, .slice (some ⟨a, 0, none⟩) 32 32, .slice (some ⟨a, 32, none⟩) 32 32] [[4], s.1.toList, s.2.toList] := by
  subst hq
  have hB := al (Below.refl w.heap.size w) (.cells #[.slice (some ⟨p, 0, none⟩) 1 1, .slice (some ⟨a, 0, none⟩) 32 32, .slice (some ⟨a, 32, none⟩) 32 32] t)
  refine ⟨range_new _ _ _ _ rfl, rfl, fun j hj => ?_⟩
  have hj' : j < 3 := hj
  match j, hj' with
  | 0, _ => exact ⟨_, _, _, rfl, rfl, by decide, .inr ⟨p, 0, rfl, range_below hB h1 hp, by simp; omega⟩⟩
  | 1, _ => exact ⟨_, _, _, rfl, by simp, by decide, .inr ⟨a, 0, rfl, range_below hB h2 ha, by simp; omega⟩⟩
  | 2, _ => exact ⟨_, _, _, rfl, by simp, by decide, .inr ⟨a, 32, rfl, range_below hB h3 ha, by simp; omega⟩⟩
set_option maxRecDepth 100000 in
set_option maxHeartbeats 1000000 in
theorem sideB_any (p : Sum × Sum) (w : World) : Calls Try.prog 105 #[b2 p] w fun e w' => ∃ v, e = .returned v ∧ BytesAt w' v (sideB p) ∧ Below w.heap.size w w' := by
  have hr := range_append.1 (show (w.alloc (.cells (cells2 p.1 p.2).toArray 105)).rangeAt w.heap.size 0 (cellsOf p.1 ++ cellsOf p.2) from range_new w (cells2 p.1 p.2).toArray 105 _ rfl)
  rw [length_cellsOf] at hr
  have hb := al (Below.refl _ w) (.cells (cells2 p.1 p.2).toArray 105)
  have hz1 : (w.alloc (.cells (cells2 p.1 p.2).toArray 105)).heap.size = w.heap.size + 1 := Array.size_push _
  have H1 := Lib.hid (show Below w.heap.size w (w.alloc (.cells (cells2 p.1 p.2).toArray 105)).drew ∧ (w.alloc (.cells (cells2 p.1 p.2).toArray 105)).drew.rangeAt w.heap.size 0 (cellsOf p.1) ∧ (w.alloc (.cells (cells2 p.1 p.2).toArray 105)).drew.rangeAt w.heap.size 32 (cellsOf p.2) ∧ (w.alloc (.cells (cells2 p.1 p.2).toArray 105)).drew.heap.size = w.heap.size + 1 from ⟨hb.drew, hr.1, hr.2, hz1⟩)
  clear hr hb hz1
  have hsf : [[4], p.1.toList, p.2.toList].flatten = sideB p := by unfold sideB; simp
  have HSF := Lib.hid hsf
  clear hsf
  go_enter Try.func105, Try.ntmps105
  go_wp2_with fail
  refine wp_region_sched (fun W => True) [.t 1, .t 2, .t 3, .t 4, .e 0 false, .e 5 false, .e 6 false, .t 7] (by kernel_rfl) (by kernel_rfl) (by intro c a d v w h; cases d <;> exact h) ?_
  change wpS _ _ _ _ _ _ _ (World.drew (w.alloc (.cells (cells2 p.1 p.2).toArray 105)))
  generalize World.drew (w.alloc (.cells (cells2 p.1 p.2).toArray 105)) = V at *
  iterate 4
    refine wpS_t rfl (v := ?_) (by rfl) (fun W => ?_) ?_
    rotate_left
    · go_simp
      try rfl
    try simp only [Act.put, List.setIfInBounds_toArray, List.set_cons_zero, List.set_cons_succ]
  refine wpS_e rfl (by rfl) (fun K hK => ?_)
  go_simp
  refine hK _ _ ?_; clear hK K
  try simp only [Act.put, List.setIfInBounds_toArray, List.set_cons_zero, List.set_cons_succ]
  refine wpS_e rfl (by rfl) (fun K hK => ?_)
  go_simp
  refine hK _ _ ?_; clear hK K
  try simp only [Act.put, List.setIfInBounds_toArray, List.set_cons_zero, List.set_cons_succ]
  have h3 := al H1.out.1 (.cells #[.int .u8 4] 5)
  have hz3 : (V.alloc (.cells #[.int .u8 4] 5)).heap.size = V.heap.size + 1 := World.size_alloc _ _
  have hP := parts_both (w := V.alloc (.cells #[.int .u8 4] 5)) (p := V.heap.size) (q := V.heap.size + 1) (a := w.heap.size) p (by rw [hz3]; omega) (by rw [hz3, H1.out.2.2.2]; omega) 34
    (range_new _ _ _ _ rfl) (World.rangeAt_alloc H1.out.2.1 _) (World.rangeAt_alloc H1.out.2.2.1 _) hz3.symm
  have HPP := Lib.hid (And.intro hP (al h3 (.cells #[.slice (some ⟨V.heap.size, 0, none⟩) 1 1, .slice (some ⟨w.heap.size, 0, none⟩) 32 32, .slice (some ⟨w.heap.size, 32, none⟩) 32 32] 34)))
  clear h3 hz3 hP H1
  generalize V.heap.size = q at *
  change wpS _ _ _ _ _ _ _ ((V.alloc (.cells #[.int .u8 4] 5)).alloc (.cells #[.slice (some ⟨q, 0, none⟩) 1 1, .slice (some ⟨w.heap.size, 0, none⟩) 32 32, .slice (some ⟨w.heap.size, 32, none⟩) 32 32] 34))
  generalize ((V.alloc (.cells #[.int .u8 4] 5)).alloc (.cells #[.slice (some ⟨q, 0, none⟩) 1 1, .slice (some ⟨w.heap.size, 0, none⟩) 32 32, .slice (some ⟨w.heap.size, 32, none⟩) 32 32] 34)) = W at *
  refine wpS_e rfl (by rfl) (fun K hK => ?_)
  go_simp
  refine (concat_all _ [[4], p.1.toList, p.2.toList] _ _ 3 W HPP.out.1 (by simp) (by simp) (by simp) (by simp)).mono ?_
  rintro e w1 ⟨v, rfl, hbv, hb⟩
  have HH := Lib.hid (And.intro hbv (HPP.out.2.trans (hb.mono HPP.out.2.size)))
  clear hb hbv HPP
  refine hK _ _ ?_; clear hK K
  try simp only [Act.put, List.setIfInBounds_toArray, List.set_cons_zero, List.set_cons_succ]
  iterate 1
    refine wpS_t rfl (v := ?_) (by rfl) (fun W => ?_) ?_
    rotate_left
    · go_simp
      try rfl
    try simp only [Act.put, List.setIfInBounds_toArray, List.set_cons_zero, List.set_cons_succ]
  refine wpS_done ?_
  go_wp2_with fail
  refine bodyPost_ret (results_tmp rfl _ _ _) rfl ?_
  exact ⟨v, rfl, by rw [← HSF.out]; exact HH.out.1, HH.out.2⟩
end Go.Proofs.Ytfmgoehnbaiamaa
-- A way in memory.
namespace Go.Proofs.Ytfmgoehnbaiamaa
theorem len_append {α : Type} {a b : List α} {m n : Nat} (h1 : a.length = m) (h2 : b.length = n) : (a.append b).length = m + n := by
  show (a ++ b).length = m + n
  rw [List.length_append, h1, h2]
theorem len_done {α : Type} {a : List α} {m n : Nat} (h1 : a.length = m) (h2 : m = n) : a.length = n := h1.trans h2
set_option maxRecDepth 100000 in
theorem zway_len : Try.zeroCells108.size = 16417 := by
  unfold Try.zeroCells108
  rw [List.size_toArray]
  refine len_done (m := ?_) ?_ ?_
  rotate_left
  · repeat' (refine len_append ?_ ?_)
    all_goals exact rfl
  · rfl
noncomputable def zway : Array Value := Try.zeroCells108
theorem zway_size : zway.size = 16417 := zway_len
theorem fill_way (v : Value) (hv : v.cells = #[v]) : Instr.fill (fun x => (#[(0, 32), (32, 16384), (16416, 1)] : Array (Nat × Nat))[x]?) zway [(2, v)] = some (zway.setIfInBounds 16416 v) := by
  unfold Instr.fill
  simp only [List.getElem?_toArray, List.getElem?_cons_succ, List.getElem?_cons_zero, hv, zway_size]
  simp [Instr.fill]
theorem places_way (w : World) : (Array.mapM (fun (f : Field) => do pure (f.offset, ← Go.sizeOf f.type)) (#[{ name := "root", type := 29, offset := 0, embedded := false, tag := "", pkgPath := "almoner/splits", byteOffset := 0 },
    { name := "l", type := 106, offset := 32, embedded := false, tag := "", pkgPath := "almoner/splits", byteOffset := 32 },
    { name := "end", type := 34, offset := 16416, embedded := false, tag := "", pkgPath := "almoner/splits", byteOffset := 16416 }] : Array Field)).run Try.prog w = .ok (#[(0, 32), (32, 16384), (16416, 1)] : Array (Nat × Nat)) w := by
  simp [Array.mapM_eq_mapM_toList, Try.sizeOf29, Try.sizeOf106, Try.sizeOf34]
/-- A way whose end is known; one that knows nothing. -/
theorem build_way (v : Value) (hv : v.cells = #[v]) (w : World) : (Instr.build 108 #[(2, v)]).run Try.prog w = .ok (.agg (zway.setIfInBounds 16416 v)) w := by
  unfold Instr.build
  simp only [Sem.run_bind, Try.zeroValue108, Result.andThen_ok, Try.runUnderlying108, places_way]
  have h : Instr.fill (fun x => (#[(0, 32), (32, 16384), (16416, 1)] : Array (Nat × Nat))[x]?) (Value.agg Try.zeroCells108).cells [(2, v)] = some (zway.setIfInBounds 16416 v) := fill_way v hv
  rw [h]
  rfl
theorem build_way0 (w : World) : (Instr.build 108 #[]).run Try.prog w = .ok (.agg zway) w := by
  unfold Instr.build
  simp only [Sem.run_bind, Try.zeroValue108, Result.andThen_ok, Try.runUnderlying108, places_way]
  have h : Instr.fill (fun x => (#[(0, 32), (32, 16384), (16416, 1)] : Array (Nat × Nat))[x]?) (Value.agg Try.zeroCells108).cells [] = some zway := rfl
  rw [h]
  rfl
/-- It gets memory of its own. -/
theorem wpList_box_agg {P : Program} {ops : Array Oper} {rest : List Oper} {op : Oper} {a : Act} {w : World} {Q : Exit → Act → World → Prop} (hgd : op.guard = none) (t : TypeId) (x : Operand) (ho : op.op = .box t x) (C : Array Value) (hx : a.eval x = .agg C)
    (h : wpList P ops Q rest (a.put op.dst (.pointer (some ⟨w.heap.size, 0, none⟩))) (w.alloc (.cells C t))) : wpList P ops Q (op :: rest) a w :=
  wpList_plain hgd fun _ hK => by
    unfold Oper.wp execOp
    simp only [ho, Instr.box, newVar, newRow, hx]
    simp [go_sem]
    exact hK _ _ h
end Go.Proofs.Ytfmgoehnbaiamaa
-- Walk: splits.way.up.
namespace Go.Proofs.Ytfmgoehnbaiamaa
open Keys (Rise Pr kn)
/-- The cells of rows of two. -/
def cellsB (L : List (Sum × Sum)) : List Value := L.flatMap fun q => cells2 q.1 q.2
theorem cellsB_cons (q : Sum × Sum) (L : List (Sum × Sum)) : cellsB (q :: L) = cells2 q.1 q.2 ++ cellsB L := by simp [cellsB]
theorem cellsB_append (A B : List (Sum × Sum)) : cellsB (A ++ B) = cellsB A ++ cellsB B := by simp [cellsB]
theorem length_cellsB (L : List (Sum × Sum)) : (cellsB L).length = 64 * L.length := by
  induction L with
  | nil => rfl
  | cons q L ih => rw [cellsB_cons, List.length_append, length_cells2, ih, List.length_cons]; omega
/-- Rows of two in a way, from a depth on. -/
structure WayR (W : World) (p d : Nat) (A : List (Sum × Sum)) : Prop where
  th : W.there p 0 16417
  row : W.rangeAt p (32 + d * 64) (cellsB A)
/-- Its end. -/
structure EndR (W : World) (p : Nat) (ve : Value) (e : List UInt8) : Prop where
  en : W.cell? ⟨p, 16416, none⟩ = some ve
  bt : BytesAt W ve e
  ne : ∀ k, ve.ownBlock = some k → k ≠ p
theorem WayR.keep {W W' : World} {p d : Nat} {A : List (Sum × Sum)} {X : Nat → Prop} (h : WayR W p d A) (hk : Keeps X W W') (hx : ¬ X p) : WayR W' p d A := ⟨hk.there h.th (by decide) hx, hk.range h.row hx⟩
theorem WayR.below {W W' : World} {p d : Nat} {A : List (Sum × Sum)} (h : WayR W p d A) (hb : Below W.heap.size W W') : WayR W' p d A := h.keep (Keeps.of_below (X := fun _ => False) hb) (fun h => h)
theorem EndR.keep {W W' : World} {p : Nat} {ve : Value} {e : List UInt8} {X : Nat → Prop} (h : EndR W p ve e) (hk : Keeps X W W') (hx : ¬ X p) (hv : ∀ k, ve.ownBlock = some k → ¬ X k) : EndR W' p ve e := ⟨hk.cell h.en hx, bytes_keep hk h.bt hv, h.ne⟩
theorem EndR.below {W W' : World} {p : Nat} {ve : Value} {e : List UInt8} (h : EndR W p ve e) (hb : Below W.heap.size W W') : EndR W' p ve e := h.keep (Keeps.of_below (X := fun _ => False) hb) (fun h => h) (fun _ _ h => h)
theorem WayR.at {W : World} {p d : Nat} {A : List (Sum × Sum)} (h : WayR W p d A) {o n : Nat} (ho : o + n ≤ 16417) : W.there p o n := fun j hj => by
  have := h.th (o + j) (by omega)
  rwa [Nat.zero_add] at this
theorem keeps_setCells (W : World) (p o : Nat) (vs : List Value) : Keeps (fun i => i = p) W (W.setCells p o vs) := Keeps.of_grown (grown_setCells W p o vs) (fun k hk => by simpa using hk.symm)
/-- A store into a row leaves the end. -/
theorem EndR.store {W : World} {p : Nat} {ve : Value} {e : List UInt8} (h : EndR W p ve e) {o : Nat} {vs : List Value} (ho : o + vs.length ≤ 16416) : EndR (W.setCells p o vs) p ve e :=
  ⟨by
    have h0 : W.rangeAt p 16416 [ve] := fun j v hj => by
      match j, hj with
      | 0, hj => simp only [List.getElem?_cons_zero, Option.some.injEq] at hj; rw [← hj]; exact h.en
    have := World.rangeAt_setCells_apart h0 p o vs (.inr (.inr ho))
    exact this 0 ve rfl, bytes_keep (keeps_setCells W p o vs) h.bt (fun k hk hx => h.ne k hk hx), h.ne⟩
/-- The rows ahead, and behind. -/
theorem WayR.row_at {W : World} {p : Nat} {A B : List (Sum × Sum)} {q : Sum × Sum} (h : WayR W p 0 (A ++ q :: B)) : W.rangeAt p (32 + A.length * 64) (cellsOf q.1) ∧ W.rangeAt p (32 + A.length * 64 + 32) (cellsOf q.2) := by
  have h1 := h.row
  rw [cellsB_append, range_append, cellsB_cons, range_append, length_cellsB] at h1
  have h2 := h1.2.1
  unfold cells2 at h2
  rw [range_append, length_cellsOf, Nat.zero_mul, Nat.add_zero, Nat.mul_comm] at h2
  exact h2
/-- The first side of a row, stored; the second one. -/
theorem WayR.left {W : World} {p : Nat} {A B : List (Sum × Sum)} {q : Sum × Sum} (h : WayR W p 0 (A ++ q :: B)) (x : Sum) (hl : A.length < 256) : WayR (W.setCells p (32 + A.length * 64) (cellsOf x)) p 0 (A ++ (x, q.2) :: B) := by
  have h1 := h.row
  rw [cellsB_append, range_append, cellsB_cons, range_append, length_cellsB, length_cells2] at h1
  obtain ⟨ha, hq, hb⟩ := h1
  unfold cells2 at hq
  rw [range_append, length_cellsOf] at hq
  refine ⟨World.there_setCells h.th _ _ _, ?_⟩
  rw [cellsB_append, range_append, cellsB_cons, range_append, length_cellsB, length_cells2]
  unfold cells2
  rw [range_append, length_cellsOf]
  have e : 32 + A.length * 64 = 32 + 0 * 64 + 64 * A.length := by omega
  refine ⟨World.rangeAt_setCells_apart ha _ _ _ (.inr (.inl (by rw [length_cellsB]; omega))), ⟨?_, World.rangeAt_setCells_apart hq.2 _ _ _ (.inr (.inr (by rw [length_cellsOf]; omega)))⟩, World.rangeAt_setCells_apart hb _ _ _ (.inr (.inr (by rw [length_cellsOf]; omega)))⟩
  rw [e]
  exact range_stored _ _ _ _ (by rw [length_cellsOf]; exact World.there_setCells (h.at (by omega)) _ _ _)
theorem WayR.right {W : World} {p : Nat} {A B : List (Sum × Sum)} {q : Sum × Sum} (h : WayR W p 0 (A ++ q :: B)) (x : Sum) (hl : A.length < 256) : WayR (W.setCells p (32 + A.length * 64 + 32) (cellsOf x)) p 0 (A ++ (q.1, x) :: B) := by
  have h1 := h.row
  rw [cellsB_append, range_append, cellsB_cons, range_append, length_cellsB, length_cells2] at h1
  obtain ⟨ha, hq, hb⟩ := h1
  unfold cells2 at hq
  rw [range_append, length_cellsOf] at hq
  refine ⟨World.there_setCells h.th _ _ _, ?_⟩
  rw [cellsB_append, range_append, cellsB_cons, range_append, length_cellsB, length_cells2]
  unfold cells2
  rw [range_append, length_cellsOf]
  have e : 32 + A.length * 64 + 32 = 32 + 0 * 64 + 64 * A.length + 32 := by omega
  refine ⟨World.rangeAt_setCells_apart ha _ _ _ (.inr (.inl (by rw [length_cellsB]; omega))), ⟨World.rangeAt_setCells_apart hq.1 _ _ _ (.inr (.inl (by rw [length_cellsOf]; omega))), ?_⟩, World.rangeAt_setCells_apart hb _ _ _ (.inr (.inr (by rw [length_cellsOf]; omega)))⟩
  rw [e]
  exact range_stored _ _ _ _ (by rw [length_cellsOf]; exact World.there_setCells (h.at (by omega)) _ _ _)
/-- The root, stored. -/
theorem WayR.root {W : World} {p d : Nat} {A : List (Sum × Sum)} (h : WayR W p d A) (x : Sum) : WayR (W.setCells p 0 (cellsOf x)) p d A ∧ (W.setCells p 0 (cellsOf x)).rangeAt p 0 (cellsOf x) :=
  ⟨⟨World.there_setCells h.th _ _ _, World.rangeAt_setCells_apart h.row _ _ _ (.inr (.inr (by rw [length_cellsOf]; omega)))⟩, range_stored _ _ _ _ (by rw [length_cellsOf]; exact World.there_setCells (h.at (by omega)) _ _ _)⟩
/-- A row ahead of those that are known; one behind. -/
theorem WayR.ahead {W : World} {p d : Nat} {A : List (Sum × Sum)} (h : WayR W p (d + 1) A) (q : Sum × Sum) (hd : d < 256) : WayR (W.setCells p (32 + d * 64) (cells2 q.1 q.2)) p d (q :: A) := by
  refine ⟨World.there_setCells h.th _ _ _, ?_⟩
  rw [cellsB_cons, range_append, length_cells2]
  refine ⟨range_stored _ _ _ _ (by rw [length_cells2]; exact World.there_setCells (h.at (by omega)) _ _ _), ?_⟩
  have := World.rangeAt_setCells_apart h.row p (32 + d * 64) (cells2 q.1 q.2) (.inr (.inr (by rw [length_cells2]; omega)))
  rwa [show 32 + (d + 1) * 64 = 32 + d * 64 + 64 by omega] at this
theorem WayR.behind {W : World} {p : Nat} {A : List (Sum × Sum)} (h : WayR W p 0 A) (q : Sum × Sum) (hd : A.length < 256) : WayR (W.setCells p (32 + A.length * 64) (cells2 q.1 q.2)) p 0 (A ++ [q]) := by
  refine ⟨World.there_setCells h.th _ _ _, ?_⟩
  rw [cellsB_append, range_append, length_cellsB, cellsB_cons, show cellsB [] = [] from rfl, List.append_nil]
  refine ⟨World.rangeAt_setCells_apart h.row _ _ _ (.inr (.inl (by rw [length_cellsB]; omega))), ?_⟩
  rw [show 32 + 0 * 64 + 64 * A.length = 32 + A.length * 64 by omega]
  exact range_stored _ _ _ _ (by rw [length_cells2]; exact World.there_setCells (h.at (by omega)) _ _ _)
/-- A way in memory, all of it. -/
structure WayAt (W : World) (p : Nat) (root : Sum) (L : List (Sum × Sum)) (ve : Value) (e : List UInt8) : Prop where
  rows : WayR W p 0 L
  root : W.rangeAt p 0 (cellsOf root)
  en : EndR W p ve e
theorem WayAt.below {W W' : World} {p : Nat} {root : Sum} {L : List (Sum × Sum)} {ve : Value} {e : List UInt8} (h : WayAt W p root L ve e) (hb : Below W.heap.size W W') : WayAt W' p root L ve e :=
  ⟨h.rows.below hb, (Keeps.of_below (X := fun _ => False) hb).range h.root (fun h => h), h.en.below hb⟩
theorem WayAt.lt {W : World} {p : Nat} {root : Sum} {L : List (Sum × Sum)} {ve : Value} {e : List UInt8} (h : WayAt W p root L ve e) : p < W.heap.size := there_lt h.rows.th (by decide)
/-- Both sides alike. -/
def dups (T : List Sum) : List (Sum × Sum) := T.map fun t => (t, t)
theorem length_dups (T : List Sum) : (dups T).length = T.length := by simp [dups]
theorem dups_snoc {T : List Sum} {d : Nat} {t : Sum} (h : T[d]? = some t) : dups (T.take (d + 1)) = dups (T.take d) ++ [(t, t)] := by
  obtain ⟨hl, e⟩ := List.getElem?_eq_some_iff.1 h
  unfold dups
  rw [List.take_succ_eq_append_getElem hl, e, List.map_append]
  rfl
theorem drop_at {T : List Sum} {d : Nat} {t : Sum} (h : T[d]? = some t) : T.drop d = t :: T.drop (d + 1) := by
  obtain ⟨hl, e⟩ := List.getElem?_eq_some_iff.1 h
  rw [List.drop_eq_getElem_cons hl, e]
/-- What up has in hand. -/
structure UW (w W : World) (p q z D : Nat) (k x0 : Sum) (T : List Sum) (ve : Value) (e : List UInt8) : Prop where
  kp : Keeps (fun i => i = p) w W
  rows : WayR W p 0 (dups (T.take D) ++ boths k (256 - D) (T.drop D) x0)
  en : EndR W p ve e
  key : W.rangeAt z 0 (cellsOf k)
  x : W.rangeAt q 0 (cellsOf (wayUp k (256 - D) (T.drop D) x0))
  tq : W.there q 0 32
  qz : q ≠ p ∧ z ≠ p ∧ q ≠ z ∧ w.heap.size ≤ q ∧ w.heap.size ≤ z
  qv : ∀ i, ve.ownBlock = some i → i < w.heap.size
theorem UW.lt {w W : World} {p q z D : Nat} {k x0 : Sum} {T : List Sum} {ve : Value} {e : List UInt8} (h : UW w W p q z D k x0 T ve e) : q < W.heap.size := there_lt h.tq (by decide)
theorem UW.below {w W W' : World} {p q z D : Nat} {k x0 : Sum} {T : List Sum} {ve : Value} {e : List UInt8} (h : UW w W p q z D k x0 T ve e) (hb : Below W.heap.size W W') : UW w W' p q z D k x0 T ve e :=
  have kk := Keeps.of_below (X := fun _ => False) hb
  ⟨h.kp.trans (kk.mono (fun _ h => h.elim)), h.rows.below hb, h.en.below hb, kk.range h.key (fun h => h), kk.range h.x (fun h => h), kk.there h.tq (by decide) (fun h => h), h.qz, h.qv⟩
/-- The same, where what it has come to is not told anew yet. -/
structure UM (w W : World) (p q z D : Nat) (k x0 : Sum) (T : List Sum) (ve : Value) (e : List UInt8) : Prop where
  kp : Keeps (fun i => i = p) w W
  rows : WayR W p 0 (dups (T.take D) ++ boths k (256 - D) (T.drop D) x0)
  en : EndR W p ve e
  key : W.rangeAt z 0 (cellsOf k)
  tq : W.there q 0 32
  qz : q ≠ p ∧ z ≠ p ∧ q ≠ z ∧ w.heap.size ≤ q ∧ w.heap.size ≤ z
  qv : ∀ i, ve.ownBlock = some i → i < w.heap.size
theorem UM.below {w W W' : World} {p q z D : Nat} {k x0 : Sum} {T : List Sum} {ve : Value} {e : List UInt8} (h : UM w W p q z D k x0 T ve e) (hb : Below W.heap.size W W') : UM w W' p q z D k x0 T ve e :=
  have kk := Keeps.of_below (X := fun _ => False) hb
  ⟨h.kp.trans (kk.mono (fun _ h => h.elim)), h.rows.below hb, h.en.below hb, kk.range h.key (fun h => h), kk.there h.tq (by decide) (fun h => h), h.qz, h.qv⟩
theorem boths_drop {k x0 t : Sum} {T : List Sum} {d : Nat} (ht : T[d]? = some t) (hd : d < 256) : boths k (256 - d) (T.drop d) x0 = both k (255 - d) t (wayUp k (256 - (d + 1)) (T.drop (d + 1)) x0) :: boths k (256 - (d + 1)) (T.drop (d + 1)) x0 := by
  rw [drop_at ht, show 256 - d = (255 - d) + 1 by omega, boths, show 256 - (d + 1) = 255 - d by omega]
theorem wayUp_drop {k x0 t : Sum} {T : List Sum} {d : Nat} (ht : T[d]? = some t) (hd : d < 256) : wayUp k (256 - d) (T.drop d) x0 = sd (both k (255 - d) t (wayUp k (256 - (d + 1)) (T.drop (d + 1)) x0)).1 (both k (255 - d) t (wayUp k (256 - (d + 1)) (T.drop (d + 1)) x0)).2 := by
  rw [drop_at ht, show 256 - d = (255 - d) + 1 by omega, wayUp, show 256 - (d + 1) = 255 - d by omega, join_both]
/-- What it has come to is laid into its row. -/
theorem UW.lay {w W : World} {p q z d b : Nat} {k x0 t : Sum} {T : List Sum} {ve : Value} {e : List UInt8} (h : UW w W p q z (d + 1) k x0 T ve e) (hd : d < 256) (hT : T.length = 256) (ht : T[d]? = some t) (hb : b = (kn k >>> (255 - d)) % 2) :
    UM w (W.setCells p (32 + d * 64 + b * 32) (cellsOf (wayUp k (256 - (d + 1)) (T.drop (d + 1)) x0))) p q z d k x0 T ve e := by
  have kk := keeps_setCells W p (32 + d * 64 + b * 32) (cellsOf (wayUp k (256 - (d + 1)) (T.drop (d + 1)) x0))
  have hlA : (dups (T.take d)).length = d := by rw [length_dups, List.length_take, hT]; omega
  have hro := h.rows
  rw [dups_snoc ht, List.append_assoc, List.singleton_append] at hro
  obtain ⟨h1, h2, h3, h4, h5⟩ := h.qz
  have hb2 : b < 2 := by omega
  refine ⟨h.kp.trans kk, ?_, h.en.store (by rw [length_cellsOf]; omega), kk.range h.key (fun e => h2 e), kk.there h.tq (by decide) (fun e => h1 e), h.qz, h.qv⟩
  rw [boths_drop ht hd]
  by_cases hb1 : b = 1
  · have hbit : (kn k).testBit (255 - d) = true := (bit_ne k (255 - d)).1 (by rw [← hb, hb1])
    have := hro.right (wayUp k (256 - (d + 1)) (T.drop (d + 1)) x0) (by rw [hlA]; exact hd)
    rw [hlA] at this
    unfold both
    rw [hbit, if_pos rfl, hb1, Nat.one_mul]
    exact this
  · have hb0 : b = 0 := by omega
    have hbit : ¬ (kn k).testBit (255 - d) = true := fun e => hb1 (by rw [hb]; exact (bit_ne k (255 - d)).2 e)
    have := hro.left (wayUp k (256 - (d + 1)) (T.drop (d + 1)) x0) (by rw [hlA]; exact hd)
    rw [hlA] at this
    unfold both
    rw [if_neg hbit, hb0, Nat.zero_mul, Nat.add_zero]
    exact this
/-- What it comes to is told anew. -/
theorem UM.tell {w W : World} {p q z d : Nat} {k x0 : Sum} {T : List Sum} {ve : Value} {e : List UInt8} (h : UM w W p q z d k x0 T ve e) :
    UW w (W.setCells q 0 (cellsOf (wayUp k (256 - d) (T.drop d) x0))) p q z d k x0 T ve e := by
  have kk := keeps_setCells W q 0 (cellsOf (wayUp k (256 - d) (T.drop d) x0))
  obtain ⟨h1, h2, h3, h4, h5⟩ := h.qz
  refine ⟨h.kp.trans' kk (fun i hi => .inr (by omega)), h.rows.keep kk (fun e => h1 e.symm), h.en.keep kk (fun e => h1 e.symm) (fun i hi e => by have := h.qv i hi; omega), kk.range h.key (fun e => h3 e.symm), range_stored _ _ _ _ (by rw [length_cellsOf]; exact World.there_setCells h.tq _ _ _), World.there_setCells h.tq _ _ _, h.qz, h.qv⟩
/-- The row's two sides. -/
theorem UM.row {w W : World} {p q z d : Nat} {k x0 t : Sum} {T : List Sum} {ve : Value} {e : List UInt8} (h : UM w W p q z d k x0 T ve e) (hd : d < 256) (hT : T.length = 256) (ht : T[d]? = some t) :
    W.rangeAt p (32 + d * 64) (cellsOf (both k (255 - d) t (wayUp k (256 - (d + 1)) (T.drop (d + 1)) x0)).1) ∧ W.rangeAt p (32 + d * 64 + 32) (cellsOf (both k (255 - d) t (wayUp k (256 - (d + 1)) (T.drop (d + 1)) x0)).2) := by
  have hlA : (dups (T.take d)).length = d := by rw [length_dups, List.length_take, hT]; omega
  have hro := h.rows
  rw [boths_drop ht hd] at hro
  have := hro.row_at
  rw [hlA] at this
  exact this
end Go.Proofs.Ytfmgoehnbaiamaa
-- Walk: splits.way.up.
namespace Go.Proofs.Ytfmgoehnbaiamaa
open Keys (Rise Pr kn)
set_option maxRecDepth 100000 in
set_option maxHeartbeats 2000000 in
theorem up_any (k x0 : Sum) (T : List Sum) (p : Nat) (ve : Value) (e : List UInt8) (w : World) (hT : T.length = 256) (hr : WayR w p 0 (dups T)) (he : EndR w p ve e) (hx : sh e = x0) (hl : e.length < 72057594037927936) (hv : ∀ i, ve.ownBlock = some i → i < w.heap.size) :
    Calls Try.prog 89 #[.pointer (some ⟨p, 0, none⟩), sv k] w fun r w' => r = .returned (.pointer (some ⟨p, 0, none⟩)) ∧ WayAt w' p (wayUp k 256 T x0) (boths k 256 T x0) ve e ∧ Keeps (fun i => i = p) w w' := by
  have hb0 := al (Below.refl _ w) (.cells (cellsOf k).toArray 29)
  have H0 := Lib.hid (And.intro hb0 (And.intro (range_new w (cellsOf k).toArray 29 _ rfl) (And.intro (hr.below hb0) (he.below hb0))))
  have hpw : p < w.heap.size := there_lt hr.th (by decide)
  have hc := (he.below hb0).en
  obtain ⟨z, hz⟩ : ∃ z, z = w.heap.size := ⟨_, rfl⟩
  have HZ := Lib.hid (And.intro hz (And.intro hpw (And.intro hv (And.intro hT (And.intro hx hl)))))
  clear hb0 hr he hpw hz hx hl hv hT
  go_enter Try.func89, Try.ntmps89
  go_wp2_with fail
  refine (sh_any e ve _ H0.out.2.2.2.bt HZ.out.2.2.2.2.2).mono ?_
  rw [HZ.out.2.2.2.2.1]
  rintro r w1 ⟨rfl, hb⟩
  rw [← HZ.out.1]
  have H1 := Lib.hid (And.intro (H0.out.1.trans (hb.mono H0.out.1.size)) (And.intro ((Keeps.of_below (X := fun _ => False) hb).range H0.out.2.1 (fun h => h)) (And.intro (H0.out.2.2.1.below hb) (And.intro (H0.out.2.2.2.below hb) (show w.heap.size < w1.heap.size from Nat.lt_of_lt_of_le (by rw [World.size_alloc]; omega) hb.size)))))
  clear hb hc H0
  have HG := Lib.hid trivial
  go_wp2_with (have _ := HG; refine wpList_var_sum (by rfl) rfl _ _ rfl x0 rfl rfl ?_; intro W2 hb hr ht; obtain ⟨q, hq⟩ : ∃ q, q = w1.heap.size := ⟨_, rfl⟩; rw [← hq] at hr ht ⊢; have H2 := Lib.hid (And.intro hb (And.intro hr (And.intro ht hq))); clear HG hb hr ht hq)
  have hU : UW w W2 p q z 256 k x0 T ve e := by
    have hlen := HZ.out.2.2.2.1
    have e1 : T.take 256 = T := List.take_of_length_le (by omega)
    have e2 : T.drop 256 = [] := List.drop_eq_nil_of_le (by omega)
    have hbw := H1.out.1.trans (H2.out.1.mono H1.out.1.size)
    have hz := HZ.out.1
    have hq := H2.out.2.2.2
    have hlt := H1.out.2.2.2.2
    have hp := HZ.out.2.1
    refine ⟨Keeps.of_below hbw, ?_, H1.out.2.2.2.1.below H2.out.1, ?_, ?_, H2.out.2.2.1, ⟨by omega, by omega, by omega, by omega, by omega⟩, HZ.out.2.2.1⟩
    · rw [e1, e2]
      have : boths k (256 - 256) [] x0 = [] := rfl
      rw [this, List.append_nil]
      exact H1.out.2.2.1.below H2.out.1
    · rw [hz]; exact (Keeps.of_below (X := fun _ => False) H2.out.1).range H1.out.2.1 (fun h => h)
    · rw [e2]; exact H2.out.2.1
  have HU := Lib.hid hU
  clear hU H1 H2
  go_loopw [6] (fun dv W => ∃ D : Nat, D ≤ 256 ∧ dv = .int .i64 ((D : Int) - 1) ∧ UW w W p q z D k x0 T ve e) (fun dv _ => (intOf dv + 1).toNat)
  case atStart => exact ⟨256, Nat.le_refl _, rfl, HU.out⟩
  case round =>
    clear HU
    obtain ⟨D, hD, rfl, hU⟩ := hrel
    have HU := Lib.hid hU
    clear hU
    cases D with
    | zero =>
      have e0 : ((0 : Nat) : Int) - 1 = -1 := rfl
      rw [e0]
      clear e0
      obtain ⟨X, hX⟩ : ∃ X, X = wayUp k 256 T x0 := ⟨_, rfl⟩
      have hx := HU.out.x
      rw [List.drop_zero, show 256 - 0 = 256 from rfl, ← hX] at hx
      have HX := Lib.hid (And.intro hX hx)
      clear hX hx
      go_wp2_with (first
        | (refine wpList_load_sum rfl _ rfl q 0 rfl X HX.out.2 ?_)
        | (refine wpList_store_sum rfl _ _ rfl p 0 X rfl rfl (HU.out.rows.at (by omega)) ?_))
      have hrt := HU.out.rows.root X
      have hrw := hrt.1
      rw [List.take_zero, List.drop_zero, show dups [] = [] from rfl, List.nil_append, show 256 - 0 = 256 from rfl] at hrw
      have hen := HU.out.en.store (o := 0) (vs := cellsOf X) (by rw [length_cellsOf]; omega)
      refine bodyPost_ret (results_tmp rfl _ _ _) rfl ?_
      refine ⟨rfl, ⟨hrw, ?_, hen⟩, HU.out.kp.trans (keeps_setCells wr p 0 (cellsOf X))⟩
      rw [← HX.out.1]
      exact hrt.2
    | succ d =>
      have e0 : ((d + 1 : Nat) : Int) - 1 = (d : Int) := by omega
      rw [e0]
      clear e0
      have hd0 : (0 : Int) ≤ (d : Int) := Int.natCast_nonneg _
      have hd1 : decide ((0 : Int) ≤ (d : Int)) = true := decide_eq_true hd0
      have hd2 : (d : Int) < 256 := by omega
      have HD := Lib.hid hD
      clear hD
      obtain ⟨t, ht⟩ : ∃ t, T[d]? = some t := ⟨_, List.getElem?_eq_getElem (by rw [HZ.out.2.2.2.1]; exact HD.out)⟩
      obtain ⟨X, hX⟩ : ∃ X, X = wayUp k (256 - (d + 1)) (T.drop (d + 1)) x0 := ⟨_, rfl⟩
      obtain ⟨b, hb⟩ : ∃ b, b = (kn k >>> (255 - d)) % 2 := ⟨_, rfl⟩
      have hx := HU.out.x
      rw [← hX] at hx
      have hb0 : (0 : Int) ≤ (b : Int) := Int.natCast_nonneg _
      have hb2 : (b : Int) < 2 := by omega
      have HX1 := Lib.hid (And.intro ht (And.intro hX hb))
      clear hx ht hX hb
      go_wp2_with fail
      refine wp_region_sched (fun W => UW w W p q z (d + 1) k x0 T ve e) [.t 0, .t 1, .t 3, .t 6, .t 7, .t 8, .s 2, .s 5, .e 4 true, .t 9, .e 10 false] (by kernel_rfl) (by kernel_rfl) (by intro c a d v w h; cases d <;> exact h) ?_
      have HS := Lib.hid (HU.out.below (Below.refl _ _).drew)
      clear HU
      generalize wr.drew = V at *
      iterate 6
        refine wpS_t rfl (v := ?_) (by rfl) (fun W => ?_) ?_
        rotate_left
        · go_simp
          try rfl
        try simp only [Act.put, List.setIfInBounds_toArray, List.set_cons_zero, List.set_cons_succ]
      refine wpS_load_sum (by exact HS.out) rfl (by rfl) _ (by rfl) z 0 (by rfl) k (fun W hW => hW.key) ?_
      try simp only [Act.put, List.setIfInBounds_toArray, List.set_cons_zero, List.set_cons_succ]
      refine wpS_load_sum (by exact HS.out) rfl (by rfl) _ (by rfl) q 0 (by rfl) X (fun W hW => by rw [HX1.out.2.1]; exact hW.x) ?_
      try simp only [Act.put, List.setIfInBounds_toArray, List.set_cons_zero, List.set_cons_succ]
      refine wpS_k rfl (by rfl) (fun K hK => ?_)
      go_simp
      have hc := bit_any k d V HD.out
      rw [← HX1.out.2.2] at hc
      refine hc.mono ?_
      clear hc
      rintro r V1 ⟨rfl, hb⟩
      have HS1 := Lib.hid (HS.out.below hb)
      clear hb HS
      refine hK _ _ ⟨by exact HS1.out, ?_⟩; clear hK K
      try simp only [Act.put, List.setIfInBounds_toArray, List.set_cons_zero, List.set_cons_succ]
      iterate 1
        refine wpS_t rfl (v := ?_) (by rfl) (fun W => ?_) ?_
        rotate_left
        · go_simp
          try rfl
        try simp only [Act.put, List.setIfInBounds_toArray, List.set_cons_zero, List.set_cons_succ]
      refine wpS_e rfl (by rfl) (fun K hK => ?_)
      refine wp_store_sum _ _ (by rfl) p (32 + d * 64 + b * 32) X (by rfl) (by rfl) (HS1.out.rows.at (by have := HD.out; omega)) ?_
      have hM := HS1.out.lay (by have := HD.out; omega) HZ.out.2.2.2.1 HX1.out.1 HX1.out.2.2
      rw [← HX1.out.2.1] at hM
      have HM := Lib.hid hM
      clear hM HS1
      refine hK _ _ ?_; clear hK K
      try simp only [Act.put]
      change wpS _ _ _ _ _ _ _ (V1.setCells p (32 + d * 64 + b * 32) (cellsOf X))
      generalize V1.setCells p (32 + d * 64 + b * 32) (cellsOf X) = V2 at *
      refine wpS_done ?_
      clear hb0 hb2
      obtain ⟨s1, hs1⟩ : ∃ s, s = (both k (255 - d) t X).1 := ⟨_, rfl⟩
      obtain ⟨s2, hs2⟩ : ∃ s, s = (both k (255 - d) t X).2 := ⟨_, rfl⟩
      have hrow : ∀ V, UM w V p q z d k x0 T ve e → V.rangeAt p (32 + d * 64) (cellsOf s1) ∧ V.rangeAt p (32 + d * 64 + 32) (cellsOf s2) := fun V hV => by
        have := hV.row (by have := HD.out; omega) HZ.out.2.2.2.1 HX1.out.1
        rw [← HX1.out.2.1, ← hs1, ← hs2] at this
        exact this
      have hup : sd s1 s2 = wayUp k (256 - d) (T.drop d) x0 := by
        rw [wayUp_drop HX1.out.1 (by have := HD.out; omega), ← HX1.out.2.1, hs1, hs2]
      obtain ⟨Y, hY⟩ : ∃ Y, Y = sd s1 s2 := ⟨_, rfl⟩
      rw [← hY] at hup
      have HY := Lib.hid (And.intro hrow (And.intro hup hY))
      clear hrow hup hY hs1 hs2
      go_wp2_with fail
      refine wp_region_sched (fun W => UM w W p q z d k x0 T ve e) [.t 0, .t 1, .t 2, .t 3, .t 4, .t 5, .t 7, .t 8, .t 9, .t 10, .t 11, .t 12, .s 6, .e 13 true, .e 14 false, .e 15 false] (by kernel_rfl) (by kernel_rfl) (by intro c a d v w h; cases d <;> exact h) ?_
      have HS := Lib.hid (HM.out.below (Below.refl _ _).drew)
      clear HM
      generalize V2.drew = V3 at *
      iterate 12
        refine wpS_t rfl (v := ?_) (by rfl) (fun W => ?_) ?_
        rotate_left
        · go_simp
          try rfl
        try simp only [Act.put, List.setIfInBounds_toArray, List.set_cons_zero, List.set_cons_succ]
      refine wpS_load_sum (by exact HS.out) rfl (by rfl) _ (by rfl) p (32 + d * 64) (by rfl) s1 (fun W hW => (HY.out.1 W hW).1) ?_
      try simp only [Act.put, List.setIfInBounds_toArray, List.set_cons_zero, List.set_cons_succ]
      refine wpS_k rfl (by rfl) (fun K hK => ?_)
      refine wp_load_sum _ (by rfl) p (32 + d * 64 + 32) (by rfl) s2 (HY.out.1 _ HS.out).2 ?_
      refine hK _ _ ⟨by exact HS.out, ?_⟩; clear hK K
      try simp only [Act.put, List.setIfInBounds_toArray, List.set_cons_zero, List.set_cons_succ]
      refine wpS_e rfl (by rfl) (fun K hK => ?_)
      go_simp
      have hc := sd_any s1 s2 V3
      rw [← HY.out.2.2] at hc
      refine hc.mono ?_
      clear hc
      rintro r V4 ⟨rfl, hb⟩
      have HS1 := Lib.hid (HS.out.below hb)
      clear hb HS
      refine hK _ _ ?_; clear hK K
      try simp only [Act.put, List.setIfInBounds_toArray, List.set_cons_zero, List.set_cons_succ]
      refine wpS_e rfl (by rfl) (fun K hK => ?_)
      refine wp_store_sum _ _ (by rfl) q 0 Y (by rfl) (by rfl) HS1.out.tq ?_
      have hU := HS1.out.tell
      rw [← HY.out.2.1] at hU
      have HU := Lib.hid hU
      clear hU HS1
      refine hK _ _ ?_; clear hK K
      try simp only [Act.put]
      change wpS _ _ _ _ _ _ _ (V4.setCells q 0 (cellsOf Y))
      generalize V4.setCells q 0 (cellsOf Y) = V5 at *
      refine wpS_done ?_
      have hw2 : wrap64 ((d : Int) - 1) = (d : Int) - 1 := by have := HD.out; unfold wrap64; omega
      go_wp2_with fail
      try rw [hw2]
      exact ⟨⟨d, by have := HD.out; omega, rfl, HU.out⟩, by simp only [intOf]; omega⟩
end Go.Proofs.Ytfmgoehnbaiamaa
-- Walk: splits.leads.
namespace Go.Proofs.Ytfmgoehnbaiamaa
open Keys (Rise Pr kn)
theorem infoTwo : (Try.prog.info? 105).map (·.size) = some 64 := by kernel_rfl
theorem infoTwoZ : (Try.prog.info? 105).map (fun i => i.zero.map fun z => z.cells.size) = some (some 64) := by kernel_rfl
theorem wp_store_two {op : Oper} {a : Act} {w : World} {K : Act → World → Prop} {Q : Exit → Act → World → Prop} (x y : Operand) (ho : op.op = .store 105 x y)
    (b o : Nat) (s t : Sum) (hx : a.eval x = .pointer (some ⟨b, o, none⟩)) (hy : a.eval y = bv s t) (ht : w.there b o 64) (h : K (a.put op.dst undef) (w.setCells b o (cells2 s t))) : op.wp Try.prog a w K Q :=
  wp_store_mid _ x y ho b o _ hx hy (by simpa [length_cells2] using ht) (by simpa [length_cells2] using infoTwo) (all_cells2 s t) h
set_option maxRecDepth 100000 in
theorem build_two (x y : Sum) (w : World) : (Instr.build 105 #[(0, .agg (cellsOf x).toArray), (1, .agg (cellsOf y).toArray)]).run Try.prog w = .ok (bv x y) w := by
  obtain ⟨ib, hib, hzb⟩ := Option.map_eq_some_iff.1 infoTwoZ
  obtain ⟨zb, hz, hzs⟩ := Option.map_eq_some_iff.1 hzb
  obtain ⟨i, z, hi, hz1, hs, hb, hz2⟩ := info_sum
  refine run_build w _ _ _ ?_
  unfold Program.built
  simp only [hib, Try.underlying105, hz, hi, hs]
  have := Great.fill_whole (s := 32) (by omega) [sv x, sv y] zb.cells (fun v hv => by
    rcases List.mem_cons.1 hv with rfl | hv
    · exact size_cellsOf x
    · rw [List.mem_singleton.1 hv]; exact size_cellsOf y) (by rw [hzs]; rfl)
  refine this.trans ?_
  congr 1
  simp [cells2, Value.cells]
theorem exec_build_two {f : Operand → Value} {o : Oper} (parts : Array (Nat × Operand)) (ho : o.op = .build 105 parts) (x y : Sum) (hp : (parts.toList.map fun (i, x) => (i, f x)) = [(0, sv x), (1, sv y)]) (W : World) :
    (execOp f o).run Try.prog W = .ok (.value (bv x y)) W := by
  have : (parts.map fun (i, x) => (i, f x)) = #[(0, sv x), (1, sv y)] := by
    apply Array.toList_inj.1
    rw [Array.toList_map]; exact hp
  unfold execOp
  simp only [ho, Sem.run_bind, Sem.run_pure, Result.andThen_ok, this, build_two]
set_option maxRecDepth 100000 in
theorem wpList_build_way {ops : Array Oper} {rest : List Oper} {op : Oper} {a : Act} {w : World} {Q : Exit → Act → World → Prop} (hgd : op.guard = none) (parts : Array (Nat × Operand)) (ho : op.op = .build 108 parts)
    (v : Value) (hv : v.cells = #[v]) (hp : (parts.toList.map fun (i, x) => (i, a.eval x)) = [(2, v)])
    (h : wpList Try.prog ops Q rest (a.put op.dst (.agg (zway.setIfInBounds 16416 v))) w) : wpList Try.prog ops Q (op :: rest) a w :=
  wpList_build_by hgd 108 parts ho (.agg (zway.setIfInBounds 16416 v)) (fun W => by
    have : (parts.map fun (i, x) => (i, a.eval x)) = #[(2, v)] := by
      apply Array.toList_inj.1
      rw [Array.toList_map]; exact hp
    rw [this]
    exact build_way v hv W) h
set_option maxRecDepth 100000 in
theorem wpList_build_way0 {ops : Array Oper} {rest : List Oper} {op : Oper} {a : Act} {w : World} {Q : Exit → Act → World → Prop} (hgd : op.guard = none) (ho : op.op = .build 108 #[])
    (h : wpList Try.prog ops Q rest (a.put op.dst (.agg zway)) w) : wpList Try.prog ops Q (op :: rest) a w :=
  wpList_build_by hgd 108 #[] ho (.agg zway) (fun W => by rw [Array.map_empty]; exact build_way0 W) h
/-- A new way. -/
theorem way_new (w : World) (ve : Value) (e : List UInt8) (he : BytesAt w ve e) (hv : ∀ k, ve.ownBlock = some k → k < w.heap.size) :
    WayR (w.alloc (.cells (zway.setIfInBounds 16416 ve) 108)) w.heap.size 256 (dups []) ∧ EndR (w.alloc (.cells (zway.setIfInBounds 16416 ve) 108)) w.heap.size ve e := by
  have hs : (zway.setIfInBounds 16416 ve).size = 16417 := by rw [Array.size_setIfInBounds, zway_size]
  have ht := there_new w (zway.setIfInBounds 16416 ve) 108
  rw [hs] at ht
  refine ⟨⟨ht, range_nil _ _ _⟩, ⟨?_, bytes_below he (al (Below.refl _ _) _) (Nat.le_refl _), fun k hk => by have := hv k hk; omega⟩⟩
  rw [cell_of_row _ _ _ _ _ (0, 0) (heap_alloc_new w _), Array.getElem?_setIfInBounds, if_pos rfl, if_pos (by rw [zway_size]; decide)]
/-- What leads has in hand. -/
structure LB (w W : World) (p z y D : Nat) (k which : Sum) (vS : Value) (S T : List Sum) (ve : Value) (e : List UInt8) : Prop where
  bw : Below w.heap.size w W
  rows : WayR W p D (dups T)
  en : EndR W p ve e
  key : W.rangeAt z 0 (cellsOf k)
  sh : W.rangeAt y 0 (cellsShow which vS)
  sums : SumsAt w vS S
  pz : w.heap.size ≤ p ∧ z < p ∧ y < p
  qv : ∀ i, ve.ownBlock = some i → i < p
theorem LB.below {w W W' : World} {p z y D : Nat} {k which : Sum} {vS : Value} {S T : List Sum} {ve : Value} {e : List UInt8} (h : LB w W p z y D k which vS S T ve e) (hb : Below W.heap.size W W') : LB w W' p z y D k which vS S T ve e :=
  have kk := Keeps.of_below (X := fun _ => False) hb
  ⟨h.bw.trans (hb.mono h.bw.size), h.rows.below hb, h.en.below hb, kk.range h.key (fun h => h), kk.range h.sh (fun h => h), h.sums, h.pz, h.qv⟩
theorem LB.slice {w W : World} {p z y D : Nat} {k which : Sum} {vS : Value} {S T : List Sum} {ve : Value} {e : List UInt8} (h : LB w W p z y D k which vS S T ve e) : W.cell? ⟨y, 32, none⟩ = some vS := cell_show h.sh
/-- And a sum of its own. -/
structure LE (w W : World) (p z y q D n : Nat) (k which : Sum) (vS : Value) (S T : List Sum) (ve : Value) (e : List UInt8) : Prop where
  lb : LB w W p z y D k which vS S T ve e
  no : W.rangeAt q 0 (cellsOf (em n))
  tq : W.there q 0 32
  pq : p < q
theorem LE.below {w W W' : World} {p z y q D n : Nat} {k which : Sum} {vS : Value} {S T : List Sum} {ve : Value} {e : List UInt8} (h : LE w W p z y q D n k which vS S T ve e) (hb : Below W.heap.size W W') : LE w W' p z y q D n k which vS S T ve e :=
  have kk := Keeps.of_below (X := fun _ => False) hb
  ⟨h.lb.below hb, kk.range h.no (fun h => h), kk.there h.tq (by decide) (fun h => h), h.pq⟩
theorem LE.row {w W : World} {p z y q d n : Nat} {k which t : Sum} {vS : Value} {S T : List Sum} {ve : Value} {e : List UInt8} (h : LE w W p z y q (d + 1) n k which vS S T ve e) (hd : d < 256) : LE w (W.setCells p (32 + d * 64) (cells2 t t)) p z y q d n k which vS S (t :: T) ve e := by
  have kk := keeps_setCells W p (32 + d * 64) (cells2 t t)
  obtain ⟨h1, h2, h3⟩ := h.lb.pz
  have hpq := h.pq
  have hr := h.lb.rows.ahead (t, t) hd
  exact ⟨⟨setCells_below _ h1 _ _ _ _ h.lb.bw, hr, h.lb.en.store (by rw [length_cells2]; omega), kk.range h.lb.key (by omega), kk.range h.lb.sh (by omega), h.lb.sums, h.lb.pz, h.lb.qv⟩, kk.range h.no (by omega), kk.there h.tq (by decide) (by omega), h.pq⟩
theorem LE.none {w W : World} {p z y q D n : Nat} {k which : Sum} {vS : Value} {S T : List Sum} {ve : Value} {e : List UInt8} (h : LE w W p z y q D n k which vS S T ve e) : LE w (W.setCells q 0 (cellsOf (em (n + 1)))) p z y q D (n + 1) k which vS S T ve e := by
  have kk := keeps_setCells W q 0 (cellsOf (em (n + 1)))
  obtain ⟨h1, h2, h3⟩ := h.lb.pz
  have hpq := h.pq
  exact ⟨⟨setCells_below _ (by omega) _ _ _ _ h.lb.bw, h.lb.rows.keep kk (by omega), h.lb.en.keep kk (by omega) (fun i hi => by have := h.lb.qv i hi; omega), kk.range h.lb.key (by omega), kk.range h.lb.sh (by omega), h.lb.sums, h.lb.pz, h.lb.qv⟩, range_stored _ _ _ _ (by rw [length_cellsOf]; exact World.there_setCells h.tq _ _ _), World.there_setCells h.tq _ _ _, h.pq⟩
/-- A store beyond. -/
theorem LE.apart {w W W' : World} {p z y q D n r : Nat} {k which : Sum} {vS : Value} {S T : List Sum} {ve : Value} {e : List UInt8} (h : LE w W p z y q D n k which vS S T ve e) (kk : Keeps (fun i => i = r) W W') (hr : q < r) : LE w W' p z y q D n k which vS S T ve e := by
  obtain ⟨h1, h2, h3⟩ := h.lb.pz
  have hpq := h.pq
  exact ⟨⟨h.lb.bw.trans (kk.below h.lb.bw.size (fun i hi => by omega)), h.lb.rows.keep kk (by omega), h.lb.en.keep kk (by omega) (fun i hi => by have := h.lb.qv i hi; omega), kk.range h.lb.key (by omega), kk.range h.lb.sh (by omega), h.lb.sums, h.lb.pz, h.lb.qv⟩, kk.range h.no (by omega), kk.there h.tq (by decide) (by omega), h.pq⟩
end Go.Proofs.Ytfmgoehnbaiamaa
