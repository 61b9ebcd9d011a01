/-
  Merged: S18.
-/
import Derived.Test.YtfmgoehnbaiamaaZS3
import Derived.Test.YtfmgoehnbaiamaaV3
-- Walk: ShowsNear.
open Go Go.RowKit Alm
namespace Go.Proofs.Ytfmgoehnbaiamaa
theorem sides_step {T : List (Option Sum)} {j : Nat} {x : Option Sum} (h : T[j]? = some x) : sidesOf (T.take (j + 1)) = sidesOf (T.take j) ++ x.toList ∧ sidesOf T = sidesOf (T.take (j + 1)) ++ sidesOf (T.drop (j + 1)) := by
  obtain ⟨hi, e⟩ := List.getElem?_eq_some_iff.1 h
  refine ⟨?_, ?_⟩
  · rw [List.take_succ_eq_append_getElem hi, e]
    unfold sidesOf
    rw [List.filterMap_append]
    cases x <;> rfl
  · unfold sidesOf
    rw [← List.filterMap_append, List.take_append_drop]
theorem sides_at {T : List (Option Sum)} {j : Nat} {t : Sum} (h : T[j]? = some (some t)) : (sidesOf T)[(sidesOf (T.take j)).length]? = some t ∧ (sidesOf (T.take (j + 1))).length = (sidesOf (T.take j)).length + 1 := by
  obtain ⟨h1, h2⟩ := sides_step h
  refine ⟨?_, by rw [h1]; simp⟩
  rw [h2, h1, List.append_assoc, List.getElem?_append_right (Nat.le_refl _), Nat.sub_self]
  rfl
theorem sides_no {T : List (Option Sum)} {j : Nat} (h : T[j]? = some none) : sidesOf (T.take (j + 1)) = sidesOf (T.take j) := by
  rw [(sides_step h).1]; simp
theorem sums_elem {w : World} {b o n c : Nat} {S : List Sum} (h : SumsAt w (.slice (some ⟨b, o, none⟩) n c) S) {i : Nat} {t : Sum} (ht : S[i]? = some t) : w.rangeAt b (o + i * 32) (cellsOf t) := by
  obtain ⟨a, cap, he, h1, h2, h3⟩ := h
  simp only [Value.slice.injEq] at he
  obtain ⟨rfl, -, -⟩ := he
  obtain ⟨hi, e⟩ := List.getElem?_eq_some_iff.1 ht
  obtain ⟨b', o', hb, hr⟩ := h3.resolve_left (by intro e; rw [e] at hi; simp at hi)
  simp only [Option.some.injEq, Addr.mk.injEq, and_true] at hb
  obtain ⟨rfl, rfl⟩ := hb
  rw [← e]
  exact range_at hr hi
theorem sums_ptr {w : World} {a : Option Addr} {n c : Nat} {S : List Sum} (h : SumsAt w (.slice a n c) S) {i : Nat} {t : Sum} (ht : S[i]? = some t) : ∃ b o, a = some ⟨b, o, none⟩ := by
  obtain ⟨a, cap, he, h1, h2, h3⟩ := h
  simp only [Value.slice.injEq] at he
  obtain ⟨rfl, -, -⟩ := he
  obtain ⟨hi, e⟩ := List.getElem?_eq_some_iff.1 ht
  obtain ⟨b', o', hb, hr⟩ := h3.resolve_left (by intro e; rw [e] at hi; simp at hi)
  exact ⟨b', o', hb⟩
theorem bit_ne (k : Sum) (i : Nat) : (Keys.kn k >>> i) % 2 = 1 ↔ (Keys.kn k).testBit i = true := by
  rw [shift_mod]; split <;> simp [*]
theorem bit_eq {k o : Sum} {i : Nat} : (Keys.kn k >>> i) % 2 = (Keys.kn o >>> i) % 2 ↔ (Keys.kn k).testBit i = (Keys.kn o).testBit i := by
  rw [shift_mod, shift_mod]
  cases (Keys.kn k).testBit i <;> cases (Keys.kn o).testBit i <;> simp
set_option maxRecDepth 100000 in
set_option maxHeartbeats 4000000 in
theorem showsNear_any (P : List Keys.Pr) (v : Value) (k : Sum) (mo : Sum) (w : World) (hv : PairsAt w v P) : Calls Try.prog 14 #[v, sv k, sv mo] w fun e w' => e = .returned (.bool true) ∧ Below w.heap.size w w' := by
  have hs1 : (w.alloc (.cells (cellsOf k).toArray 29)).heap.size = w.heap.size + 1 := Array.size_push _
  have hb0 := al (al (Below.refl _ w) (.cells (cellsOf k).toArray 29)) (.cells (cellsOf mo).toArray 29)
  have r1 := World.rangeAt_alloc (range_new w (cellsOf k).toArray 29 _ rfl) (.cells (cellsOf mo).toArray 29)
  have r2 := range_new (w.alloc (.cells (cellsOf k).toArray 29)) (cellsOf mo).toArray 29 _ rfl
  rw [hs1] at r2
  obtain ⟨z, hz⟩ : ∃ z, z = w.heap.size := ⟨_, rfl⟩
  obtain ⟨zm, hzm⟩ : ∃ z, z = w.heap.size + 1 := ⟨_, rfl⟩
  rw [← hz] at r1
  rw [← hzm] at r2
  have H0 := Lib.hid (And.intro hb0 (And.intro (And.intro r1 r2) (hv.below hb0)))
  have HZ := Lib.hid (And.intro hz hzm)
  clear r1 r2 hz hzm hs1
  clear hb0
  obtain ⟨a, cap, rfl, h1, h2⟩ := pairs_form hv
  obtain ⟨N, hN⟩ : ∃ N, N = P.length := ⟨_, rfl⟩
  rw [← hN] at H0 h1
  rw [← hN]
  have HN := Lib.hid hN
  clear hv hN h2
  go_enter Try.func14, Try.ntmps14
  go_wp2_with fail
  rw [← HZ.out.2, ← HZ.out.1]
  generalize (w.alloc (.cells (cellsOf k).toArray 29)).alloc (.cells (cellsOf mo).toArray 29) = W0 at *
  refine (great16_any P _ W0 H0.out.2.2).mono ?_
  rintro e W1 ⟨r, rfl, hr, hb⟩
  have HB1 := Lib.hid (H0.out.1.trans (hb.mono H0.out.1.size))
  have HR1 := Lib.hid (And.intro ((Keeps.of_below (X := fun _ => False) hb).range H0.out.2.1.1 (fun h => h)) (And.intro ((Keeps.of_below (X := fun _ => False) hb).range H0.out.2.1.2 (fun h => h)) (H0.out.2.2.below hb)))
  clear hb H0 HZ
  cases r with
  | true =>
    clear hr HR1
    go_wp2_with fail
    refine (alive16_any W1).mono ?_
    rintro e W2 ⟨rfl, hb2⟩
    have HB2 := Lib.hid (HB1.out.trans (hb2.mono HB1.out.size))
    clear hb2
    go_wp2_with fail
    exact bodyPost_ret (results_tmp rfl _ _ _) rfl ⟨rfl, HB2.out⟩
  | false =>
    have HP := Lib.hid (hr rfl)
    clear hr
    go_wp2_with fail
    refine (of16_any P _ W1 HR1.out.2.2 (by have := HP.out; omega)).mono ?_
    rintro e W2 ⟨p, b, l, x, rfl, hm, hp, _, hbb, _, hb⟩
    rw [← HN.out] at hm
    have H2 := Lib.hid (show LW w W2 p b N l [(z, k), (zm, mo)] [] [] from ⟨HB1.out.trans (hb.mono HB1.out.size), hm, by have := HB1.out.size; omega, fun q hq => by
      rcases List.mem_cons.1 hq with rfl | hq
      · exact (Keeps.of_below (X := fun _ => False) hb).range HR1.out.1 (fun h => h)
      · rw [List.mem_singleton.1 hq]; exact (Keeps.of_below (X := fun _ => False) hb).range HR1.out.2.1 (fun h => h), by simp, by simp⟩)
    have hl := puts_few hp HP.out
    have HL := Lib.hid (And.intro hp (And.intro hl (And.intro (sides_few k hp HP.out) (sides_few mo hp HP.out))))
    clear hm hp hb HB1 HR1 hl hbb
    go_wp2_with (refine wpList_load_sum rfl _ rfl z 0 rfl k (H2.out.r (z, k) (by simp)) ?_)
    refine (sof_any k W2 p b N l H2.out.map (by have := HL.out.2.1; omega)).mono ?_
    rintro e W4 ⟨which, vS, rfl, hS4, hB4, hb⟩
    obtain ⟨S, hS⟩ : ∃ S, S = sidesOf (tells k 256 (prs l)) := ⟨_, rfl⟩
    have hsf := HL.out.2.2.1
    have hsm := hS4.sums
    rw [← hS] at hsm hsf
    have HBT := Lib.hid (And.intro hS hB4)
    obtain ⟨aS, cS, rfl, hf1, hf2⟩ := sums_form hsm
    obtain ⟨M, hM⟩ : ∃ M, M = S.length := ⟨_, rfl⟩
    rw [← hM] at hf1 hsm hsf
    rw [← hM]
    have H4 := Lib.hid (And.intro (H2.out.below hb) hsm)
    have HK := Lib.hid (And.intro hM hsf)
    clear hS4 hB4 hb hS hf2 hM H2 hsf hsm
    have k1 : (M : Int) ≤ (cS : Int) := by omega
    have HG := Lib.hid trivial
    go_wp2_with (first
      | (have _ := HG; refine wpList_var_show (by rfl) rfl _ _ rfl which (.slice aS M cS) (by rfl) rfl rfl ?_; intro W5 hb hr; obtain ⟨z9, hz9⟩ : ∃ x, x = W4.heap.size := ⟨_, rfl⟩; rw [← hz9] at hr ⊢; have H5 := Lib.hid ((H4.out.1.below hb).addS hr (H4.out.2.below hb (Nat.le_refl _))); clear HG hb hr hz9 H4)
      | (have _ := H5; refine wpList_load_sum rfl _ rfl zm 0 rfl mo (H5.out.r (zm, mo) (by simp)) ?_))
    refine (sof_any mo W5 p b N l H5.out.map (by have := HL.out.2.1; omega)).mono ?_
    rintro e W6 ⟨which2, vT, rfl, hS4, hB4, hb⟩
    obtain ⟨S2, hS2⟩ : ∃ S, S = sidesOf (tells mo 256 (prs l)) := ⟨_, rfl⟩
    have hsf := HL.out.2.2.2
    have hsm := hS4.sums
    rw [← hS2] at hsm hsf
    have HBT2 := Lib.hid (And.intro hS2 hB4)
    obtain ⟨aT, cT, rfl, hf3, hf2⟩ := sums_form hsm
    obtain ⟨MT, hMT⟩ : ∃ M, M = S2.length := ⟨_, rfl⟩
    rw [← hMT] at hf3 hsm hsf
    rw [← hMT]
    have H6 := Lib.hid (And.intro (H5.out.below hb) hsm)
    have HK2 := Lib.hid (And.intro hMT hsf)
    clear hS4 hB4 hb hS2 hf2 hMT H5 hsf hsm
    have k2 : (MT : Int) ≤ (cT : Int) := by omega
    have HG := Lib.hid trivial
    go_wp2_with (have _ := HG; refine wpList_var_show (by rfl) rfl _ _ rfl which2 (.slice aT MT cT) (by rfl) rfl rfl ?_; intro W7 hb hr; obtain ⟨z11, hz11⟩ : ∃ x, x = W6.heap.size := ⟨_, rfl⟩; rw [← hz11] at hr ⊢; have H7 := Lib.hid ((H6.out.1.below hb).addS hr (H6.out.2.below hb (Nat.le_refl _))); clear HG hb hr hz11 H6)
    clear hf1 hf3
    go_loopw [13, 14, 15] (fun av iv sv_ W => ∃ (j at_ : Nat), j ≤ 256 ∧ iv = .int .i64 (j : Int) ∧ av = .int .i64 (at_ : Int) ∧ (∀ i, i < j → (Keys.kn k).testBit (255 - i) = (Keys.kn mo).testBit (255 - i)) ∧ at_ = (sidesOf ((tells k 256 (prs l)).take j)).length ∧ LW w W p b N l [(z, k), (zm, mo)] [] [(z11, which2, .slice aT MT cT, S2), (z9, which, .slice aS M cS, S)]) (fun _ iv _ _ => 256 - (intOf iv).toNat)
    case atStart => exact ⟨0, 0, by omega, rfl, rfl, fun i hi => by omega, rfl, H7.out⟩
    case round =>
      clear H7
      obtain ⟨j, at_, hj, rfl, rfl, hag, hat, hS⟩ := hrel
      have H7 := Lib.hid hS
      have HA := Lib.hid (And.intro hag hat)
      clear hS hag hat
      by_cases hlt : j < 256
      · have c1 : decide (j < 256) = true := by simpa using hlt
        have c1' : decide ((j : Int) < 256) = true := by simp; omega
        have HJ := Lib.hid hlt
        clear hj hlt
        obtain ⟨q1, hq1⟩ : ∃ q, q = (Keys.kn k >>> (255 - j)) % 2 := ⟨_, rfl⟩
        obtain ⟨q2, hq2⟩ : ∃ q, q = (Keys.kn mo >>> (255 - j)) % 2 := ⟨_, rfl⟩
        have HQ := Lib.hid (And.intro hq1 hq2)
        clear hq1 hq2
        go_wp2_with fail
        refine wp_region_sched (fun V => LW w V p b N l [(z, k), (zm, mo)] [] [(z11, which2, .slice aT MT cT, S2), (z9, which, .slice aS M cS, S)]) [.t 0, .t 1, .t 2, .t 4, .t 7, .s 3, .s 6, .e 5 true, .e 8 false, .t 9, .t 10] (by kernel_rfl) (by kernel_rfl) (by intro c a d v w h; cases d <;> exact h) ?_
        have HS := Lib.hid (H7.out.below (Below.refl _ _).drew)
        clear H7
        generalize World.drew _ = V at *
        iterate 5
          refine wpS_t rfl (v := ?_) (by rfl) (fun W => ?_) ?_
          rotate_left
          · go_simp
            try rfl
          try simp only [Act.put, List.setIfInBounds_toArray, List.set_cons_zero, List.set_cons_succ]
        refine wpS_load_sum (by exact HS.out) rfl (by rfl) _ (by rfl) z 0 (by rfl) k (fun W hW => hW.r (z, k) (by simp)) ?_
        try simp only [Act.put, List.setIfInBounds_toArray, List.set_cons_zero, List.set_cons_succ]
        refine wpS_load_sum (by exact HS.out) rfl (by rfl) _ (by rfl) zm 0 (by rfl) mo (fun W hW => hW.r (zm, mo) (by simp)) ?_
        try simp only [Act.put, List.setIfInBounds_toArray, List.set_cons_zero, List.set_cons_succ]
        refine wpS_k rfl (by rfl) (fun K hK => ?_)
        go_simp
        have hc := bit_any k j V HJ.out
        rw [← HQ.out.1] at hc
        refine hc.mono ?_
        clear hc
        rintro e V1 ⟨rfl, hb⟩
        have HS1 := Lib.hid (HS.out.below hb)
        clear hb HS
        refine hK _ _ ⟨by exact HS1.out, ?_⟩; clear hK K
        try simp only [Act.put, List.setIfInBounds_toArray, List.set_cons_zero, List.set_cons_succ]
        refine wpS_e rfl (by rfl) (fun K hK => ?_)
        go_simp
        have hc := bit_any mo j V1 HJ.out
        rw [← HQ.out.2] at hc
        refine hc.mono ?_
        clear hc
        rintro e V2 ⟨rfl, hb⟩
        have HS2 := Lib.hid (HS1.out.below hb)
        clear hb HS1
        refine hK _ _ ?_; clear hK K
        try simp only [Act.put, List.setIfInBounds_toArray, List.set_cons_zero, List.set_cons_succ]
        have hbe := @bit_eq k mo (255 - j)
        rw [← HQ.out.1, ← HQ.out.2] at hbe
        by_cases hqq : q1 = q2
        · have hbk := hbe.1 hqq
          subst hqq
          have hall : ∀ i, i ≤ j → (Keys.kn k).testBit (255 - i) = (Keys.kn mo).testBit (255 - i) := fun i hi => by
            rcases Nat.lt_or_ge i j with h | h
            · exact HA.out.1 i h
            · rw [show i = j by omega]; exact hbk
          have htk := tells_near (k := k) (o := mo) 256 (prs l) j hall HJ.out
          have HTK := Lib.hid (And.intro hall htk)
          clear hbe hbk hall htk
          iterate 2
            refine wpS_t rfl (v := ?_) (by rfl) (fun W => ?_) ?_
            rotate_left
            · go_simp
              try rfl
            try simp only [Act.put, List.setIfInBounds_toArray, List.set_cons_zero, List.set_cons_succ]
          refine wpS_done ?_
          go_wp2_with (refine wpList_load_sum rfl _ rfl z9 0 rfl which (which_show (HS2.out.s (z9, which, .slice aS M cS, S) (by simp)).1) ?_)
          refine (bit_any which j V2 HJ.out).mono ?_
          rintro e V3 ⟨rfl, hb⟩
          have HS3 := Lib.hid (HS2.out.below hb)
          clear hb HS2
          have hT1 : (tells k 256 (prs l))[j]? = (tells mo 256 (prs l))[j]? := by
            have h := congrArg (fun x => x[j]?) HTK.out.2
            simp only [List.getElem?_take_of_lt (Nat.lt_succ_self j)] at h
            exact h
          have hlen : j < (tells k 256 (prs l)).length := by rw [length_tells]; exact HJ.out
          obtain ⟨x1, hx1⟩ : ∃ x, (tells k 256 (prs l))[j]? = some x := ⟨_, List.getElem?_eq_getElem hlen⟩
          have hx2 : (tells mo 256 (prs l))[j]? = some x1 := by rw [← hT1]; exact hx1
          have hb1 : (Keys.kn which).testBit (255 - j) = x1.isSome := by
            have h := HBT.out.2 j HJ.out
            rw [List.getD_eq_getElem?_getD, hx1] at h
            exact h
          have hb2 : (Keys.kn which2).testBit (255 - j) = x1.isSome := by
            have h := HBT2.out.2 j HJ.out
            rw [List.getD_eq_getElem?_getD, hx2] at h
            exact h
          have hw1 : (Keys.kn which >>> (255 - j)) % 2 = if x1.isSome = true then 1 else 0 := by rw [shift_mod, hb1]
          have hw2 : (Keys.kn which2 >>> (255 - j)) % 2 = if x1.isSome = true then 1 else 0 := by rw [shift_mod, hb2]
          rw [hw1]
          have HW2 := Lib.hid hw2
          have HX := Lib.hid (And.intro hx1 hx2)
          clear hT1 hlen hx1 hx2 hb1 hb2 hw1 hw2
          have hwj : wrap64 ((j : Int) + 1) = ((j + 1 : Nat) : Int) := by have := HJ.out; unfold wrap64; omega
          have HWJ := Lib.hid hwj
          clear hwj
          cases x1 with
          | none =>
            have e0 : (if (none : Option Sum).isSome = true then 1 else 0 : Nat) = 0 := rfl
            rw [e0] at HW2 ⊢
            clear e0
            go_wp2_with (refine wpList_load_sum rfl _ rfl z11 0 rfl which2 (which_show (HS3.out.s (z11, which2, .slice aT MT cT, S2) (by simp)).1) ?_)
            refine (bit_any which2 j V3 HJ.out).mono ?_
            rw [HW2.out]
            rintro e V4 ⟨rfl, hb⟩
            have HS4 := Lib.hid (HS3.out.below hb)
            clear hb HS3
            go_wp2_with fail
            try rw [HWJ.out]
            exact ⟨⟨j + 1, at_, by have := HJ.out; omega, rfl, rfl, fun i hi => HTK.out.1 i (by omega), by rw [sides_no HX.out.1]; exact HA.out.2, HS4.out⟩, by simp only [intOf]; have := HJ.out; omega⟩
          | some t =>
            have e0 : (if (some t : Option Sum).isSome = true then 1 else 0 : Nat) = 1 := rfl
            rw [e0] at HW2 ⊢
            clear e0
            go_wp2_with (refine wpList_load_sum rfl _ rfl z11 0 rfl which2 (which_show (HS3.out.s (z11, which2, .slice aT MT cT, S2) (by simp)).1) ?_)
            refine (bit_any which2 j V3 HJ.out).mono ?_
            rw [HW2.out]
            rintro e V4 ⟨rfl, hb⟩
            have HS4 := Lib.hid (HS3.out.below hb)
            clear hb HS3
            have ha1 := sides_at HX.out.1
            have ha2 := sides_at HX.out.2
            have heq : (sidesOf ((tells mo 256 (prs l)).take j)).length = at_ := by
              rw [HA.out.2]
              have h := congrArg (fun x => (sidesOf (x.take j)).length) HTK.out.2
              simp only [List.take_take, Nat.min_eq_left (Nat.le_succ j)] at h
              exact h.symm
            rw [heq, ← HBT2.out.1] at ha2
            rw [← HA.out.2, ← HBT.out.1] at ha1
            have hat1 : at_ < M := by rw [HK.out.1]; exact (List.getElem?_eq_some_iff.1 ha1.1).1
            have hat2 : at_ < MT := by rw [HK2.out.1]; exact (List.getElem?_eq_some_iff.1 ha2.1).1
            obtain ⟨bS, oS, rfl⟩ := sums_ptr (HS4.out.s (z9, which, .slice aS M cS, S) (by simp)).2 ha1.1
            obtain ⟨bT, oT, rfl⟩ := sums_ptr (HS4.out.s (z11, which2, .slice aT MT cT, S2) (by simp)).2 ha2.1
            have HAT := Lib.hid (And.intro ha1 ha2.1)
            have hmb : M ≤ 16 := HK.out.2
            clear heq ha1 ha2
            have hwa : wrap64 ((at_ : Int) + 1) = ((at_ + 1 : Nat) : Int) := by unfold wrap64; omega
            have HWA := Lib.hid hwa
            have g1 : decide (M ≤ at_) = false := decide_eq_false (Nat.not_le.2 hat1)
            have g1' : decide ((M : Int) ≤ (at_ : Int)) = false := decide_eq_false (Int.not_le.2 (Int.ofNat_lt.2 hat1))
            have g2 : decide (MT ≤ at_) = false := decide_eq_false (Nat.not_le.2 hat2)
            have g2' : decide ((MT : Int) ≤ (at_ : Int)) = false := decide_eq_false (Int.not_le.2 (Int.ofNat_lt.2 hat2))
            have a0 : (0 : Int) ≤ (at_ : Int) := Int.natCast_nonneg _
            have a1 : (at_ : Int) < (M : Int) := Int.ofNat_lt.2 hat1
            have a2 : (at_ : Int) < (MT : Int) := Int.ofNat_lt.2 hat2
            clear hat1 hat2 hmb hwa
            go_wp2_with fail
            refine wp_region_sched (fun V => LW w V p b N l [(z, k), (zm, mo)] [] [(z11, which2, .slice (some ⟨bT, oT, none⟩) MT cT, S2), (z9, which, .slice (some ⟨bS, oS, none⟩) M cS, S)]) [.t 0, .t 1, .e 2 true, .t 3, .t 4, .t 5, .t 6, .t 7, .e 8 true, .t 9, .t 10, .t 11, .t 12, .t 13, .t 15, .t 18, .t 20, .s 14, .t 16, .s 17, .e 19 true, .t 21, .e 22 true, .t 23, .t 24] (by kernel_rfl) (by kernel_rfl) (by intro c a d v w h; cases d <;> exact h) ?_
            have HS5 := Lib.hid (HS4.out.below (Below.refl _ _).drew)
            clear HS4
            generalize World.drew _ = V5 at *
            have hes := eq_sums_same t
            iterate 2
              refine wpS_t rfl (v := ?_) (by rfl) (fun W => ?_) ?_
              rotate_left
              · go_simp
                try rfl
              try simp only [Act.put, List.setIfInBounds_toArray, List.set_cons_zero, List.set_cons_succ]
            refine wpS_k rfl (by rfl) (fun K hK => ?_)
            have g := cell_show (HS5.out.s (z9, which, .slice (some ⟨bS, oS, none⟩) M cS, S) (by simp)).1
            go_simp
            refine hK _ _ ⟨by exact HS5.out, ?_⟩; clear hK K
            try simp only [Act.put, List.setIfInBounds_toArray, List.set_cons_zero, List.set_cons_succ]
            clear g
            iterate 5
              refine wpS_t rfl (v := ?_) (by rfl) (fun W => ?_) ?_
              rotate_left
              · go_simp
                try rfl
              try simp only [Act.put, List.setIfInBounds_toArray, List.set_cons_zero, List.set_cons_succ]
            refine wpS_k rfl (by rfl) (fun K hK => ?_)
            have g := cell_show (HS5.out.s (z11, which2, .slice (some ⟨bT, oT, none⟩) MT cT, S2) (by simp)).1
            go_simp
            refine hK _ _ ⟨by exact HS5.out, ?_⟩; clear hK K
            try simp only [Act.put, List.setIfInBounds_toArray, List.set_cons_zero, List.set_cons_succ]
            clear g
            iterate 8
              refine wpS_t rfl (v := ?_) (by rfl) (fun W => ?_) ?_
              rotate_left
              · go_simp
                try rfl
              try simp only [Act.put, List.setIfInBounds_toArray, List.set_cons_zero, List.set_cons_succ]
            refine wpS_s (by exact HS5.out) rfl (v := .slice (some ⟨bS, oS, none⟩) M cS) (by rfl) (fun W hW => ?_) ?_
            · have g := cell_show (hW.s (z9, which, .slice (some ⟨bS, oS, none⟩) M cS, S) (by simp)).1
              go_simp
            try simp only [Act.put, List.setIfInBounds_toArray, List.set_cons_zero, List.set_cons_succ]
            iterate 1
              refine wpS_t rfl (v := ?_) (by rfl) (fun W => ?_) ?_
              rotate_left
              · go_simp
                try rfl
              try simp only [Act.put, List.setIfInBounds_toArray, List.set_cons_zero, List.set_cons_succ]
            refine wpS_load_sum (by exact HS5.out) rfl (by rfl) _ (by rfl) bS (oS + at_ * 32) (by rfl) t (fun W hW => sums_elem (hW.s (z9, which, .slice (some ⟨bS, oS, none⟩) M cS, S) (by simp)).2 HAT.out.1.1) ?_
            try simp only [Act.put, List.setIfInBounds_toArray, List.set_cons_zero, List.set_cons_succ]
            refine wpS_k rfl (by rfl) (fun K hK => ?_)
            have g := cell_show (HS5.out.s (z11, which2, .slice (some ⟨bT, oT, none⟩) MT cT, S2) (by simp)).1
            go_simp
            refine hK _ _ ⟨by exact HS5.out, ?_⟩; clear hK K
            try simp only [Act.put, List.setIfInBounds_toArray, List.set_cons_zero, List.set_cons_succ]
            clear g
            iterate 1
              refine wpS_t rfl (v := ?_) (by rfl) (fun W => ?_) ?_
              rotate_left
              · go_simp
                try rfl
              try simp only [Act.put, List.setIfInBounds_toArray, List.set_cons_zero, List.set_cons_succ]
            refine wpS_k rfl (by rfl) (fun K hK => ?_)
            refine wp_load_sum _ (by rfl) bT (oT + at_ * 32) (by rfl) t (sums_elem (HS5.out.s (z11, which2, .slice (some ⟨bT, oT, none⟩) MT cT, S2) (by simp)).2 HAT.out.2) ?_
            refine hK _ _ ⟨by exact HS5.out, ?_⟩; clear hK K
            try simp only [Act.put, List.setIfInBounds_toArray, List.set_cons_zero, List.set_cons_succ]
            iterate 2
              refine wpS_t rfl (v := ?_) (by rfl) (fun W => ?_) ?_
              rotate_left
              · go_simp
                try rfl
              try simp only [Act.put, List.setIfInBounds_toArray, List.set_cons_zero, List.set_cons_succ]
            refine wpS_done ?_
            go_wp2_with fail
            try rw [HWA.out]
            try rw [HWJ.out]
            exact ⟨⟨j + 1, at_ + 1, by have := HJ.out; omega, rfl, rfl, fun i hi => HTK.out.1 i (by omega), by rw [(sides_at HX.out.1).2, ← HA.out.2], HS5.out⟩, by simp only [intOf]; have := HJ.out; omega⟩
        · have n1 : ((q1 : Int) == (q2 : Int)) = false := by rw [beq_eq_false_iff_ne]; omega
          have n2 : decide (q1 = q2) = false := by simpa using hqq
          have n3 : decide ((q1 : Int) = (q2 : Int)) = false := by simp; omega
          clear hbe
          iterate 2
            refine wpS_t rfl (v := ?_) (by rfl) (fun W => ?_) ?_
            rotate_left
            · go_simp
              try rfl
            try simp only [Act.put, List.setIfInBounds_toArray, List.set_cons_zero, List.set_cons_succ]
          refine wpS_done ?_
          go_wp2_with fail
          refine (alive16_any V2).mono ?_
          rintro e V3 ⟨rfl, hb⟩
          have HB3 := Lib.hid (HS2.out.bw.trans (hb.mono HS2.out.bw.size))
          clear hb
          go_wp2_with fail
          exact bodyPost_ret (results_tmp rfl _ _ _) rfl ⟨rfl, HB3.out⟩
      · have hj' : j = 256 := by omega
        subst hj'
        clear hlt hj
        go_wp2_with fail
        refine wp_region_sched (fun V => True) [.t 0, .t 1, .t 2, .t 4, .t 7, .s 3, .s 6, .e 5 true, .e 8 false, .t 9, .t 10] (by kernel_rfl) (by kernel_rfl) (by intro c a d v w h; cases d <;> exact h) ?_
        have HS := Lib.hid (H7.out.below (Below.refl _ _).drew)
        clear H7
        generalize World.drew _ = V at *
        iterate 3
          refine wpS_t rfl (v := ?_) (by rfl) (fun W => ?_) ?_
          rotate_left
          · go_simp
            try rfl
          try simp only [Act.put, List.setIfInBounds_toArray, List.set_cons_zero, List.set_cons_succ]
        iterate 2
          refine wpS_t_skip rfl (by rfl) ?_
          try simp only [Act.put, List.setIfInBounds_toArray, List.set_cons_zero, List.set_cons_succ]
        iterate 2
          refine wpS_s_skip (trivial) rfl (by rfl) ?_
          try simp only [Act.put, List.setIfInBounds_toArray, List.set_cons_zero, List.set_cons_succ]
        refine wpS_k_skip (trivial) rfl (by rfl) ?_
        try simp only [Act.put, List.setIfInBounds_toArray, List.set_cons_zero, List.set_cons_succ]
        refine wpS_e_skip rfl (by rfl) ?_
        try simp only [Act.put, List.setIfInBounds_toArray, List.set_cons_zero, List.set_cons_succ]
        iterate 1
          refine wpS_t_skip rfl (by rfl) ?_
          try simp only [Act.put, List.setIfInBounds_toArray, List.set_cons_zero, List.set_cons_succ]
        iterate 1
          refine wpS_t rfl (v := ?_) (by rfl) (fun W => ?_) ?_
          rotate_left
          · go_simp
            try rfl
          try simp only [Act.put, List.setIfInBounds_toArray, List.set_cons_zero, List.set_cons_succ]
        refine wpS_done ?_
        go_wp2_with fail
        refine (alive16_any V).mono ?_
        rintro e V3 ⟨rfl, hb⟩
        have HB3 := Lib.hid (HS.out.bw.trans (hb.mono HS.out.bw.size))
        clear hb
        go_wp2_with fail
        exact bodyPost_ret (results_tmp rfl _ _ _) rfl ⟨rfl, HB3.out⟩
end Go.Proofs.Ytfmgoehnbaiamaa
