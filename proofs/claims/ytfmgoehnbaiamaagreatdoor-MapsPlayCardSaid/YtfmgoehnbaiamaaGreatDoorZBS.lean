/-
  Joined: GB2, MP6.
-/
import Derived.Test.YtfmgoehnbaiamaaGreatDoorZBP
import Derived.Test.YtfmgoehnbaiamaaGreatDoorBP6
import Derived.Test.YtfmgoehnbaiamaaGreatDoorMP4
-- Walk: whether the lists of a Book of bytes, sums and pairs lie apart.
open Go Go.RowKit Alm
namespace Go.Proofs.YtfmgoehnbaiamaaGreatDoor
theorem look_pairs (base q n : Nat) (F : Nat → Value) (H : List Held) (a : Nat → Nat) (L : Nat → Value) (w : World) (hb : Book w q n F) (h : KG w 140 33 base q (F 6) mkP H a L) (hN : ∀ i, i < H.length → num H i < 256) (hA : ∀ i, i < H.length → a i < 900000) (hH : H.length < 100000) : Calls Tryz.prog 90 #[.pointer (some ⟨q, 0, none⟩)] w fun e w' => e = .returned (.bool true) ∧ Below w.heap.size w w' := by
  have hll := length_longTo H L H.length
  refine lookPair_any base q n (F 6) F (longTo H L H.length) a w hb rfl h.row (fun i hi => ?_) (fun i hi => ?_) (fun i hi => ?_) (fun i hi => ?_) (by rw [hll]; exact hH)
  · rw [hll] at hi
    rw [(long_told H L i hi).1, (long_told H L i hi).2.2]
    exact h.lies i hi
  · rw [hll] at hi
    rw [(long_told H L i hi).2.1, (long_told H L i hi).2.2]
    exact h.long i hi
  · rw [hll] at hi
    rw [(long_told H L i hi).2.2]
    exact hN i hi
  · rw [hll] at hi
    exact hA i hi
set_option maxRecDepth 100000 in
set_option maxHeartbeats 2000000 in
theorem apart_bsp (base q n : Nat) (F : Nat → Value) (H : Nat → List Held) (S : Nat → Nat → List (List Value)) (w : World) (hb : GBook w base q n F H S) (hn : n < 256) (hH : ∀ j, (H j).length < 90000) (h0 : ∀ j, j ≠ 1 → j ≠ 5 → j ≠ 6 → H j = []) :
    Calls Tryz.prog 22 #[.pointer (some ⟨q, 0, none⟩)] w fun e w' => e = .returned (.bool true) ∧ Keeps (OfG q F H) w w' := by
  have HM := Lib.hid hb
  have hN : ∀ j, 1 ≤ j → j < 10 → ∀ i, i < (H j).length → num (H j) i < 256 := fun j h1 h2 i hi => Nat.lt_of_le_of_lt ((hb.k j h1 h2).nums i hi) hn
  have HN := Lib.hid (And.intro hN hH)
  have HX := Lib.hid (fun (i j k : Nat) (h1 : 1 ≤ i ∧ i < 10 ∧ 1 ≤ j ∧ j < 10 ∧ i ≠ j) => hb.x i j h1.1 h1.2.1 h1.2.2.1 h1.2.2.2.1 h1.2.2.2.2 k)
  have HNU := Lib.hid (fun j (h : j ≠ 1 ∧ j ≠ 5 ∧ j ≠ 6) => hb.nul j (h0 j h.1 h.2.1 h.2.2))
  have HB0 := Lib.hid hb.bk
  have HKB0 := Lib.hid (show KB w 136 1 base q n (F 1) (H 1) (S 1) from hb.k 1 (by decide) (by decide))
  have HKS0 := Lib.hid (show KB w 155 32 base q n (F 5) (H 5) (S 5) from hb.k 5 (by decide) (by decide))
  have HKP0 := Lib.hid (show KB w 140 33 base q n (F 6) (H 6) (S 6) from hb.k 6 (by decide) (by decide))
  have H1 := Lib.hid (fillByte_any base q n (F 1) F (H 1) (S 1) w HB0.out rfl HKB0.out.row HKB0.out.lies HKB0.out.ap (HN.out.1 1 (by decide) (by decide)) (fun i hi => Nat.lt_trans (HKB0.out.lens i hi) (by decide)) (Nat.lt_trans (HN.out.2 1) (by decide)) HKB0.out.lngs)
  clear hb hN hn hH h0
  go_enter Tryz.func22, Tryz.ntmps22
  go_wp2_with (first
    | (go_at_call 67; refine H1.out.mono ?_; rintro e w1 ⟨rfl, hl, hk⟩; refine Hid.out ?_))
  refine Lib.hid ?_
  have HB1 := Lib.hid (HB0.out.keep hk (not_in HKB0.out.ap))
  have HKB1 := Lib.hid (HKB0.out.fill hl hk)
  have HKS1 := Lib.hid (HKS0.out.keep hk (fun k hk e => HX.out 5 1 k (by decide) hk (.inr e)))
  have HKP1 := Lib.hid (HKP0.out.keep hk (fun k hk e => HX.out 6 1 k (by decide) hk (.inr e)))
  have HKE1 := Lib.hid (hk.mono (Y := OfG q F H) fun k h => .inr ⟨1, by decide, by decide, .inr h⟩)
  clear hl hk H1
  have H2 := Lib.hid (fillSum_any base q n (F 5) F (H 5) (S 5) w1 HB1.out rfl HKS1.out.row HKS1.out.lies HKS1.out.ap (HN.out.1 5 (by decide) (by decide)) (fun i hi => Nat.lt_trans (HKS1.out.lens i hi) (by decide)) (Nat.lt_trans (HN.out.2 5) (by decide)) HKS1.out.lngs)
  go_wp2_with (first
    | (go_at_call 68; refine (fillInt_nil q _ F _ HB1.out (HNU.out 2 (by decide))).mono ?_; rintro e w2 ⟨rfl, rfl⟩)
    | (go_at_call 69; refine (fillText_nil q _ F _ HB1.out (HNU.out 3 (by decide))).mono ?_; rintro e w2 ⟨rfl, rfl⟩)
    | (go_at_call 70; refine (fillByteList_nil q _ F _ HB1.out (HNU.out 4 (by decide))).mono ?_; rintro e w2 ⟨rfl, rfl⟩)
    | (go_at_call 71; refine H2.out.mono ?_; rintro e w2 ⟨rfl, hl, hk⟩; refine Hid.out ?_))
  refine Lib.hid ?_
  have HB2 := Lib.hid (HB1.out.keep hk (not_in HKS1.out.ap))
  have HKB2 := Lib.hid (HKB1.out.keep hk (fun k hk e => HX.out 1 5 k (by decide) hk (.inr e)))
  have HKS2 := Lib.hid (HKS1.out.fill hl hk)
  have HKP2 := Lib.hid (HKP1.out.keep hk (fun k hk e => HX.out 6 5 k (by decide) hk (.inr e)))
  have HKE2 := Lib.hid (hk.mono (Y := OfG q F H) fun k h => .inr ⟨5, by decide, by decide, .inr h⟩)
  clear hl hk H2
  have H3 := Lib.hid (fillPair_any base q n (F 6) F (H 6) (S 6) w2 HB2.out rfl HKP2.out.row HKP2.out.lies HKP2.out.ap (HN.out.1 6 (by decide) (by decide)) (fun i hi => Nat.lt_trans (HKP2.out.lens i hi) (by decide)) (Nat.lt_trans (HN.out.2 6) (by decide)) HKP2.out.lngs)
  go_wp2_with (first
    | (go_at_call 72; refine H3.out.mono ?_; rintro e w3 ⟨rfl, hl, hk⟩; refine Hid.out ?_))
  refine Lib.hid ?_
  have HB3 := Lib.hid (HB2.out.keep hk (not_in HKP2.out.ap))
  have HKB3 := Lib.hid (HKB2.out.keep hk (fun k hk e => HX.out 1 6 k (by decide) hk (.inr e)))
  have HKS3 := Lib.hid (HKS2.out.keep hk (fun k hk e => HX.out 5 6 k (by decide) hk (.inr e)))
  have HKP3 := Lib.hid (HKP2.out.fill hl hk)
  have HKE3 := Lib.hid (hk.mono (Y := OfG q F H) fun k h => .inr ⟨6, by decide, by decide, .inr h⟩)
  clear hl hk H3
  have HBS3 := Lib.hid (show base ≤ w3.heap.size from Nat.le_trans HM.out.bs (Nat.le_trans HKE1.out.size (Nat.le_trans HKE2.out.size HKE3.out.size)))
  have H4 := Lib.hid (growByte_any base q n (F 1) F (H 1) (filled mkB (H 1) (S 1)) w3 HB3.out rfl HKB3.out.row HKB3.out.lies HKB3.out.ap (HN.out.1 1 (by decide) (by decide)) HKB3.out.lens (Nat.lt_trans (HN.out.2 1) (by decide)) HKB3.out.lngs HBS3.out)
  go_wp2_with (first
    | (go_at_call 73; refine (fillTenant_nil q _ F _ HB3.out (HNU.out 7 (by decide))).mono ?_; rintro e w4 ⟨rfl, rfl⟩)
    | (go_at_call 74; refine (fillLease_nil q _ F _ HB3.out (HNU.out 8 (by decide))).mono ?_; rintro e w4 ⟨rfl, rfl⟩)
    | (go_at_call 75; refine (fillEvent_nil q _ F _ HB3.out (HNU.out 9 (by decide))).mono ?_; rintro e w4 ⟨rfl, rfl⟩)
    | (go_at_call 76; refine H4.out.mono ?_; rintro e w4 ⟨rfl, LB, hG⟩; refine Hid.out ?_))
  refine Lib.hid ?_
  have HB4 := Lib.hid hG.book
  have HBS4 := Lib.hid (Nat.le_trans HBS3.out hG.keep.size)
  have HGB := Lib.hid hG
  have HKGB4 := Lib.hid (KG.of_grow hG)
  have HKS4 := Lib.hid (HKS3.out.keep hG.keep (fun k hk e => HX.out 5 1 k (by decide) hk (by
    rcases e with e | e
    · exact .inr e
    · exact .inl e)))
  have HKP4 := Lib.hid (HKP3.out.keep hG.keep (fun k hk e => HX.out 6 1 k (by decide) hk (by
    rcases e with e | e
    · exact .inr e
    · exact .inl e)))
  have HKE4 := Lib.hid (hG.keep.mono (Y := OfG q F H) fun k h => .inr ⟨1, by decide, by decide, by
    rcases h with h | h
    · exact .inr h
    · exact .inl h⟩)
  clear hG H4
  have H5 := Lib.hid (growSum_any base q n (F 5) F (H 5) (filled mkC (H 5) (S 5)) w4 HB4.out rfl HKS4.out.row HKS4.out.lies HKS4.out.ap (HN.out.1 5 (by decide) (by decide)) HKS4.out.lens (Nat.lt_trans (HN.out.2 5) (by decide)) HKS4.out.lngs HBS4.out)
  go_wp2_with (first
    | (go_at_call 77; refine (growInt_nil q _ F _ HB4.out (HNU.out 2 (by decide))).mono ?_; rintro e w5 ⟨rfl, rfl⟩)
    | (go_at_call 78; refine (growText_nil q _ F _ HB4.out (HNU.out 3 (by decide))).mono ?_; rintro e w5 ⟨rfl, rfl⟩)
    | (go_at_call 79; refine (growByteList_nil q _ F _ HB4.out (HNU.out 4 (by decide))).mono ?_; rintro e w5 ⟨rfl, rfl⟩)
    | (go_at_call 80; refine H5.out.mono ?_; rintro e w5 ⟨rfl, LS, hG⟩; refine Hid.out ?_))
  refine Lib.hid ?_
  have HB5 := Lib.hid hG.book
  have HBS5 := Lib.hid (Nat.le_trans HBS4.out hG.keep.size)
  have HGS := Lib.hid hG
  have HKGS5 := Lib.hid (KG.of_grow hG)
  have hx : ∀ k, OfKind (F 5) (H 5) k → ¬ OfGrown (F 1) (H 1) LB k := fun k hk e => by
    rcases grown_of HGB.out e with e | e
    · exact HX.out 1 5 k (by decide) e hk
    · have := (HKS3.out.lt hk).2; omega
  have HKGB5 := Lib.hid (HKGB4.out.keep hG.keep (fun k hk e => hx k (by
    rcases e with e | e
    · exact .inr e
    · exact .inl e) hk))
  clear hx
  have HKP5 := Lib.hid (HKP4.out.keep hG.keep (fun k hk e => HX.out 6 5 k (by decide) hk (by
    rcases e with e | e
    · exact .inr e
    · exact .inl e)))
  have HKE5 := Lib.hid (hG.keep.mono (Y := OfG q F H) fun k h => .inr ⟨5, by decide, by decide, by
    rcases h with h | h
    · exact .inr h
    · exact .inl h⟩)
  clear hG H5
  have H6 := Lib.hid (growPair_any base q n (F 6) F (H 6) (filled mkP (H 6) (S 6)) w5 HB5.out rfl HKP5.out.row HKP5.out.lies HKP5.out.ap (HN.out.1 6 (by decide) (by decide)) HKP5.out.lens (Nat.lt_trans (HN.out.2 6) (by decide)) HKP5.out.lngs HBS5.out)
  go_wp2_with (first
    | (go_at_call 81; refine H6.out.mono ?_; rintro e w6 ⟨rfl, LP, hG⟩; refine Hid.out ?_))
  refine Lib.hid ?_
  have HB6 := Lib.hid hG.book
  have HBS6 := Lib.hid (Nat.le_trans HBS5.out hG.keep.size)
  have HGP := Lib.hid hG
  have HKGP6 := Lib.hid (KG.of_grow hG)
  have hx : ∀ k, OfKind (F 6) (H 6) k → ¬ OfGrown (F 1) (H 1) LB k := fun k hk e => by
    rcases grown_of HGB.out e with e | e
    · exact HX.out 1 6 k (by decide) e hk
    · have := (HKP3.out.lt hk).2; omega
  have HKGB6 := Lib.hid (HKGB5.out.keep hG.keep (fun k hk e => hx k (by
    rcases e with e | e
    · exact .inr e
    · exact .inl e) hk))
  clear hx
  have hx : ∀ k, OfKind (F 6) (H 6) k → ¬ OfGrown (F 5) (H 5) LS k := fun k hk e => by
    rcases grown_of HGS.out e with e | e
    · exact HX.out 5 6 k (by decide) e hk
    · have := (HKP4.out.lt hk).2; omega
  have HKGS6 := Lib.hid (HKGS5.out.keep hG.keep (fun k hk e => hx k (by
    rcases e with e | e
    · exact .inr e
    · exact .inl e) hk))
  clear hx
  have HKE6 := Lib.hid (hG.keep.mono (Y := OfG q F H) fun k h => .inr ⟨6, by decide, by decide, by
    rcases h with h | h
    · exact .inr h
    · exact .inl h⟩)
  clear hG H6
  have H7 := Lib.hid (look_bytes base q n F (H 1) _ LB w6 HB6.out HKGB6.out (HN.out.1 1 (by decide) (by decide)) (fun i hi => (HM.out.k 1 (by decide) (by decide)).lens i hi) (Nat.lt_trans (HN.out.2 1) (by decide)))
  go_wp2_with (first
    | (go_at_call 82; refine (growTenant_nil q _ F _ HB6.out (HNU.out 7 (by decide))).mono ?_; rintro e w7 ⟨rfl, rfl⟩)
    | (go_at_call 83; refine (growLease_nil q _ F _ HB6.out (HNU.out 8 (by decide))).mono ?_; rintro e w7 ⟨rfl, rfl⟩)
    | (go_at_call 84; refine (growEvent_nil q _ F _ HB6.out (HNU.out 9 (by decide))).mono ?_; rintro e w7 ⟨rfl, rfl⟩)
    | (go_at_call 85; refine H7.out.mono ?_; rintro e w7 ⟨rfl, hb⟩; refine Hid.out ?_))
  refine Lib.hid ?_
  have HB7 := Lib.hid (HB6.out.below hb)
  have HKGS7 := Lib.hid (HKGS6.out.below hb)
  have HKGP7 := Lib.hid (HKGP6.out.below hb)
  have HKE7 := Lib.hid (Keeps.of_below (X := OfG q F H) hb)
  clear hb H7
  have H8 := Lib.hid (look_sums base q n F (H 5) _ LS w7 HB7.out HKGS7.out (HN.out.1 5 (by decide) (by decide)) (fun i hi => (HM.out.k 5 (by decide) (by decide)).lens i hi) (Nat.lt_trans (HN.out.2 5) (by decide)))
  go_wp2_with (first
    | (go_at_call 86; refine (lookInt_nil q _ F _ HB7.out (HNU.out 2 (by decide))).mono ?_; rintro e w8 ⟨rfl, rfl⟩)
    | (go_at_call 87; refine (lookText_nil q _ F _ HB7.out (HNU.out 3 (by decide))).mono ?_; rintro e w8 ⟨rfl, rfl⟩)
    | (go_at_call 88; refine (lookByteList_nil q _ F _ HB7.out (HNU.out 4 (by decide))).mono ?_; rintro e w8 ⟨rfl, rfl⟩)
    | (go_at_call 89; refine H8.out.mono ?_; rintro e w8 ⟨rfl, hb⟩; refine Hid.out ?_))
  refine Lib.hid ?_
  have HB8 := Lib.hid (HB7.out.below hb)
  have HKGP8 := Lib.hid (HKGP7.out.below hb)
  have HKE8 := Lib.hid (Keeps.of_below (X := OfG q F H) hb)
  clear hb H8
  have H9 := Lib.hid (look_pairs base q n F (H 6) _ LP w8 HB8.out HKGP8.out (HN.out.1 6 (by decide) (by decide)) (fun i hi => (HM.out.k 6 (by decide) (by decide)).lens i hi) (Nat.lt_trans (HN.out.2 6) (by decide)))
  go_wp2_with (first
    | (go_at_call 90; refine H9.out.mono ?_; rintro e w9 ⟨rfl, hb⟩; refine Hid.out ?_))
  refine Lib.hid ?_
  have HB9 := Lib.hid (HB8.out.below hb)
  have HKE9 := Lib.hid (Keeps.of_below (X := OfG q F H) hb)
  clear hb H9
  have HKF := Lib.hid ((((((((HKE1.out.trans HKE2.out).trans HKE3.out).trans HKE4.out).trans HKE5.out).trans HKE6.out).trans HKE7.out).trans HKE8.out).trans HKE9.out)
  go_wp2_with (first
    | (go_at_call 91; refine (lookTenant_nil q _ F _ HB9.out (HNU.out 7 (by decide))).mono ?_; rintro e w10 ⟨rfl, rfl⟩)
    | (go_at_call 92; refine (lookLease_nil q _ F _ HB9.out (HNU.out 8 (by decide))).mono ?_; rintro e w10 ⟨rfl, rfl⟩)
    | (go_at_call 93; refine (lookEvent_nil q _ F _ HB9.out (HNU.out 9 (by decide))).mono ?_; rintro e w10 ⟨rfl, rfl⟩))
  exact bodyPost_ret (results_tmp rfl _ _ _) rfl ⟨rfl, HKF.out⟩
end Go.Proofs.YtfmgoehnbaiamaaGreatDoor
-- Walks: pairs that a Book is told (Pair, Pairs).
namespace Go.Proofs.YtfmgoehnbaiamaaGreatDoor
set_option maxRecDepth 100000 in
theorem tell_pairG (y : PE) (xs : List (List Value)) (base q n : Nat) (F : Nat → Value) (H : Nat → List Held) (S : Nat → Nat → List (List Value)) (w : World) (hb : GBook w base q n F H S) (hv : Lie w base 1 (peV y) xs) (hx : ∀ k, (peV y).ownBlock = some k → ¬ OfG q F H k) (hn : n < 90000) (hH : (H 1).length < 90000) (hl : xs.length < 900000) :
    Calls Tryz.prog 57 #[.pointer (some ⟨q, 0, none⟩), .agg (encP y).toArray] w fun e w' => e = .returned (.tuple #[]) ∧ ∃ v', GBook w' base q (n + 1) (put F 1 v') (putK H 1 (H 1 ++ [(peV y, .slice none 0 0, n + 1)])) (putK S 1 (more (H 1) (S 1) xs)) ∧ (∀ k, v'.ownBlock = some k → (F 1).ownBlock = some k ∨ w.heap.size ≤ k) ∧ Keeps (fun i => i = q ∨ (F 1).ownBlock = some i) w w' := by
  obtain ⟨w1, hw1⟩ : ∃ x, x = w.alloc (.cells (encP y).toArray 41) := ⟨_, rfl⟩
  have r1 : w1.rangeAt w.heap.size 0 (encP y) := by rw [hw1]; exact range_new w _ _ _ rfl
  have b1 : Below w.heap.size w w1 := by rw [hw1]; exact al (Below.refl _ _) _
  have g1 := encP_cell r1
  have hc := tell_bytesG y.2.1 y.2.2.1 y.2.2.2 xs base q n F H S w1 (hb.below b1) (hv.below b1) hx hn hH hl
  have HC := Lib.hid hc
  have HW := Lib.hid hw1
  have HB1 := Lib.hid b1
  clear hc hb hv hx hH hl hn r1 hw1 b1
  go_enter Tryz.func57, Tryz.ntmps57
  refine Alm.wp_cut 1 ?_
  intro T hT
  dsimp only [cutN]
  replace hT := Lib.hid hT
  go_wp2_with fail
  refine hT.out _ _ ?_
  clear hT
  dsimp only [dropN]
  change Code.wp _ _ _ _ (w.alloc (.cells (encP y).toArray 41))
  rw [← HW.out]
  clear HW
  go_wp2_with fail
  refine HC.out.mono ?_
  rintro e w2 ⟨rfl, v', h1, h2, h3⟩
  have H2 := Lib.hid (And.intro h1 (And.intro (fun k hk => (h2 k hk).imp_right (fun h => Nat.le_trans HB1.out.size h) : ∀ k, v'.ownBlock = some k → (F 1).ownBlock = some k ∨ w.heap.size ≤ k) ((Keeps.of_below HB1.out).trans h3)))
  clear h1 h2 h3
  go_wp2_with fail
  exact bodyPost_end (results_none rfl _ _ _) rfl ⟨rfl, v', H2.out.1, H2.out.2.1, H2.out.2.2⟩
/-- What a Book is when the first pairs' bytes were told. -/
structure PairsI (w : World) (base q n : Nat) (F : Nat → Value) (H : Nat → List Held) (cs : List (PE × List UInt8)) (i : Nat) (F' : Nat → Value) (H' : Nat → List Held) (S' : Nat → Nat → List (List Value)) (W : World) : Prop where
  bk : GBook W base q (n + i) F' H' S'
  len : (H' 1).length = (H 1).length + i
  oth : ∀ j, j ≠ 1 → H' j = H j ∧ F' j = F j
  of : ∀ k, OfG q F' H' k → OfG q F H k ∨ w.heap.size ≤ k ∨ ∃ c ∈ cs.take i, (peV c.1).ownBlock = some k
  row : ∀ k, (F' 1).ownBlock = some k → (F 1).ownBlock = some k ∨ w.heap.size ≤ k
  keep : Keeps (fun i => i = q ∨ (F 1).ownBlock = some i) w W
theorem enc_at {W : World} {g : Nat} {cs : List (PE × List UInt8)} (h : W.rangeAt g 0 (cs.map fun c => encP c.1).flatten) {i : Nat} (hi : i < cs.length) : W.rangeAt g (i * 33) (encP cs[i].1) := by
  rw [flat_encP] at h
  have h8 := rangeP_at h (i := i) (by rw [List.length_map]; exact hi)
  rw [List.getD_eq_getElem?_getD, List.getElem?_eq_getElem (by rw [List.length_map]; exact hi), List.getElem_map, Option.getD_some, Nat.zero_add] at h8
  exact h8
theorem pairwise_at {cs : List (PE × List UInt8)} (h : Apart2 cs) {i : Nat} (hi : i < cs.length) {c : PE × List UInt8} (hc : c ∈ cs.take i) : ∀ k, (peV c.1).ownBlock = some k → (peV cs[i].1).ownBlock ≠ some k := by
  have h2 : cs = cs.take i ++ cs[i] :: cs.drop (i + 1) := by rw [← List.drop_eq_getElem_cons hi, List.take_append_drop]
  unfold Apart2 at h
  rw [h2, List.pairwise_append] at h
  exact h.2.2 c hc cs[i] List.mem_cons_self
set_option maxRecDepth 100000 in
set_option maxHeartbeats 1000000 in
theorem tell_pairsG (v : Value) (cs : List (PE × List UInt8)) (base q n : Nat) (F : Nat → Value) (H : Nat → List Held) (S : Nat → Nat → List (List Value)) (w : World) (hb : GBook w base q n F H S) (hL : PairsL w base v cs) (hx : ∀ k, v.ownBlock = some k → ¬ OfG q F H k) (hxe : ∀ c ∈ cs, ∀ k, (peV c.1).ownBlock = some k → ¬ OfG q F H k) (hn : n + cs.length < 90000) (hH : (H 1).length + cs.length < 90000) (hH6 : (H 6).length < 90000) (hl : ∀ c ∈ cs, c.2.length < 900000) :
    Calls Tryz.prog 16 #[.pointer (some ⟨q, 0, none⟩), v] w fun e w' => e = .returned (.tuple #[]) ∧ ∃ F' H' S', GBook w' base q (n + cs.length + 1) F' H' S' ∧ (H' 1).length = (H 1).length + cs.length ∧ (H' 6).length = (H 6).length + 1 ∧ (∀ j, j ≠ 1 → j ≠ 6 → H' j = H j) ∧ (∀ k, OfG q F' H' k → OfG q F H k ∨ w.heap.size ≤ k ∨ v.ownBlock = some k ∨ ∃ c ∈ cs, (peV c.1).ownBlock = some k) ∧ Keeps (fun i => i = q ∨ (F 1).ownBlock = some i ∨ (F 6).ownBlock = some i) w w' := by
  obtain ⟨av, cv, hform⟩ := hL.row.form
  rw [List.length_map] at hform
  obtain ⟨N, hNN⟩ : ∃ N, N = cs.length := ⟨_, rfl⟩
  rw [← hNN] at hform
  subst hform
  have hqk : ∀ k, OfG q F H k → k < w.heap.size := fun k hk => (hb.lt hk).2
  have H0 := Lib.hid (show PairsI w base q n F H cs 0 F H S w from ⟨hb, rfl, fun _ _ => ⟨rfl, rfl⟩, fun k hk => .inl hk, fun k hk => .inl hk, Keeps.refl _ _⟩)
  have HH := Lib.hid (And.intro hL (And.intro hx (And.intro hxe (And.intro hn (And.intro hH (And.intro hH6 (And.intro hl (And.intro hNN hqk))))))))
  have HB0 := Lib.hid hb
  rw [← hNN]
  clear hb hL hx hxe hn hH hH6 hl hNN hqk
  go_enter Tryz.func16, Tryz.ntmps16
  go_wp2_with fail
  go_loopw [4] (fun iv W => ∃ i : Nat, i ≤ N ∧ iv = .int .i64 (i : Int) ∧ ∃ F' H' S', PairsI w base q n F H cs i F' H' S' W) (fun iv _ => N - (intOf iv).toNat)
  case atStart => exact ⟨0, Nat.zero_le _, rfl, _, _, _, H0.out⟩
  case round =>
    clear H0
    obtain ⟨i, hi, rfl, F', H', S', hI⟩ := hrel
    have HI := Lib.hid hI
    obtain ⟨hL, hx, hxe, hn, hH, hH6, hl, hNN, hqk⟩ := HH.out
    -- nothing of the pairs was written
    have hno : ∀ k, (k = q ∨ (F 1).ownBlock = some k) → OfG q F H k := fun k hk => by
      rcases hk with rfl | hk
      · exact .inl rfl
      · exact .inr ⟨1, by decide, by decide, .inl hk⟩
    have hLW : PairsL wr base (.slice av N cv) cs := hL.keep hI.keep (fun k hk e => hx k hk (hno k e)) (fun c hc k hk e => hxe c hc k hk (hno k e))
    have HLW := Lib.hid hLW
    clear hI hL
    by_cases hlt : i < N
    · obtain ⟨c1, c1', hj0, hlt'⟩ := dec_lt hlt
      have hic : i < cs.length := by rw [← hNN]; exact hlt
      obtain ⟨y, hy⟩ : ∃ y, y = cs[i] := ⟨_, rfl⟩
      have hymem : y ∈ cs := by rw [hy]; exact List.getElem_mem hic
      have hcap : ∃ g, av = some ⟨g, 0, none⟩ ∧ wr.rangeAt g (i * 33) (encP y.1) ∧ N ≤ cv := by
        rcases hLW.row with ⟨h0, _⟩ | ⟨g, cap, h1, _, _, h2, _, hr, _⟩
        · simp only [Value.slice.injEq] at h0; omega
        · simp only [Value.slice.injEq] at h1
          obtain ⟨rfl, h3, rfl⟩ := h1
          exact ⟨g, rfl, by rw [hy]; exact enc_at hr hic, by rw [h3]; exact h2⟩
      obtain ⟨g, rfl, hr, hNc⟩ := hcap
      have hfr : ∀ k, (peV y.1).ownBlock = some k → ¬ OfG q F' H' k := fun k hk e => by
        rcases HI.out.of k e with e | e | ⟨c, hc, e⟩
        · exact hxe y hymem k hk e
        · have := ((HH.out.1.each y hymem).lt k hk).2; omega
        · exact pairwise_at HH.out.1.apart hic hc k e (by rw [← hy]; exact hk)
      have htell := tell_pairG y.1 (ones y.2) base q (n + i) F' H' S' wr HI.out.bk (HLW.out.each y hymem) hfr (by omega) (by rw [HI.out.len]; omega) (by rw [ones_len]; exact hl y hymem)
      have HT := Lib.hid htell
      have HY := Lib.hid (And.intro hr (And.intro hymem (And.intro hic hy)))
      have k1 : (N : Int) ≤ (cv : Int) := by omega
      have hwi : wrap64 ((i : Int) + 1) = ((i + 1 : Nat) : Int) := wrap_next (m := 100000) (by omega) (by decide)
      have HWI := Lib.hid hwi
      clear hxe hx hl hqk hH6 hH hn hno hLW hr hNc hfr htell hwi hymem hy hNN
      go_wp2_with (refine wpList_load_pair rfl _ rfl g (i * 33) rfl y.1 HY.out.1 ?_)
      refine HT.out.mono ?_
      rintro e W2 ⟨rfl, v', h1, h2, h3⟩
      have hnx : PairsI w base q n F H cs (i + 1) (put F' 1 v') (putK H' 1 (H' 1 ++ [(peV y.1, .slice none 0 0, n + i + 1)])) (putK S' 1 (more (H' 1) (S' 1) (ones y.2))) W2 := by
        refine ⟨h1, by rw [putK_self, List.length_append, HI.out.len]; rfl, fun j hj => by rw [putK_other _ _ hj, put_other _ _ hj]; exact HI.out.oth j hj, fun k hk => ?_, fun k hk => ?_, HI.out.keep.trans' h3 (fun k hk => ?_)⟩
        · rcases ofG_told (N := wr.heap.size) (by decide) (by decide) h2 hk with e | e | e
          · rcases HI.out.of k e with e | e | ⟨c, hc, e⟩
            · exact .inl e
            · exact .inr (.inl e)
            · exact .inr (.inr ⟨c, List.take_subset_take_left cs (Nat.le_succ i) hc, e⟩)
          · exact .inr (.inl (Nat.le_trans HI.out.keep.size e))
          · refine .inr (.inr ⟨y, ?_, e⟩)
            rw [List.take_succ_eq_append_getElem HY.out.2.2.1, ← HY.out.2.2.2]
            exact List.mem_append_right _ (List.mem_singleton.2 rfl)
        · rw [put_self] at hk
          rcases h2 k hk with e | e
          · exact HI.out.row k e
          · exact .inr (Nat.le_trans HI.out.keep.size e)
        · rcases hk with e | e
          · exact .inl (.inl e)
          · rcases HI.out.row k e with e | e
            · exact .inl (.inr e)
            · exact .inr e
      have HNX := Lib.hid hnx
      clear h1 h2 h3 hnx
      go_wp2_with fail
      rw [HWI.out]
      exact ⟨⟨i + 1, hlt, rfl, _, _, _, HNX.out⟩, by simp only [intOf, Int.toNat_natCast]; omega⟩
    · have hjn : i = N := by omega
      subst hjn
      have hfr : ∀ k, (Value.slice av i cv).ownBlock = some k → ¬ OfG q F' H' k := fun k hk e => by
        rcases HI.out.of k e with e | e | ⟨c, hc, e⟩
        · exact hx k hk e
        · have := (HH.out.1.row.lt k hk).2; omega
        · exact HH.out.1.off c (List.mem_of_mem_take hc) k e hk
      have hkp := keepPair_any av i cv (F' 6) base q (n + i) F' (H' 6) wr HI.out.bk.bk rfl (HI.out.bk.k 6 (by decide) (by decide)).row HI.out.bk.bs (by omega) (by rw [(HI.out.oth 6 (by decide)).1]; omega)
      have HK := Lib.hid (And.intro hkp hfr)
      clear hxe hx hl hqk hH6 hH hn hno hLW hfr hkp hNN
      go_wp2_with fail
      refine HK.out.1.mono ?_
      rintro e W2 ⟨rfl, hv', hbk, hrow, hblk, hk⟩
      have hnc : i = cs.length := HH.out.2.2.2.2.2.2.2.1
      have hF := HI.out.bk.tell (j := 6) (by decide) (by decide) hbk hrow hblk hk HLW.out.row HK.out.2 (by rw [List.length_map, ← hnc]; have := HH.out.2.2.2.1; omega)
      have HFF := Lib.hid (And.intro hF (And.intro hblk hk))
      clear hF hbk hrow hblk hk hnc
      go_wp2_with fail
      refine bodyPost_end (results_none rfl _ _ _) rfl ⟨rfl, _, _, _, HFF.out.1, ?_, ?_, fun j h1 h6 => ?_, fun k hk => ?_, ?_⟩
      · rw [putK_other _ _ (by decide : (1 : Nat) ≠ 6)]; exact HI.out.len
      · rw [putK_self, List.length_append, (HI.out.oth 6 (by decide)).1]; rfl
      · rw [putK_other _ _ h6]; exact (HI.out.oth j h1).1
      · rcases ofG_told (N := wr.heap.size) (by decide) (by decide) HFF.out.2.1 hk with e | e | e
        · rcases HI.out.of k e with e | e | ⟨c, hc, e⟩
          · exact .inl e
          · exact .inr (.inl e)
          · exact .inr (.inr (.inr ⟨c, List.mem_of_mem_take hc, e⟩))
        · exact .inr (.inl (Nat.le_trans HI.out.keep.size e))
        · exact .inr (.inr (.inl e))
      · refine (HI.out.keep.mono (Y := fun i => i = q ∨ (F 1).ownBlock = some i ∨ (F 6).ownBlock = some i) fun k h => h.imp_right .inl).trans' HFF.out.2.2 (fun k hk => ?_)
        rcases hk with e | e
        · exact .inl (.inl e)
        · rw [(HI.out.oth 6 (by decide)).2] at e
          exact .inl (.inr (.inr e))
end Go.Proofs.YtfmgoehnbaiamaaGreatDoor
