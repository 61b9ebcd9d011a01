/-
  Joined: SO5, SO10, SO11.
-/
import Derived.Test.YtfmgoehnbaiamaaGreatDoorZBG
import Derived.Test.YtfmgoehnbaiamaaGreatDoorSO9
import Derived.Test.YtfmgoehnbaiamaaGreatDoorZBN
-- Plain law: a show's bits are its own; what a show leads to, step by step.
open Go Go.RowKit Alm
namespace Go.Proofs.YtfmgoehnbaiamaaGreatDoor
open Keys (Rise Pr kn putB put del)
theorem bit_above (k : Sum) {i : Nat} (h : 256 ≤ i) : (kn k).testBit i = false := by
  have e : kn k >>> i = 0 := by rw [show i = 256 + (i - 256) by omega, Nat.shiftRight_add, shr_256, Nat.zero_shiftRight]
  unfold Nat.testBit
  rw [e]; rfl
theorem which_eq {a b : Sum} {T : List (Option Sum)} (ha : Bits a 256 T) (hb : Bits b 256 T) : a = b := by
  refine Keys.kn_inj (Nat.eq_of_testBit_eq fun i => ?_)
  by_cases hi : i < 256
  · have h1 := ha (255 - i) (by omega)
    have h2 := hb (255 - i) (by omega)
    rw [show 256 - 1 - (255 - i) = i by omega] at h1 h2
    rw [h1, h2]
  · rw [bit_above a (by omega), bit_above b (by omega)]
theorem run_flag (k which : Sum) (s : Sum × List Sum × Bool) : ∀ {n : Nat}, (runC k which n s).2.2 = true → ∀ d, (runC k which (n + d) s).2.2 = true
  | n, h, 0 => h
  | n, h, d + 1 => by
    have ih := run_flag k which s h d
    show (stepC k which (n + d) (runC k which (n + d) s)).2.2 = true
    unfold stepC
    split
    · rw [if_pos (.inl ih)]
    · exact ih
theorem run_out {k which : Sum} {n : Nat} {s : Sum × List Sum × Bool} (h : (kn which).testBit n = true) (h0 : (runC k which n s).2.1 = []) : (runC k which (n + 1) s).2.2 = true := by
  show (stepC k which n (runC k which n s)).2.2 = _
  unfold stepC
  rw [if_pos h, if_pos (.inr h0)]
theorem run_yes {k which : Sum} {n left : Nat} {x t : Sum} {S : List Sum} {s : Sum × List Sum × Bool} (h : (kn which).testBit n = true) (hs : runC k which n s = (x, S.take (left + 1), false)) (ht : S[left]? = some t) : runC k which (n + 1) s = (join k n t x, S.take left, false) := by
  show stepC k which n (runC k which n s) = _
  have hl := (List.getElem?_eq_some_iff.1 ht).1
  have e := (List.getElem?_eq_some_iff.1 ht).2
  have hne : S.take (left + 1) ≠ [] := by intro h0; have := congrArg List.length h0; rw [List.length_take, List.length_nil] at this; omega
  unfold stepC
  rw [if_pos h, hs]
  rw [if_neg (by simp only [Bool.false_eq_true, false_or]; exact hne)]
  rw [List.take_succ_eq_append_getElem hl, e]
  simp
end Go.Proofs.YtfmgoehnbaiamaaGreatDoor
-- Walks: almonerref16: Leads, Check.
namespace Go.Proofs.YtfmgoehnbaiamaaGreatDoor
theorem which_at {w : World} {b : Nat} {which : Sum} {v : Value} (h : w.rangeAt b 0 (cellsShow which v)) : w.rangeAt b 0 (cellsOf which) := (range_append.1 h).1
theorem slice_at {w : World} {b : Nat} {which : Sum} {v : Value} (h : w.rangeAt b 0 (cellsShow which v)) : w.cell? ⟨b, 32, none⟩ = some v := by
  have := h 32 v (by rw [cellsShow, List.getElem?_append_right (by rw [length_cellsOf]; omega), length_cellsOf]; rfl)
  rwa [Nat.zero_add] at this
theorem join_zero {k : Sum} {n : Nat} {t x : Sum} (h : (Keys.kn k).testBit n = false) : join k n t x = sd x t := by unfold join; rw [if_neg (by rw [h]; decide)]
theorem join_one {k : Sum} {n : Nat} {t x : Sum} (h : (Keys.kn k).testBit n = true) : join k n t x = sd t x := by unfold join; rw [if_pos h]
theorem take_none {S : List Sum} {left : Nat} (h : left ≤ S.length) : (S.take left = []) ↔ left = 0 := by
  constructor
  · intro h0
    have := congrArg List.length h0
    rw [List.length_take, List.length_nil] at this
    omega
  · rintro rfl; exact List.take_zero
set_option maxRecDepth 100000 in
set_option maxHeartbeats 1000000 in
theorem rleads_any (k which : Sum) (v vS : Value) (bs : List UInt8) (S : List Sum) (w : World) (hv : BytesAt w v bs) (hs : SumsAt w vS S) (hS : S.length < 100000) (hbs : bs.length < 900000) :
    Calls Tryz.prog 103 #[sv k, v, shV which vS] w fun e w' => ∃ (x : Sum) (ok : Bool), e = .returned (.tuple #[sv x, .bool ok]) ∧ ok = decide ((runC k which 256 (vl k bs, S, false)).2.2 = false ∧ (runC k which 256 (vl k bs, S, false)).2.1 = []) ∧ (ok = true → x = (runC k which 256 (vl k bs, S, false)).1) ∧ Below w.heap.size w w' := by
  obtain ⟨w1, hw1⟩ : ∃ x, x = w.alloc (.cells (cellsOf k).toArray 24) := ⟨_, rfl⟩
  obtain ⟨w2, hw2⟩ : ∃ x, x = w1.alloc (.cells (cellsShow which vS).toArray 63) := ⟨_, rfl⟩
  obtain ⟨w3, hw3⟩ : ∃ x, x = w2.alloc (.cells (cellsOf zeroSum).toArray 24) := ⟨_, rfl⟩
  have r1 : w1.rangeAt w.heap.size 0 (cellsOf k) := by rw [hw1]; exact range_new w _ _ _ rfl
  have r2 : w2.rangeAt w1.heap.size 0 (cellsShow which vS) := by rw [hw2]; exact range_new w1 _ _ _ rfl
  have t3 : w3.there w2.heap.size 0 32 := by rw [hw3]; exact there_new w2 (cellsOf zeroSum).toArray _
  have b1 : Below w.heap.size w w1 := by rw [hw1]; exact al (Below.refl _ _) _
  have b2 : Below w1.heap.size w1 w2 := by rw [hw2]; exact al (Below.refl _ _) _
  have b3 : Below w2.heap.size w2 w3 := by rw [hw3]; exact al (Below.refl _ _) _
  have r13 := (Keeps.of_below (X := fun _ => False) b3).range ((Keeps.of_below (X := fun _ => False) b2).range r1 (fun h => h)) (fun h => h)
  have r23 := (Keeps.of_below (X := fun _ => False) b3).range r2 (fun h => h)
  have b13 := (b1.trans (b2.mono b1.size)).trans (b3.mono (Nat.le_trans b1.size b2.size))
  have s1 : w1.heap.size = w.heap.size + 1 := by rw [hw1, World.size_alloc]
  have s2 : w2.heap.size = w.heap.size + 2 := by rw [hw2, World.size_alloc, s1]
  rw [s1] at r23
  rw [s2] at t3
  have H0 := Lib.hid (And.intro r13 (And.intro r23 (And.intro t3 (And.intro b13 (And.intro (bytes_below hv b13 (Nat.le_refl _)) (hs.below b13 (Nat.le_refl _)))))))
  have HW := Lib.hid (And.intro hw1 (And.intro hw2 hw3))
  have HL := Lib.hid (And.intro hS hbs)
  obtain ⟨a0, c0, rfl, _, _, _⟩ := id hv
  obtain ⟨n0, hn0⟩ : ∃ n, n = bs.length := ⟨_, rfl⟩
  obtain ⟨aS, cS, rfl, hcS, _, _⟩ := id hs
  obtain ⟨M, hM⟩ : ∃ n, n = S.length := ⟨_, rfl⟩
  rw [← hn0, ← hM] at H0
  rw [← hM] at HW hcS
  rw [← hn0, ← hM]
  have HM := Lib.hid hM
  clear r1 r2 t3 b1 b2 b3 r13 r23 b13 s1 s2 hw1 hw2 hw3 hv hs hS hbs hM hn0
  obtain ⟨z3, hz3⟩ : ∃ z, z = w.heap.size := ⟨_, rfl⟩
  obtain ⟨z5, hz5⟩ : ∃ z, z = w.heap.size + 1 := ⟨_, rfl⟩
  obtain ⟨z6, hz6⟩ : ∃ z, z = w.heap.size + 2 := ⟨_, rfl⟩
  have HZ := Lib.hid (And.intro hz3 (And.intro hz5 hz6))
  rw [← hz5, ← hz6] at H0
  have k0 : (M : Int) ≤ (cS : Int) := by omega
  clear hz3 hz5 hz6
  obtain ⟨x0, hx0⟩ : ∃ x, x = vl k bs := ⟨_, rfl⟩
  have hval := fun W hW => rval_any k bs (.slice a0 n0 c0) W hW HL.out.2
  rw [← hx0] at hval ⊢
  have HVAL := Lib.hid hval
  clear hval hx0
  unfold shV
  go_enter Tryz.func103, Tryz.ntmps103
  refine Alm.wp_cut 1 ?_
  intro T hT
  dsimp only [cutN]
  replace hT := Lib.hid hT
  go_wp2_with fail
  refine hT.out _ _ ?_
  clear hT
  dsimp only [dropN]
  rw [show w.heap.size + 1 + 1 = w.heap.size + 2 from rfl, ← HZ.out.2.1, ← HZ.out.2.2]
  change Code.wp _ _ _ _ (((w.alloc (.cells (cellsOf k).toArray 24)).alloc (.cells (cellsShow which (.slice aS M cS)).toArray 63)).alloc (.cells (cellsOf zeroSum).toArray 24))
  rw [← HW.out.1, ← HW.out.2.1, ← HW.out.2.2]
  clear HW
  go_wp2_with fail
  refine (rall_any w3).mono ?_
  rintro e w4 ⟨vn, rfl, hvn, hb⟩
  obtain ⟨bn, on, cn, rfl, hcn, hnr⟩ := nones_at hvn
  have kk := Keeps.of_below (X := fun _ => False) hb
  have H4 := Lib.hid (And.intro (kk.range H0.out.1 (fun h => h)) (And.intro (kk.range H0.out.2.1 (fun h => h)) (And.intro (kk.there H0.out.2.2.1 (by decide) (fun h => h)) (And.intro (H0.out.2.2.2.1.trans (hb.mono H0.out.2.2.2.1.size)) (And.intro (bytes_below H0.out.2.2.2.2.1 hb (Nat.le_refl _)) (And.intro (H0.out.2.2.2.2.2.below hb (Nat.le_refl _)) (And.intro hvn trivial)))))))
  clear kk hb hvn H0 hnr
  go_wp2_with (refine wpList_load_sum rfl _ rfl w.heap.size 0 rfl k H4.out.1 ?_)
  refine (HVAL.out w4 H4.out.2.2.2.2.1).mono ?_
  rintro e w5 ⟨rfl, hb⟩
  have kk := Keeps.of_below (X := fun _ => False) hb
  have HK := Lib.hid (And.intro (kk.range H4.out.1 (fun h => h)) (And.intro (kk.range H4.out.2.1 (fun h => h)) (And.intro (kk.there H4.out.2.2.1 (by decide) (fun h => h)) (And.intro (H4.out.2.2.2.1.trans (hb.mono H4.out.2.2.2.1.size)) (And.intro (H4.out.2.2.2.2.2.1.below hb (Nat.le_refl _)) (H4.out.2.2.2.2.2.2.1.below hb (Nat.le_refl _)))))))
  clear kk hb H4 HVAL
  obtain ⟨z9, hz9⟩ : ∃ z, z = w5.heap.size := ⟨_, rfl⟩
  have HZ9 := Lib.hid hz9
  have hq6 : z6 < z9 := by rw [hz9]; exact there_lt HK.out.2.2.1 (by decide)
  have HQ6 := Lib.hid hq6
  clear hz9 hq6
  have HG := Lib.hid trivial
  go_wp2_with (have _ := HG; refine wpList_var_sum (by rfl) rfl _ _ rfl x0 rfl rfl ?_; intro W6 hb hr ht; rw [← HZ9.out] at hr ht ⊢; have H6 := Lib.hid (And.intro hb (And.intro hr ht)); have g6 := slice_at ((Keeps.of_below (X := fun _ => False) hb).range HK.out.2.1 (fun h => h)); clear HG hb hr ht)
  clear g6
  go_loopw [10, 11, 12] (fun lv iv _ W => ∃ (j left : Nat) (x : Sum), j ≤ 256 ∧ iv = .int .i64 (255 - (j : Int)) ∧ lv = .int .i64 (left : Int) ∧ left ≤ M ∧ runC k which j (x0, S, false) = (x, S.take left, false) ∧ Below w5.heap.size w5 W ∧ W.rangeAt z9 0 (cellsOf x) ∧ W.there z9 0 32) (fun _ iv _ _ => (intOf iv + 1).toNat)
  case atStart => exact ⟨0, M, x0, by omega, rfl, rfl, Nat.le_refl _, by rw [HM.out, List.take_length]; rfl, H6.out⟩
  case round =>
    clear H6
    obtain ⟨j, left, x, hj, rfl, rfl, hlM, hrun, hB, hr9, ht9⟩ := hrel
    have HRUN := Lib.hid (And.intro hlM hrun)
    have HB := Lib.hid (And.intro hB (And.intro hr9 ht9))
    clear hlM hrun hB hr9 ht9
    by_cases hlt : j < 256
    · obtain ⟨D, hD⟩ : ∃ D, D = 255 - j := ⟨_, rfl⟩
      have hd : (255 : Int) - (j : Int) = (D : Int) := by omega
      rw [hd]
      obtain ⟨E, hE⟩ : ∃ E, E = D + 1 := ⟨_, rfl⟩
      have c1 : decide ((0 : Int) ≤ (D : Int)) = true := by simp
      have hw : IntKind.i64.wrap ((D : Int) + 1) = (E : Int) := by rw [IntKind.wrap_i64]; omega
      have hE0 : (0 : Int) ≤ (E : Int) := by omega
      have hE1 : (E : Int) < 257 := by omega
      have hE2 : E < 257 := by omega
      obtain ⟨bn', on', cn', hen, hcn', hnr⟩ := nones_at HK.out.2.2.2.2.2
      simp only [Value.slice.injEq, Option.some.injEq, Addr.mk.injEq, and_true, true_and] at hen
      obtain ⟨⟨rfl, rfl⟩, rfl⟩ := hen
      have hrn := hnr wr HB.out.1 j (by omega)
      rw [show 256 - j = E by omega] at hrn
      have HRN := Lib.hid hrn
      have HD := Lib.hid (And.intro hD (And.intro hE hlt))
      clear hD hd hE hlt hj hnr hrn
      have HG := Lib.hid trivial
      go_wp2_with (first
        | (have _ := HG; refine wpList_load_sum rfl _ rfl bn (on + E * 32) rfl (em j) HRN.out ?_)
        | (have _ := HG; refine wpList_var_sum (by rfl) rfl _ _ rfl (em j) rfl rfl ?_; intro V hb hr ht; obtain ⟨z12, hz12⟩ : ∃ z, z = wr.heap.size := ⟨_, rfl⟩; rw [← hz12] at hr ht ⊢; have kk := Keeps.of_below (X := fun _ => False) hb; have HV := Lib.hid (And.intro (HB.out.1.trans (hb.mono HB.out.1.size)) (And.intro (kk.range HB.out.2.1 (fun h => h)) (And.intro (kk.there HB.out.2.2 (by decide) (fun h => h)) (And.intro hr ht)))); have HZ12 := Lib.hid (by rw [hz12]; exact there_lt HB.out.2.2 (by decide) : z9 < z12); clear HG hb hr ht hz12 kk HB)
        | (have _ := HZ12; refine wpList_load_sum rfl _ rfl z5 0 rfl which (which_at ((Keeps.of_below (X := fun _ => False) HV.out.1).range HK.out.2.1 (fun h => h))) ?_))
      have hbw := fun W => rbit_any which D W (by have := HD.out; omega)
      obtain ⟨qw, hqw⟩ : ∃ y, y = (Keys.kn which >>> j) % 2 := ⟨_, rfl⟩
      rw [show 255 - D = j by have := HD.out; omega, ← hqw] at hbw
      have hwb := Keys.bit_odd (Keys.kn which) j
      rw [← hqw] at hwb
      have hq2 : qw < 2 := by rw [hqw]; exact Nat.mod_lt _ (by decide)
      clear hqw
      have hw01 : qw = 0 ∨ qw = 1 := by omega
      rcases hw01 with rfl | rfl
      · rw [show ((0 : Nat) : Int) = 0 from rfl] at hbw
        have HBW := Lib.hid hbw
        have HWB := Lib.hid (show (Keys.kn which).testBit j = false by rw [hwb]; rfl)
        clear hbw hwb hq2
        refine (HBW.out V).mono ?_
        rintro e V7 ⟨rfl, hb7⟩
        have kk := Keeps.of_below (X := fun _ => False) hb7
        have HV7 := Lib.hid (And.intro (HV.out.1.trans (hb7.mono HV.out.1.size)) (And.intro (kk.range HV.out.2.1 (fun h => h)) (And.intro (kk.there HV.out.2.2.1 (by decide) (fun h => h)) (kk.range HV.out.2.2.2.1 (fun h => h)))))
        clear kk hb7 HV HBW
        have HV := Lib.hid HV7.out
        clear HV7
        have hbk := fun W => rbit_any k D W (by have := HD.out; omega)
        obtain ⟨qk, hqk⟩ : ∃ y, y = (Keys.kn k >>> j) % 2 := ⟨_, rfl⟩
        rw [show 255 - D = j by have := HD.out; omega, ← hqk] at hbk
        have hkb := Keys.bit_odd (Keys.kn k) j
        rw [← hqk] at hkb
        have hq2 : qk < 2 := by rw [hqk]; exact Nat.mod_lt _ (by decide)
        clear hqk
        have hk01 : qk = 0 ∨ qk = 1 := by omega
        rcases hk01 with rfl | rfl
        · rw [show ((0 : Nat) : Int) = 0 from rfl] at hbk
          have HBK := Lib.hid hbk
          have HKB := Lib.hid (show (Keys.kn k).testBit j = false by rw [hkb]; rfl)
          clear hbk hkb hq2
          go_wp2_with (refine wpList_load_sum rfl _ rfl w.heap.size 0 rfl k ((Keeps.of_below (X := fun _ => False) HV.out.1).range HK.out.1 (fun h => h)) ?_)
          refine (HBK.out _).mono ?_
          rintro e V8 ⟨rfl, hb8⟩
          have kk := Keeps.of_below (X := fun _ => False) hb8
          have HV8 := Lib.hid (And.intro (HV.out.1.trans (hb8.mono HV.out.1.size)) (And.intro (kk.range HV.out.2.1 (fun h => h)) (And.intro (kk.there HV.out.2.2.1 (by decide) (fun h => h)) (kk.range HV.out.2.2.2 (fun h => h)))))
          clear kk hb8 HV HBK
          go_wp2_with (first
            | (refine wpList_load_sum rfl _ rfl z9 0 rfl x HV8.out.2.1 ?_)
            | (refine wpList_load_sum rfl _ rfl z12 0 rfl (em j) HV8.out.2.2.2 ?_)
            | (go_at_call 125; refine (rside_any (x) (em j) _).mono ?_; rintro e V9 ⟨rfl, hb9⟩; have HV9 := Lib.hid (And.intro (HV8.out.1.trans (hb9.mono HV8.out.1.size)) ((Keeps.of_below (X := fun _ => False) hb9).there HV8.out.2.2.1 (by decide) (fun h => h))); clear hb9)
            | (refine wpList_store_sum rfl _ _ rfl z9 0 (sd (x) (em j)) rfl rfl HV9.out.2 ?_))
          refine ⟨⟨j + 1, left, sd (x) (em j), by have := HD.out; omega, congrArg _ (by have := HD.out; first | omega | (unfold wrap64; omega)), rfl, HRUN.out.1, by rw [runC, step_none HWB.out, HRUN.out.2, join_zero HKB.out], setCells_below _ (by rw [HZ9.out]; exact Nat.le_refl _) _ _ _ _ HV9.out.1, range_stored _ _ _ _ (by rw [length_cellsOf]; exact World.there_setCells HV9.out.2 _ _ _), World.there_setCells HV9.out.2 _ _ _⟩, by simp only [intOf]; have := HD.out; first | omega | (unfold wrap64; omega)⟩
        · rw [show ((1 : Nat) : Int) = 1 from rfl] at hbk
          have HBK := Lib.hid hbk
          have HKB := Lib.hid (show (Keys.kn k).testBit j = true by rw [hkb]; rfl)
          clear hbk hkb hq2
          go_wp2_with (refine wpList_load_sum rfl _ rfl w.heap.size 0 rfl k ((Keeps.of_below (X := fun _ => False) HV.out.1).range HK.out.1 (fun h => h)) ?_)
          refine (HBK.out _).mono ?_
          rintro e V8 ⟨rfl, hb8⟩
          have kk := Keeps.of_below (X := fun _ => False) hb8
          have HV8 := Lib.hid (And.intro (HV.out.1.trans (hb8.mono HV.out.1.size)) (And.intro (kk.range HV.out.2.1 (fun h => h)) (And.intro (kk.there HV.out.2.2.1 (by decide) (fun h => h)) (kk.range HV.out.2.2.2 (fun h => h)))))
          clear kk hb8 HV HBK
          go_wp2_with (first
            | (refine wpList_load_sum rfl _ rfl z9 0 rfl x HV8.out.2.1 ?_)
            | (refine wpList_load_sum rfl _ rfl z12 0 rfl (em j) HV8.out.2.2.2 ?_)
            | (go_at_call 125; refine (rside_any (em j) (x) _).mono ?_; rintro e V9 ⟨rfl, hb9⟩; have HV9 := Lib.hid (And.intro (HV8.out.1.trans (hb9.mono HV8.out.1.size)) ((Keeps.of_below (X := fun _ => False) hb9).there HV8.out.2.2.1 (by decide) (fun h => h))); clear hb9)
            | (refine wpList_store_sum rfl _ _ rfl z9 0 (sd (em j) (x)) rfl rfl HV9.out.2 ?_))
          refine ⟨⟨j + 1, left, sd (em j) (x), by have := HD.out; omega, congrArg _ (by have := HD.out; first | omega | (unfold wrap64; omega)), rfl, HRUN.out.1, by rw [runC, step_none HWB.out, HRUN.out.2, join_one HKB.out], setCells_below _ (by rw [HZ9.out]; exact Nat.le_refl _) _ _ _ _ HV9.out.1, range_stored _ _ _ _ (by rw [length_cellsOf]; exact World.there_setCells HV9.out.2 _ _ _), World.there_setCells HV9.out.2 _ _ _⟩, by simp only [intOf]; have := HD.out; first | omega | (unfold wrap64; omega)⟩
      · rw [show ((1 : Nat) : Int) = 1 from rfl] at hbw
        have HBW := Lib.hid hbw
        have HWB := Lib.hid (show (Keys.kn which).testBit j = true by rw [hwb]; rfl)
        clear hbw hwb hq2
        refine (HBW.out V).mono ?_
        rintro e V7 ⟨rfl, hb7⟩
        have kk := Keeps.of_below (X := fun _ => False) hb7
        have HV7 := Lib.hid (And.intro (HV.out.1.trans (hb7.mono HV.out.1.size)) (And.intro (kk.range HV.out.2.1 (fun h => h)) (And.intro (kk.there HV.out.2.2.1 (by decide) (fun h => h)) (And.intro (kk.range HV.out.2.2.2.1 (fun h => h)) (kk.there HV.out.2.2.2.2 (by decide) (fun h => h))))))
        clear kk hb7 HV HBW
        cases left with
        | zero =>
          have hout := run_out HWB.out (s := (x0, S, false)) (by rw [HRUN.out.2]; rfl)
          have hall := run_flag k which (x0, S, false) hout (255 - j)
          rw [show j + 1 + (255 - j) = 256 by have := HD.out; omega] at hall
          have HALL := Lib.hid hall
          have HT6 := Lib.hid ((Keeps.of_below (X := fun _ => False) HV7.out.1).there HK.out.2.2.1 (by decide) (fun h => h))
          clear hout hall
          go_wp2_with (refine wpList_store_sum rfl _ _ rfl z6 0 zeroSum rfl rfl HT6.out ?_)
          try rw [Exit.noGoto_ret]
          have hbz : Below w.heap.size w V7 := HK.out.2.2.2.1.trans (HV7.out.1.mono HK.out.2.2.2.1.size)
          exact bodyPost_ret (results_cell_tmp Tryz.results103 _ _ z6 0 (cellsOf zeroSum) _ rfl (range_stored _ _ _ _ (by rw [length_cellsOf]; exact World.there_setCells HT6.out _ _ _)) Tryz.underlying24 rfl (by rw [length_cellsOf]; exact infoSum)) rfl
            ⟨zeroSum, false, rfl, (decide_eq_false (fun h => by rw [HALL.out] at h; exact Bool.noConfusion h.1)).symm, (fun h => (by cases h)), setCells_below _ (by rw [HZ.out.2.2]; omega) _ _ _ _ hbz⟩
        | succ left =>
          have hsl := slice_at ((Keeps.of_below (X := fun _ => False) HV7.out.1).range HK.out.2.1 (fun h => h))
          have hsa := sums_at (HK.out.2.2.2.2.1.below HV7.out.1 (Nat.le_refl _)) (i := left) (by rw [← HM.out]; have := HRUN.out.1; omega)
          obtain ⟨bS, oS, cS', hes, _, hrs⟩ := hsa
          simp only [Value.slice.injEq] at hes
          obtain ⟨rfl, -, rfl⟩ := hes
          obtain ⟨t, ht⟩ : ∃ t, t = S.getD left zeroSum := ⟨_, rfl⟩
          rw [← ht] at hrs
          have hgt : S[left]? = some t := by
            have hl : left < S.length := by rw [← HM.out]; have := HRUN.out.1; omega
            rw [ht, List.getD_eq_getElem?_getD, List.getElem?_eq_getElem hl]; rfl
          have HGT := Lib.hid hgt
          have HRS := Lib.hid hrs
          have f1 : decide (left + 1 = 0) = false := by simp
          have f2 : decide (((left + 1 : Nat) : Int) = 0) = false := by simp; omega
          have f3 : ((((left + 1 : Nat)) : Int) == 0) = false := by rw [beq_eq_false_iff_ne]; omega
          have f4 : IntKind.i64.wrap (((left + 1 : Nat) : Int) - 1) = (left : Int) := by rw [IntKind.wrap_i64]; have := HRUN.out.1; have := HL.out.1; have := HM.out; omega
          have f6 : (left : Int) < (M : Int) := by have := HRUN.out.1; omega
          have f7 : (0 : Int) ≤ (left : Int) := by omega
          have HT12 := Lib.hid HV7.out.2.2.2.2
          clear ht hgt hrs
          obtain ⟨L1, hL1⟩ : ∃ y, y = left + 1 := ⟨_, rfl⟩
          rw [← hL1] at f1 f2 f3 f4 HRUN ⊢
          have HL1 := Lib.hid hL1
          clear hL1
          have HG := Lib.hid trivial
          go_wp2_with (first
            | (have _ := HG; refine wpList_load_sum rfl _ rfl bS (oS + left * 32) rfl t HRS.out ?_)
            | (have _ := HG; refine wpList_store_sum rfl _ _ rfl z12 0 t rfl rfl HT12.out ?_; have k12 := keeps_setCells_ z12 (cellsOf t) 0 V7; have HV := Lib.hid (And.intro (HV7.out.1.trans (k12.below HV7.out.1.size (fun i hi => by have := HZ12.out; have := HZ9.out; omega))) (And.intro (k12.range HV7.out.2.1 (show ¬ z9 = z12 by have := HZ12.out; omega)) (And.intro (k12.there HV7.out.2.2.1 (by decide) (show ¬ z9 = z12 by have := HZ12.out; omega)) (range_stored z12 (cellsOf t) 0 V7 (by rw [length_cellsOf]; exact World.there_setCells HT12.out _ _ _))))); clear HG k12; refine Hid.out ?_))
          refine Lib.hid ?_
          clear f1 f2 f3 f4 f6 f7 hsl HT12 HV7
          have hbk := fun W => rbit_any k D W (by have := HD.out; omega)
          obtain ⟨qk, hqk⟩ : ∃ y, y = (Keys.kn k >>> j) % 2 := ⟨_, rfl⟩
          rw [show 255 - D = j by have := HD.out; omega, ← hqk] at hbk
          have hkb := Keys.bit_odd (Keys.kn k) j
          rw [← hqk] at hkb
          have hq2 : qk < 2 := by rw [hqk]; exact Nat.mod_lt _ (by decide)
          clear hqk
          have hk01 : qk = 0 ∨ qk = 1 := by omega
          rcases hk01 with rfl | rfl
          · rw [show ((0 : Nat) : Int) = 0 from rfl] at hbk
            have HBK := Lib.hid hbk
            have HKB := Lib.hid (show (Keys.kn k).testBit j = false by rw [hkb]; rfl)
            clear hbk hkb hq2
            go_wp2_with (refine wpList_load_sum rfl _ rfl w.heap.size 0 rfl k ((Keeps.of_below (X := fun _ => False) HV.out.1).range HK.out.1 (fun h => h)) ?_)
            refine (HBK.out _).mono ?_
            rintro e V8 ⟨rfl, hb8⟩
            have kk := Keeps.of_below (X := fun _ => False) hb8
            have HV8 := Lib.hid (And.intro (HV.out.1.trans (hb8.mono HV.out.1.size)) (And.intro (kk.range HV.out.2.1 (fun h => h)) (And.intro (kk.there HV.out.2.2.1 (by decide) (fun h => h)) (kk.range HV.out.2.2.2 (fun h => h)))))
            clear kk hb8 HV HBK
            go_wp2_with (first
              | (refine wpList_load_sum rfl _ rfl z9 0 rfl x HV8.out.2.1 ?_)
              | (refine wpList_load_sum rfl _ rfl z12 0 rfl (t) HV8.out.2.2.2 ?_)
              | (go_at_call 125; refine (rside_any (x) (t) _).mono ?_; rintro e V9 ⟨rfl, hb9⟩; have HV9 := Lib.hid (And.intro (HV8.out.1.trans (hb9.mono HV8.out.1.size)) ((Keeps.of_below (X := fun _ => False) hb9).there HV8.out.2.2.1 (by decide) (fun h => h))); clear hb9)
              | (refine wpList_store_sum rfl _ _ rfl z9 0 (sd (x) (t)) rfl rfl HV9.out.2 ?_))
            refine ⟨⟨j + 1, left, sd (x) (t), by have := HD.out; omega, congrArg _ (by have := HD.out; first | omega | (unfold wrap64; omega)), rfl, by have := HRUN.out.1; have := HL1.out; omega, by rw [run_yes HWB.out (by rw [← HL1.out]; exact HRUN.out.2) HGT.out, join_zero HKB.out], setCells_below _ (by rw [HZ9.out]; exact Nat.le_refl _) _ _ _ _ HV9.out.1, range_stored _ _ _ _ (by rw [length_cellsOf]; exact World.there_setCells HV9.out.2 _ _ _), World.there_setCells HV9.out.2 _ _ _⟩, by simp only [intOf]; have := HD.out; first | omega | (unfold wrap64; omega)⟩
          · rw [show ((1 : Nat) : Int) = 1 from rfl] at hbk
            have HBK := Lib.hid hbk
            have HKB := Lib.hid (show (Keys.kn k).testBit j = true by rw [hkb]; rfl)
            clear hbk hkb hq2
            go_wp2_with (refine wpList_load_sum rfl _ rfl w.heap.size 0 rfl k ((Keeps.of_below (X := fun _ => False) HV.out.1).range HK.out.1 (fun h => h)) ?_)
            refine (HBK.out _).mono ?_
            rintro e V8 ⟨rfl, hb8⟩
            have kk := Keeps.of_below (X := fun _ => False) hb8
            have HV8 := Lib.hid (And.intro (HV.out.1.trans (hb8.mono HV.out.1.size)) (And.intro (kk.range HV.out.2.1 (fun h => h)) (And.intro (kk.there HV.out.2.2.1 (by decide) (fun h => h)) (kk.range HV.out.2.2.2 (fun h => h)))))
            clear kk hb8 HV HBK
            go_wp2_with (first
              | (refine wpList_load_sum rfl _ rfl z9 0 rfl x HV8.out.2.1 ?_)
              | (refine wpList_load_sum rfl _ rfl z12 0 rfl (t) HV8.out.2.2.2 ?_)
              | (go_at_call 125; refine (rside_any (t) (x) _).mono ?_; rintro e V9 ⟨rfl, hb9⟩; have HV9 := Lib.hid (And.intro (HV8.out.1.trans (hb9.mono HV8.out.1.size)) ((Keeps.of_below (X := fun _ => False) hb9).there HV8.out.2.2.1 (by decide) (fun h => h))); clear hb9)
              | (refine wpList_store_sum rfl _ _ rfl z9 0 (sd (t) (x)) rfl rfl HV9.out.2 ?_))
            refine ⟨⟨j + 1, left, sd (t) (x), by have := HD.out; omega, congrArg _ (by have := HD.out; first | omega | (unfold wrap64; omega)), rfl, by have := HRUN.out.1; have := HL1.out; omega, by rw [run_yes HWB.out (by rw [← HL1.out]; exact HRUN.out.2) HGT.out, join_one HKB.out], setCells_below _ (by rw [HZ9.out]; exact Nat.le_refl _) _ _ _ _ HV9.out.1, range_stored _ _ _ _ (by rw [length_cellsOf]; exact World.there_setCells HV9.out.2 _ _ _), World.there_setCells HV9.out.2 _ _ _⟩, by simp only [intOf]; have := HD.out; first | omega | (unfold wrap64; omega)⟩
    · have hj6 : j = 256 := by omega
      subst hj6
      have c1 : decide ((0 : Int) ≤ 255 - ((256 : Nat) : Int)) = false := by decide
      obtain ⟨B, hBd⟩ : ∃ B : Bool, B = decide (left = 0) := ⟨_, rfl⟩
      have e1 : decide ((left : Int) = 0) = B := by rw [hBd, decide_eq_decide]; omega
      have e2 : decide (left = 0) = B := hBd.symm
      have e3 : ((left : Int) == 0) = B := by rw [hBd, Bool.eq_iff_iff, beq_iff_eq, decide_eq_true_eq]; omega
      have HBD := Lib.hid hBd
      have HT6 := Lib.hid ((Keeps.of_below (X := fun _ => False) HB.out.1).there HK.out.2.2.1 (by decide) (fun h => h))
      clear hj hlt hBd
      go_wp2_with (first
        | (refine wpList_load_sum rfl _ rfl z9 0 rfl x HB.out.2.1 ?_)
        | (refine wpList_store_sum rfl _ _ rfl z6 0 x rfl rfl HT6.out ?_))
      try rw [Exit.noGoto_ret]
      have hbz : Below w.heap.size w wr := HK.out.2.2.2.1.trans (HB.out.1.mono HK.out.2.2.2.1.size)
      exact bodyPost_ret (results_cell_tmp Tryz.results103 _ _ z6 0 (cellsOf x) _ rfl (range_stored _ _ _ _ (by rw [length_cellsOf]; exact World.there_setCells HT6.out _ _ _)) Tryz.underlying24 rfl (by rw [length_cellsOf]; exact infoSum)) rfl
        ⟨x, B, rfl, by
          rw [HRUN.out.2, HBD.out, decide_eq_decide]
          exact ⟨fun h => ⟨rfl, (take_none (by rw [← HM.out]; exact HRUN.out.1)).2 h⟩, fun h => (take_none (by rw [← HM.out]; exact HRUN.out.1)).1 h.2⟩, (fun _ => by rw [HRUN.out.2]), setCells_below _ (by rw [HZ.out.2.2]; omega) _ _ _ _ hbz⟩
end Go.Proofs.YtfmgoehnbaiamaaGreatDoor
-- Walk: almonerref16.Check.
namespace Go.Proofs.YtfmgoehnbaiamaaGreatDoor
set_option maxRecDepth 100000 in
set_option maxHeartbeats 1000000 in
theorem rcheck_any (root k which : Sum) (v vS : Value) (bs : List UInt8) (S : List Sum) (w : World) (hv : BytesAt w v bs) (hs : SumsAt w vS S) (hS : S.length < 100000) (hbs : bs.length < 900000) :
    Calls Tryz.prog 31 #[sv root, sv k, v, shV which vS] w fun e w' => e = .returned (.bool (checkOf root k bs which S)) ∧ Below w.heap.size w w' := by
  obtain ⟨w1, hw1⟩ : ∃ x, x = w.alloc (.cells (cellsOf root).toArray 24) := ⟨_, rfl⟩
  obtain ⟨w2, hw2⟩ : ∃ x, x = w1.alloc (.cells (cellsOf k).toArray 24) := ⟨_, rfl⟩
  obtain ⟨w3, hw3⟩ : ∃ x, x = w2.alloc (.cells (cellsShow which vS).toArray 63) := ⟨_, rfl⟩
  have r1 : w1.rangeAt w.heap.size 0 (cellsOf root) := by rw [hw1]; exact range_new w _ _ _ rfl
  have r2 : w2.rangeAt w1.heap.size 0 (cellsOf k) := by rw [hw2]; exact range_new w1 _ _ _ rfl
  have r3 : w3.rangeAt w2.heap.size 0 (cellsShow which vS) := by rw [hw3]; exact range_new w2 _ _ _ rfl
  have b1 : Below w.heap.size w w1 := by rw [hw1]; exact al (Below.refl _ _) _
  have b2 : Below w1.heap.size w1 w2 := by rw [hw2]; exact al (Below.refl _ _) _
  have b3 : Below w2.heap.size w2 w3 := by rw [hw3]; exact al (Below.refl _ _) _
  have r13 := (Keeps.of_below (X := fun _ => False) b3).range ((Keeps.of_below (X := fun _ => False) b2).range r1 (fun h => h)) (fun h => h)
  have r23 := (Keeps.of_below (X := fun _ => False) b3).range r2 (fun h => h)
  have b13 := (b1.trans (b2.mono b1.size)).trans (b3.mono (Nat.le_trans b1.size b2.size))
  have s1 : w1.heap.size = w.heap.size + 1 := by rw [hw1, World.size_alloc]
  have s2 : w2.heap.size = w.heap.size + 2 := by rw [hw2, World.size_alloc, s1]
  rw [s1] at r23
  rw [s2] at r3
  have H0 := Lib.hid (And.intro r13 (And.intro r23 (And.intro r3 (And.intro b13 (And.intro (bytes_below hv b13 (Nat.le_refl _)) (hs.below b13 (Nat.le_refl _)))))))
  have HW := Lib.hid (And.intro hw1 (And.intro hw2 hw3))
  obtain ⟨a0, c0, rfl, _, _, _⟩ := id hv
  obtain ⟨n0, hn0⟩ : ∃ n, n = bs.length := ⟨_, rfl⟩
  rw [← hn0] at H0 ⊢
  have hla := fun W h1 h2 => rleads_any k which (.slice a0 n0 c0) vS bs S W h1 h2 hS hbs
  obtain ⟨R, hR⟩ : ∃ R, R = checkOf root k bs which S := ⟨_, rfl⟩
  rw [← hR]
  unfold checkOf at hR
  obtain ⟨r, hr⟩ : ∃ r, r = runC k which 256 (vl k bs, S, false) := ⟨_, rfl⟩
  rw [← hr] at hR
  simp only [← hr] at hla
  have HLA := Lib.hid hla
  have HR := Lib.hid hR
  clear r1 r2 r3 b1 b2 b3 r13 r23 b13 s1 s2 hw1 hw2 hw3 hv hs hS hbs hn0 hla hR hr
  unfold shV
  go_enter Tryz.func31, Tryz.ntmps31
  refine Alm.wp_cut 1 ?_
  intro T hT
  dsimp only [cutN]
  replace hT := Lib.hid hT
  go_wp2_with fail
  refine hT.out _ _ ?_
  clear hT
  dsimp only [dropN]
  rw [show w.heap.size + 1 + 1 = w.heap.size + 2 from rfl]
  change Code.wp _ _ _ _ (((w.alloc (.cells (cellsOf root).toArray 24)).alloc (.cells (cellsOf k).toArray 24)).alloc (.cells (cellsShow which vS).toArray 63))
  rw [← HW.out.1, ← HW.out.2.1, ← HW.out.2.2]
  clear HW
  go_wp2_with (first
    | (refine wpList_load_sum rfl _ rfl (w.heap.size + 1) 0 rfl k H0.out.2.1 ?_)
    | (refine wpList_load_mid rfl 63 _ rfl (w.heap.size + 2) 0 rfl (cellsShow which vS) _ H0.out.2.2.1 Tryz.underlying63 rfl (by rw [length_cellsShow]; exact infoShow) ?_))
  refine (HLA.out w3 H0.out.2.2.2.2.1 H0.out.2.2.2.2.2).mono ?_
  rintro e w4 ⟨x, ok, rfl, hok, hx, hb⟩
  have H4 := Lib.hid (And.intro ((Keeps.of_below (X := fun _ => False) hb).range H0.out.1 (fun h => h)) (H0.out.2.2.2.1.trans (hb.mono H0.out.2.2.2.1.size)))
  have hR2 : R = (ok && decide (x = root)) := by
    rw [HR.out]
    cases hok' : ok with
    | false =>
      rw [hok'] at hok
      have := of_decide_eq_false hok.symm
      rw [Bool.false_and]
      exact decide_eq_false fun h => this ⟨h.1, h.2.1⟩
    | true =>
      rw [hok'] at hok
      have h2 := of_decide_eq_true hok.symm
      rw [Bool.true_and, hx hok', decide_eq_decide]
      exact ⟨fun h => h.2.2, fun h => ⟨h2.1, h2.2, h⟩⟩
  have HR2 := Lib.hid hR2
  clear hb hok hx H0 HLA HR hR2
  have heq := eq_sums x root
  obtain ⟨dq, hdq⟩ : ∃ d, d = decide (x = root) := ⟨_, rfl⟩
  rw [← hdq] at heq HR2
  clear hdq
  have HG := Lib.hid trivial
  cases ok with
  | false =>
    go_wp2_with (have _ := HG; refine wpList_var_sum (by rfl) rfl _ _ rfl x rfl rfl ?_; intro V hb hr ht; obtain ⟨z9, hz9⟩ : ∃ z, z = w4.heap.size := ⟨_, rfl⟩; rw [← hz9] at hr ⊢; have HV := Lib.hid (And.intro hr (And.intro ((Keeps.of_below (X := fun _ => False) hb).range H4.out.1 (fun h => h)) (H4.out.2.trans (hb.mono H4.out.2.size)))); clear HG hb hr ht hz9)
    have hr2 : R = false := by rw [HR2.out]; rfl
    exact bodyPost_ret (results_tmp rfl _ _ _) rfl ⟨by rw [hr2]; rfl, HV.out.2.2⟩
  | true =>
    go_wp2_with (first
      | (have _ := HG; refine wpList_var_sum (by rfl) rfl _ _ rfl x rfl rfl ?_; intro V hb hr ht; obtain ⟨z9, hz9⟩ : ∃ z, z = w4.heap.size := ⟨_, rfl⟩; rw [← hz9] at hr ⊢; have HV := Lib.hid (And.intro hr (And.intro ((Keeps.of_below (X := fun _ => False) hb).range H4.out.1 (fun h => h)) (H4.out.2.trans (hb.mono H4.out.2.size)))); clear HG hb hr ht hz9)
      | (refine wpList_load_sum_g (by rfl) _ rfl z9 0 rfl x HV.out.1 ?_)
      | (refine wpList_load_sum_g (by rfl) _ rfl w.heap.size 0 rfl root HV.out.2.1 ?_))
    have hr2 : R = dq := by rw [HR2.out]; cases dq <;> rfl
    exact bodyPost_ret (results_tmp rfl _ _ _) rfl ⟨by rw [hr2]; rfl, HV.out.2.2⟩
end Go.Proofs.YtfmgoehnbaiamaaGreatDoor
