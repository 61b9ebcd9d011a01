/-
  Walk: almonerlaw15.half: what a pair alone comes to, at depth 1.
-/
import Derived.Test.YtfmgoehnbaiamaaU16
open Go Go.RowKit Alm
namespace Go.Proofs.Ytfmgoehnbaiamaa
set_option maxRecDepth 100000 in
set_option maxHeartbeats 2000000 in
theorem half_any (k : Sum) (bs : List UInt8) (v : Value) (w : World) (hv : BytesAt w v bs) (hl : bs.length ≤ 256) : Calls Try.prog 33 #[sv k, v] w fun e w' => e = .returned (sv (own (k, bs) 255)) ∧ Below w.heap.size w w' := by
  obtain ⟨z2, hz2⟩ : ∃ z, z = w.heap.size := ⟨_, rfl⟩
  obtain ⟨z4, hz4⟩ : ∃ z, z = w.heap.size + 1 := ⟨_, rfl⟩
  have hs1 : (w.alloc (.cells (cellsOf k).toArray 29)).heap.size = w.heap.size + 1 := Array.size_push _
  have hb0 := al (al (Below.refl _ w) (.cells (cellsOf k).toArray 29)) (.cells (cells8 (List.replicate 32 0)).toArray 29)
  have hr0 : ((w.alloc (.cells (cellsOf k).toArray 29)).alloc (.cells (cells8 (List.replicate 32 0)).toArray 29)).rangeAt z2 0 (cellsOf k) := by rw [hz2]; exact World.rangeAt_alloc (range_new w (cellsOf k).toArray 29 _ rfl) _
  have ht0 : ((w.alloc (.cells (cellsOf k).toArray 29)).alloc (.cells (cells8 (List.replicate 32 0)).toArray 29)).there z4 0 32 := by
    rw [hz4, ← hs1]
    exact there_new _ (cells8 (List.replicate 32 0)).toArray _
  have hv0 := bytes_below hv hb0 (Nat.le_refl _)
  have H3 := Lib.hid (And.intro hb0 (And.intro hr0 (And.intro hv0 (And.intro ht0 (show w.heap.size ≤ z4 by omega)))))
  obtain ⟨a, cap, rfl, h1, h2, _⟩ := hv
  obtain ⟨N, hN⟩ : ∃ N, N = bs.length := ⟨_, rfl⟩
  rw [← hN] at H3 h1 ⊢
  have HN := Lib.hid (And.intro hN hl)
  have HZ2 := Lib.hid hz2
  clear hN hb0 hr0 hv0 h2 hl ht0
  have hc : bs.length ≤ 256 := HN.out.2
  go_enter Try.func33, Try.ntmps33
  obtain ⟨S0, hS0⟩ : ∃ s, s = vl k bs := ⟨_, rfl⟩
  have HV := Lib.hid (vl_any k bs _ _ H3.out.2.2.1 (by omega))
  rw [← hS0] at HV
  have HS0 := Lib.hid (show S0 = own (k, bs) 0 from hS0)
  clear hS0 hc hs1
  have HZ4 := Lib.hid (And.intro hz2 hz4)
  clear hz2 hz4
  go_wp2_with (refine wpList_load_sum rfl _ rfl w.heap.size 0 rfl k (by rw [← HZ4.out.1]; exact H3.out.2.1) ?_)
  have e4 : w.heap.size + 1 = z4 := HZ4.out.2.symm
  rw [← HZ4.out.1] at e4 ⊢
  rw [e4]
  clear e4
  obtain ⟨w3, hw3⟩ : ∃ w3, w3 = (w.alloc (.cells (cellsOf k).toArray 29)).alloc (.cells (cells8 (List.replicate 32 0)).toArray 29) := ⟨_, rfl⟩
  rw [← hw3] at H3 HV
  refine (show Calls Try.prog 30 #[sv k, .slice a N cap] ((w.alloc (.cells (cellsOf k).toArray 29)).alloc (.cells (cells8 (List.replicate 32 0)).toArray 29)) _ from hw3 ▸ HV.out).mono ?_
  rintro e w4 ⟨rfl, hb4⟩
  rw [← hw3] at hb4
  clear hw3
  have H4 := Lib.hid hb4
  clear hb4 HV
  have HG := Lib.hid trivial
  go_wp2_with (have _ := HG; refine wpList_var_sum (by rfl) rfl _ _ rfl S0 rfl rfl ?_; intro w5 hb hr ht; obtain ⟨z6, hz6⟩ : ∃ x, x = w4.heap.size := ⟨_, rfl⟩; rw [← hz6] at hr ht ⊢; have H5 := Lib.hid (And.intro (H4.out.trans (hb.mono H4.out.size)) (And.intro hr (And.intro ht (show w3.heap.size ≤ z6 by rw [hz6]; exact H4.out.size)))); clear HG hb hr ht hz6 H4)

  have HE := Lib.hid (empty_any 0 w5 (by omega))
  rw [em_zero] at HE
  go_wp2_with fail
  refine HE.out.mono ?_
  rintro e w6 ⟨rfl, hb⟩
  have hz67 : z6 < w6.heap.size := Nat.lt_of_lt_of_le (there_lt H5.out.2.2.1 (by decide)) hb.size
  have H6 := Lib.hid (And.intro (H5.out.1.trans (hb.mono H5.out.1.size)) (And.intro ((Keeps.of_below (X := fun _ => False) hb).range H5.out.2.1 (fun h => h)) (And.intro ((Keeps.of_below (X := fun _ => False) hb).there H5.out.2.2.1 (by decide) (fun h => h)) (And.intro H5.out.2.2.2 hz67))))
  clear hb hz67 H5 HE
  have HG := Lib.hid trivial
  go_wp2_with (have _ := HG; refine wpList_var_sum (by rfl) rfl _ _ rfl z0 rfl rfl ?_; intro w7 hb hr ht; obtain ⟨z7, hz7⟩ : ∃ x, x = w6.heap.size := ⟨_, rfl⟩; rw [← hz7] at hr ht ⊢; have H7 := Lib.hid (show OV w3 w7 z6 z7 S0 z0 from ⟨H6.out.1.trans (hb.mono H6.out.1.size), (Keeps.of_below (X := fun _ => False) hb).range H6.out.2.1 (fun h => h), (Keeps.of_below (X := fun _ => False) hb).there H6.out.2.2.1 (by decide) (fun h => h), hr, ht, H6.out.2.2.2.1, by rw [hz7]; exact H6.out.1.size, by rw [hz7]; exact Nat.ne_of_lt H6.out.2.2.2.2⟩); clear HG hb hr ht hz7 H6)

  go_wp2_with fail
  go_loopw [7] (fun d W => ∃ h : Nat, h ≤ 255 ∧ d = .int .i64 (255 - (h : Int)) ∧ OV w3 W z6 z7 (own (k, bs) h) (em h)) (fun d _ => (intOf d + 1).toNat)
  case atStart => exact ⟨0, by omega, rfl, by rw [← HS0.out, em_zero]; exact H7.out⟩
  case round =>
    clear H7
    obtain ⟨h, hh, rfl, hO⟩ := hrel
    have HO := Lib.hid hO
    clear hO
    by_cases hlt : h < 255
    · obtain ⟨D, hD⟩ : ∃ D, D = 255 - h := ⟨_, rfl⟩
      have hd : (255 : Int) - (h : Int) = (D : Int) := by omega
      rw [hd]
      have c1 : decide ((1 : Int) ≤ (D : Int)) = true := by simp; omega
      have c2 : decide (1 ≤ D) = true := by simp; omega
      obtain ⟨q, hq⟩ : ∃ q, q = (Keys.kn k >>> (255 - D)) % 2 := ⟨_, rfl⟩
      have hDh : 255 - D = h := by omega
      have HD := Lib.hid (And.intro hD (And.intro hd hlt))
      have HQ := Lib.hid (show q = (Keys.kn k >>> h) % 2 by rw [hq, hDh])
      have HB := Lib.hid (bit_any k D wr (by omega))
      rw [← hq] at HB
      have hr2 := (Keeps.of_below (X := fun _ => False) HO.out.bw).range H3.out.2.1 (fun h => h)
      have HK := Lib.hid hr2
      obtain ⟨A, hA⟩ : ∃ A, A = own (k, bs) h := ⟨_, rfl⟩
      obtain ⟨E, hE⟩ : ∃ E, E = em h := ⟨_, rfl⟩
      rw [← hA, ← hE] at HO
      have HAE := Lib.hid (And.intro hA hE)
      clear hD hd hlt hq hDh hr2 hh hA hE
      go_wp2_with (refine wpList_load_sum rfl _ rfl z2 0 rfl k HK.out ?_)
      refine HB.out.mono ?_
      rintro e w8 ⟨rfl, hb⟩
      have HO8 := Lib.hid (HO.out.below hb)
      clear hb HO HB HK
      by_cases hq0 : q = 0
      · subst hq0
        have hnx : own (k, bs) (h + 1) = sd A E := by
          rw [own_succ, Keys.bit_odd, ← HQ.out, HAE.out.1, HAE.out.2]; rfl
        have HX := Lib.hid hnx
        clear hnx
        have HG := Lib.hid trivial
        go_wp2_with (first
          | (have _ := HG; refine wpList_load_sum rfl _ rfl z6 0 rfl A HO8.out.r6 ?_)
          | (have _ := HG; refine wpList_load_sum rfl _ rfl z7 0 rfl E HO8.out.r7 ?_))
        refine (sd_any A E w8).mono ?_
        rintro e w9 ⟨rfl, hb⟩
        have HO9 := Lib.hid (HO8.out.below hb)
        clear hb HO8
        go_wp2_with (first
          | (have _ := HG; refine wpList_store_sum rfl _ _ rfl z6 0 (sd A E) rfl rfl HO9.out.t6 ?_; have HO10 := Lib.hid (HO9.out.set6 (sd A E)); clear HG HO9; generalize w9.setCells z6 0 (cellsOf (sd A E)) = w10 at *)
          | (refine wpList_load_sum rfl _ rfl z7 0 rfl E HO10.out.r7 ?_))
        refine (sd_any E E w10).mono ?_
        rintro e w11 ⟨rfl, hb⟩
        have HO11 := Lib.hid (HO10.out.below hb)
        clear hb HO10
        have HG := Lib.hid trivial
        go_wp2_with (have _ := HG; refine wpList_store_sum rfl _ _ rfl z7 0 (sd E E) rfl rfl HO11.out.t7 ?_; have HO12 := Lib.hid (HO11.out.set7 (sd E E)); clear HG HO11; generalize w11.setCells z7 0 (cellsOf (sd E E)) = w12 at *)
        have hw : wrap64 ((D : Int) - 1) = (D : Int) - 1 := by have := HD.out.1; unfold wrap64; omega
        rw [hw]
        refine ⟨⟨h + 1, by have := HD.out.2.2; omega, congrArg _ (by have := HD.out.2.1; omega), by rw [HX.out, em_succ, ← HAE.out.2]; exact HO12.out⟩, ?_⟩
        simp only [intOf]
        omega
      · have hq1 : q = 1 := by have := HQ.out; omega
        subst hq1
        clear hq0
        have hnx : own (k, bs) (h + 1) = sd E A := by
          rw [own_succ, Keys.bit_odd, ← HQ.out, HAE.out.1, HAE.out.2]; rfl
        have HX := Lib.hid hnx
        clear hnx
        have HG := Lib.hid trivial
        go_wp2_with (first
          | (have _ := HG; refine wpList_load_sum rfl _ rfl z6 0 rfl A HO8.out.r6 ?_)
          | (have _ := HG; refine wpList_load_sum rfl _ rfl z7 0 rfl E HO8.out.r7 ?_))
        refine (sd_any E A w8).mono ?_
        rintro e w9 ⟨rfl, hb⟩
        have HO9 := Lib.hid (HO8.out.below hb)
        clear hb HO8
        go_wp2_with (first
          | (have _ := HG; refine wpList_store_sum rfl _ _ rfl z6 0 (sd E A) rfl rfl HO9.out.t6 ?_; have HO10 := Lib.hid (HO9.out.set6 (sd E A)); clear HG HO9; generalize w9.setCells z6 0 (cellsOf (sd E A)) = w10 at *)
          | (refine wpList_load_sum rfl _ rfl z7 0 rfl E HO10.out.r7 ?_))
        refine (sd_any E E w10).mono ?_
        rintro e w11 ⟨rfl, hb⟩
        have HO11 := Lib.hid (HO10.out.below hb)
        clear hb HO10
        have HG := Lib.hid trivial
        go_wp2_with (have _ := HG; refine wpList_store_sum rfl _ _ rfl z7 0 (sd E E) rfl rfl HO11.out.t7 ?_; have HO12 := Lib.hid (HO11.out.set7 (sd E E)); clear HG HO11; generalize w11.setCells z7 0 (cellsOf (sd E E)) = w12 at *)
        have hw : wrap64 ((D : Int) - 1) = (D : Int) - 1 := by have := HD.out.1; unfold wrap64; omega
        rw [hw]
        refine ⟨⟨h + 1, by have := HD.out.2.2; omega, congrArg _ (by have := HD.out.2.1; omega), by rw [HX.out, em_succ, ← HAE.out.2]; exact HO12.out⟩, ?_⟩
        simp only [intOf]
        omega
    · have e : h = 255 := by omega
      subst e
      clear hlt hh
      have c1 : decide ((1 : Int) ≤ (255 : Int) - ((255 : Nat) : Int)) = false := by decide
      obtain ⟨A, hA⟩ : ∃ A, A = own (k, bs) 255 := ⟨_, rfl⟩
      rw [← hA] at HO
      have HA := Lib.hid hA
      clear hA
      have ht4 : wr.there z4 0 32 := (Keeps.of_below (X := fun _ => False) HO.out.bw).there H3.out.2.2.2.1 (by decide) (fun h => h)
      have HT := Lib.hid ht4
      clear ht4
      go_wp2_with (first
        | (refine wpList_load_sum rfl _ rfl z6 0 rfl A HO.out.r6 ?_)
        | (refine wpList_store_sum rfl _ _ rfl z4 0 A rfl rfl HT.out ?_))
      exact bodyPost_ret (results_sum Try.results33 _ _ _ _ rfl (World.there_setCells HT.out _ _ _)) rfl ⟨by rw [← HA.out], (H3.out.1.trans (HO.out.bw.mono H3.out.1.size)).trans ((keeps_setCells_ z4 (cellsOf A) 0 wr).below (H3.out.1.trans (HO.out.bw.mono H3.out.1.size)).size (fun k hk => by have := H3.out.2.2.2.2; omega))⟩
end Go.Proofs.Ytfmgoehnbaiamaa
