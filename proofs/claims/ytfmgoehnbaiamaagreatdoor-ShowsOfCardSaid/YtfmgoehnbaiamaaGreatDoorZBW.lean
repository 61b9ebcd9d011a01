/-
  Joined: SO3, VTB1, VTB2, Args2, Args3.
-/
import Derived.Test.YtfmgoehnbaiamaaGreatDoorSO2
import Derived.Test.YtfmgoehnbaiamaaGreatDoorZBV
import Derived.Test.YtfmgoehnbaiamaaGreatDoorZBS
import Derived.Test.YtfmgoehnbaiamaaGreatDoorZBU
import Derived.Test.YtfmgoehnbaiamaaGreatDoorZAC
import Derived.Deep.Strs
import Derived.Test.YtfmgoehnbaiamaaGreatDoorZAH
-- Walk: almonerlaw16.of: a map, and what the document has of it.
open Go Go.RowKit Alm
namespace Go.Proofs.YtfmgoehnbaiamaaGreatDoor
/-- What law 16's of has in hand. -/
structure OFX (w W : World) (p b j : Nat) (l : List Ent) (L : List Keys.Pr) (xv : Value) (X : List Keys.Pr) : Prop where
  bw : Below w.heap.size w W
  map : MapIn W p b j l
  prs : prs l = L
  ls : PairsAt W xv X
theorem OFX.below {w W W' : World} {p b j : Nat} {l : List Ent} {L : List Keys.Pr} {xv : Value} {X : List Keys.Pr} (h : OFX w W p b j l L xv X) (hb : Below W.heap.size W W') : OFX w W' p b j l L xv X :=
  ⟨h.bw.trans (hb.mono h.bw.size), h.map.below hb, h.prs, h.ls.below hb⟩
set_option maxRecDepth 100000 in
set_option maxHeartbeats 8000000 in
theorem of16_all (P : List Keys.Pr) (v : Value) (w : World) (hv : PairsAt w v P) (hn : P.length < 100000) : Calls Tryz.prog 24 #[v] w fun e w' => ∃ p b l x, e = .returned (.tuple #[.pointer (some ⟨p, 0, none⟩), x]) ∧ PairsAt w' x (puts [] P) ∧ MapIn w' p b P.length l ∧ prs l = puts [] P ∧ w.heap.size ≤ p ∧ w.heap.size ≤ b ∧ p ≠ b ∧ Below w.heap.size w w' := by
  have HV := Lib.hid hv
  obtain ⟨a, cap, rfl, h1, h2⟩ := pairs_form hv
  obtain ⟨N, hN⟩ : ∃ N, N = P.length := ⟨_, rfl⟩
  rw [← hN] at HV h1 hn ⊢
  have HN := Lib.hid (And.intro hN hn)
  clear hv hN h2
  have k1 : (N : Int) ≤ (cap : Int) := by omega
  go_enter Tryz.func24, Tryz.ntmps24
  go_wp2_with fail
  refine (mnew_any w).mono ?_
  rintro e w1 ⟨rfl, hm1, hb1⟩
  obtain ⟨p, hp⟩ : ∃ p, p = w.heap.size + 1 := ⟨_, rfl⟩
  obtain ⟨b, hb⟩ : ∃ b, b = w.heap.size := ⟨_, rfl⟩
  rw [← hp, ← hb] at hm1
  rw [← hp]
  have HP := Lib.hid (And.intro hp hb)
  have H1 := Lib.hid (And.intro hm1 hb1)
  clear hm1 hb1 hp hb
  go_wp2_with fail
  go_loopw [5, 6] (fun xv iv W => ∃ (j : Nat) (l : List Ent) (xw : Value), j ≤ N ∧ iv = .int .i64 (j : Int) ∧ xw = xv ∧ OFX w W p b j l (puts [] (P.take j)) xw (puts [] (P.take j))) (fun _ iv _ => N - (intOf iv).toNat)
  case atStart => exact ⟨0, [], _, by omega, rfl, rfl, ⟨H1.out.2, H1.out.1, rfl, ⟨none, 0, [], rfl, Nat.le_refl _, by unfold maxLen; omega, rfl, (fun c hc => by cases hc), .inl rfl⟩⟩⟩
  case round =>
    clear H1
    obtain ⟨j, l, xv, hj, rfl, rfl, hO⟩ := hrel
    have HB := Lib.hid hO
    clear hO
    by_cases hlt : j < N
    · have c1 : decide (j < N) = true := by simpa using hlt
      have c1' : decide ((j : Int) < (N : Int)) = true := by simp; omega
      have hj0 : (0 : Int) ≤ (j : Int) := by omega
      have hlt' : (j : Int) < (N : Int) := by omega
      obtain ⟨ba, oa, ca', y, xs, he1, hr1, hy1, hg1⟩ := pairs_one (HV.out.below HB.out.bw.drew) (i := j) (by rw [← HN.out.1]; exact hlt)
      simp only [Value.slice.injEq] at he1
      obtain ⟨rfl, -, rfl⟩ := he1
      have HX := Lib.hid (And.intro hr1 hy1)
      have HG := Lib.hid hg1
      have HJ := Lib.hid (And.intro hj hlt)
      clear hr1 hy1 hg1
      go_wp2_with fail
      have hcell : wr.drew.cell? ⟨ba, oa + j * 33 + 32, none⟩ = some (peV y) := by
        have := HX.out.1 32 (peV y) (by rw [encP, List.getElem?_append_right (by rw [length_cellsOf]; omega), length_cellsOf]; rfl)
        exact this
      have HC := Lib.hid (And.intro (encP_key HX.out.1) hcell)
      clear hcell
      refine wp_region_sched (fun W => W.rangeAt ba (oa + j * 33) (cellsOf y.1) ∧ W.cell? ⟨ba, oa + j * 33 + 32, none⟩ = some (peV y)) [.t 0, .t 1, .t 2, .t 3, .t 4, .t 6, .t 7, .t 8, .t 9, .s 5, .e 10 true, .e 11 false, .t 12] (by kernel_rfl) (by kernel_rfl) (by intro c a d v w h; cases d <;> exact h) ?_
      have HBD := Lib.hid (HB.out.below (Below.refl wr.heap.size wr).drew)
      clear HB
      generalize wr.drew = V at *
      iterate 9
        refine wpS_t rfl (v := ?_) (by rfl) (fun W => ?_) ?_
        rotate_left
        · go_simp
          try rfl
        try simp only [Act.put, List.setIfInBounds_toArray, List.set_cons_zero, List.set_cons_succ]
      refine wpS_load_sum (by exact HC.out) rfl (by rfl) _ (by rfl) ba (oa + j * 33) (by rfl) y.1 (fun V hV => hV.1) ?_
      try simp only [Act.put, List.setIfInBounds_toArray, List.set_cons_zero, List.set_cons_succ]
      refine wpS_k rfl (by rfl) (fun K hK => ?_)
      have g := HC.out.2
      go_simp
      refine hK _ _ ⟨by exact HC.out, ?_⟩; clear hK K
      try simp only [Act.put, List.setIfInBounds_toArray, List.set_cons_zero, List.set_cons_succ]
      clear g
      refine wpS_e rfl (by rfl) (fun K hK => ?_)
      go_simp
      refine (mput_any y.1 xs (peV y) V p b j l HBD.out.map (by have := HN.out.2; omega) HX.out.2).mono ?_
      rintro e V2 ⟨rfl, l2, hm2, hp2, hk2⟩
      have hbelow : Below w.heap.size w V2 := HBD.out.bw.trans (hk2.below (B := w.heap.size) HBD.out.bw.size (fun k hk => by have := HP.out.2; omega))
      have H2 := Lib.hid (show OFX w V2 p b (j + 1) l2 (puts [] (P.take (j + 1))) xv (puts [] (P.take j)) from ⟨hbelow, hm2, by rw [puts_take [] P HG.out, hp2, HBD.out.prs], HBD.out.ls.maps HBD.out.map.on hk2⟩)
      clear hm2 hp2 hk2 hbelow HBD HC HX
      refine hK _ _ ?_; clear hK K
      try simp only [Act.put, List.setIfInBounds_toArray, List.set_cons_zero, List.set_cons_succ]
      by_cases hx : xs.length > 256
      · rw [if_pos hx]
        have hsame : puts [] (P.take (j + 1)) = puts [] (P.take j) := by
          rw [puts_take [] P HG.out]
          unfold Keys.putB
          rw [if_pos hx]
        have HSM := Lib.hid hsame
        clear hx hsame
        iterate 1
          refine wpS_t rfl (v := ?_) (by rfl) (fun W => ?_) ?_
          rotate_left
          · go_simp
            try rfl
          try simp only [Act.put, List.setIfInBounds_toArray, List.set_cons_zero, List.set_cons_succ]
        refine wpS_done ?_
        go_wp2_with fail
        exact ⟨⟨j + 1, l2, _, by omega, by simp, rfl, by have h := H2.out; rw [HSM.out] at h ⊢; exact h⟩, by simp [intOf]; omega⟩
      · rw [if_neg hx]
        have HXX := Lib.hid hx
        clear hx
        iterate 1
          refine wpS_t rfl (v := ?_) (by rfl) (fun W => ?_) ?_
          rotate_left
          · go_simp
            try rfl
          try simp only [Act.put, List.setIfInBounds_toArray, List.set_cons_zero, List.set_cons_succ]
        refine wpS_done ?_
        go_wp2_with fail
        obtain ⟨b2, o2, c2, y2, xs2, he1, hr1, hy1, hg1⟩ := pairs_one (HV.out.below H2.out.bw.drew) (i := j) (by rw [← HN.out.1]; exact hlt)
        simp only [Value.slice.injEq, Option.some.injEq, Addr.mk.injEq, and_true] at he1
        obtain ⟨⟨rfl, rfl⟩, -, rfl⟩ := he1
        have HX := Lib.hid (And.intro hr1 hy1)
        have hszx : xs2.length < 4000000000 := by have h := HG.out; rw [hg1] at h; simp only [Option.some.injEq, Prod.mk.injEq] at h; rw [h.2]; have := HXX.out; omega
        have HSX := Lib.hid hszx
        have HG2 := Lib.hid hg1
        have HXX2 := Lib.hid (show xs2.length ≤ 256 by have h := HG.out; rw [hg1] at h; simp only [Option.some.injEq, Prod.mk.injEq] at h; rw [h.2]; have := HXX.out; omega)
        clear hr1 hy1 hg1 hszx
        have hcell : V2.drew.cell? ⟨ba, oa + j * 33 + 32, none⟩ = some (peV y2) := by
          have := HX.out.1 32 (peV y2) (by rw [encP, List.getElem?_append_right (by rw [length_cellsOf]; omega), length_cellsOf]; rfl)
          exact this
        have HC := Lib.hid (And.intro (encP_key HX.out.1) hcell)
        clear hcell
        refine wp_region_sched (fun W => W.rangeAt ba (oa + j * 33) (cellsOf y2.1) ∧ W.cell? ⟨ba, oa + j * 33 + 32, none⟩ = some (peV y2)) [.t 0, .t 1, .t 2, .t 3, .t 4, .t 6, .t 7, .t 8, .t 9, .s 5, .e 10 true, .e 11 false, .t 12] (by kernel_rfl) (by kernel_rfl) (by intro c a d v w h; cases d <;> exact h) ?_
        have HBD := Lib.hid (H2.out.below (Below.refl V2.heap.size V2).drew)
        clear H2
        generalize V2.drew = V3 at *
        iterate 9
          refine wpS_t rfl (v := ?_) (by rfl) (fun W => ?_) ?_
          rotate_left
          · go_simp
            try rfl
          try simp only [Act.put, List.setIfInBounds_toArray, List.set_cons_zero, List.set_cons_succ]
        refine wpS_load_sum (by exact HC.out) rfl (by rfl) _ (by rfl) ba (oa + j * 33) (by rfl) y2.1 (fun V hV => hV.1) ?_
        try simp only [Act.put, List.setIfInBounds_toArray, List.set_cons_zero, List.set_cons_succ]
        refine wpS_k rfl (by rfl) (fun K hK => ?_)
        have g := HC.out.2
        go_simp
        refine hK _ _ ⟨by exact HC.out, ?_⟩; clear hK K
        try simp only [Act.put, List.setIfInBounds_toArray, List.set_cons_zero, List.set_cons_succ]
        clear g
        refine wpS_e rfl (by rfl) (fun K hK => ?_)
        go_simp
        refine (rput_all y2.1 xs2 (peV y2) xv (puts [] (P.take j)) V3 HBD.out.ls HX.out.2 HSX.out (by have h1 := length_puts (P.take j) []; rw [List.length_take] at h1; have := HN.out.2; have := HJ.out; simp at h1; omega)).mono ?_
        rintro e V4 ⟨v', rfl, hr4, hb4⟩
        have hPj : P[j]? = some (y2.1, xs2) := by rw [HG2.out]
        rw [rp_eq (puts_ok (P.take j) rise_nil full_nil).1 HXX2.out, ← puts_take [] P hPj] at hr4
        have H4 := Lib.hid (show OFX w V4 p b (j + 1) l2 (puts [] (P.take (j + 1))) v' (puts [] (P.take (j + 1))) from ⟨HBD.out.bw.trans (hb4.mono HBD.out.bw.size), HBD.out.map.below hb4, HBD.out.prs, hr4⟩)
        clear hPj hr4 hb4 HBD HC HX
        refine hK _ _ ?_; clear hK K
        try simp only [Act.put, List.setIfInBounds_toArray, List.set_cons_zero, List.set_cons_succ]
        iterate 1
          refine wpS_t rfl (v := ?_) (by rfl) (fun W => ?_) ?_
          rotate_left
          · go_simp
            try rfl
          try simp only [Act.put, List.setIfInBounds_toArray, List.set_cons_zero, List.set_cons_succ]
        refine wpS_done ?_
        go_wp2_with fail
        exact ⟨⟨j + 1, l2, _, by omega, by simp, rfl, H4.out⟩, by simp [intOf]; omega⟩
    · have hjn : j = N := by omega
      subst hjn
      go_wp2_with fail
      refine bodyPost_ret (results_tmp2 rfl _ _ _) rfl ⟨p, b, l, xv, ?_, ?_, HB.out.map, ?_, by have := HP.out.1; omega, by have := HP.out.2; omega, by have := HP.out; omega, HB.out.bw⟩
      · rfl
      · have h := HB.out.ls
        rwa [List.take_of_length_le (by rw [← HN.out.1]; exact Nat.le_refl _)] at h
      rw [HB.out.prs, List.take_of_length_le (by rw [← HN.out.1]; exact Nat.le_refl _)]
end Go.Proofs.YtfmgoehnbaiamaaGreatDoor
-- Walk: a copy of bytes, with a mark behind it (TwinBytes).
namespace Go.Proofs.YtfmgoehnbaiamaaGreatDoor
/-- Bytes as elements of a list. -/
def ones (l : List UInt8) : List (List Value) := l.map fun b => [u8v b]
theorem ones_len (l : List UInt8) : (ones l).length = l.length := List.length_map _
theorem ones_append (a b : List UInt8) : ones (a ++ b) = ones a ++ ones b := List.map_append
theorem ones_flat (l : List UInt8) : (ones l).flatten = cells8 l := by
  induction l with
  | nil => rfl
  | cons b l ih =>
    have h : ones (b :: l) = [u8v b] :: ones l := rfl
    have h2 : cells8 (b :: l) = u8v b :: cells8 l := rfl
    rw [h, List.flatten_cons, ih, h2]; rfl
theorem bcl {w V : World} (hV : Below w.heap.size w V) {a : Addr} {v : Value} (h : w.cell? a = some v) : V.cell? a = some v := (Keeps.of_below (X := fun _ => False) hV).cell h (fun h => h)
/-- A copy of bytes: they lie with a mark behind them. -/
def TwinB (W : World) (base : Nat) (v : Value) (l : List UInt8) : Prop := ∃ g cap, v = .slice (some ⟨g, 0, none⟩) l.length cap ∧ Lie W base 1 (.slice (some ⟨g, 0, none⟩) (l.length + 1) cap) (ones (l ++ [77]))
theorem TwinB.lie {W : World} {base : Nat} {v : Value} {l : List UInt8} (h : TwinB W base v l) : Lie W base 1 v (ones l) := by
  obtain ⟨g, cap, rfl, h⟩ := h
  rw [ones_append] at h
  exact h.front (by rw [ones_len])
theorem lie_bytes {W : World} {base : Nat} {v : Value} {l : List UInt8} (h : Lie W base 1 v (ones l)) : BytesAt W v l := by
  rcases h with ⟨rfl, h0⟩ | ⟨g, cap, rfl, hb, hg, hnc, hcm, hr, ht, hl⟩
  · have : l = [] := List.length_eq_zero_iff.1 (by rw [← ones_len, h0]; rfl)
    subst this
    exact ⟨none, 0, rfl, Nat.le_refl _, by unfold maxLen; omega, .inl rfl⟩
  · rw [ones_len] at hnc ⊢
    rw [ones_flat] at hr
    exact ⟨_, cap, rfl, hnc, hcm, .inr ⟨g, 0, rfl, hr⟩⟩
theorem TwinB.bytes {W : World} {base : Nat} {v : Value} {l : List UInt8} (h : TwinB W base v l) : BytesAt W v l := lie_bytes h.lie
theorem TwinB.keep {X : Nat → Prop} {W W' : World} {base : Nat} {v : Value} {l : List UInt8} (h : TwinB W base v l) (hk : Keeps X W W') (hx : ∀ k, v.ownBlock = some k → ¬ X k) : TwinB W' base v l := by
  obtain ⟨g, cap, rfl, h⟩ := h
  exact ⟨g, cap, rfl, h.keep hk (fun k hk2 => hx k hk2)⟩
theorem TwinB.below {W W' : World} {base : Nat} {v : Value} {l : List UInt8} (h : TwinB W base v l) (hb : Below W.heap.size W W') : TwinB W' base v l := h.keep (Keeps.of_below (X := fun _ => False) hb) (fun _ _ h => h)
theorem bytes_form8 {w : World} {v : Value} {l : List UInt8} (h : BytesAt w v l) (h0 : l ≠ []) : ∃ b o cap, v = .slice (some ⟨b, o, none⟩) l.length cap ∧ l.length ≤ cap ∧ cap ≤ maxLen ∧ w.rangeAt b o (cells8 l) := by
  obtain ⟨a, cap, rfl, h1, h2, h3⟩ := h
  obtain ⟨b, o, rfl, hr⟩ := h3.resolve_left h0
  exact ⟨b, o, cap, rfl, h1, h2, hr⟩
theorem range_at8 {w : World} {b o : Nat} {l : List UInt8} (h : w.rangeAt b o (cells8 l)) {i : Nat} (hi : i < l.length) : w.cell? ⟨b, o + i, none⟩ = some (.int .u8 ((l[i].toNat : Nat) : Int)) := by
  have := h i (u8v l[i]) (by simp [cells8, hi])
  exact this
set_option maxRecDepth 100000 in
set_option maxHeartbeats 1000000 in
theorem twin_bytes (l : List UInt8) (v : Value) (w : World) (hv : BytesAt w v l) (hl : l.length < 900000) : Calls Tryz.prog 26 #[v] w fun e w' => ∃ v', e = .returned v' ∧ TwinB w' w.heap.size v' l ∧ Below w.heap.size w w' := by
  have hv0 := hv
  obtain ⟨va, vc, rfl, hc1, hc2, h3⟩ := hv
  obtain ⟨n, hn⟩ : ∃ n, n = l.length := ⟨_, rfl⟩
  rw [← hn] at hc1 hv0 hl ⊢
  obtain ⟨n1, hn1⟩ : ∃ m, m = n + 1 := ⟨_, rfl⟩
  have hw1 := twin_nums hl
  rw [← hn1] at hw1
  obtain ⟨i0, z0, hi0, hz0, hs0, hb0, hzs0⟩ := info_u8B
  have HI := Lib.hid (And.intro hi0 (And.intro hz0 (And.intro hs0 hb0)))
  have HV := Lib.hid (And.intro hv0 (And.intro hn (And.intro hc1 (And.intro hc2 (And.intro hl hn1)))))
  clear hv0 hn hc1 hc2 hl hn1 hi0 hz0 hs0 hb0 hzs0 h3
  go_enter Tryz.func26, Tryz.ntmps26
  go_wp2_with (at_make; refine Hid.out ?_)
  refine Lib.hid ?_
  try rw [hw1]
  refine wpList_make_own _ rfl _ _ _ rfl w.heap.size 5 i0 z0 1 Tryz.underlying39 HI.out.1 HI.out.2.1 HI.out.2.2.1 .i64 .i64 (n1 : Int) n1 rfl (by rfl) rfl (by rw [HI.out.2.2.2]; have := HV.out; omega) (by unfold maxLen; have := HV.out; omega) (Nat.le_refl _) ?_
  intro w2 ho2 hg2
  have hb2 : Below w.heap.size w w2 := Keeps.below (B := w.heap.size) (Keeps.of_grown (X := fun _ => False) hg2 (fun k hk => by cases hk)) (Nat.le_refl _) (fun _ h => h.elim)
  have hlie : Lie w2 w.heap.size 1 (.slice (some ⟨w.heap.size, 0, none⟩) 0 n1) [] := lie_own (xs := []) ho2 rfl (fun x hx => by cases hx)
  have H2 := Lib.hid (And.intro (Grown.start (B := w2.heap.size) hlie (Nat.le_refl _)) (And.intro hb2 hg2.size))
  clear ho2 hg2 hb2 hlie
  go_wp2_with fail
  go_loopw [3, 4] (fun tv iv W => ∃ i : Nat, i ≤ n ∧ iv = .int .i64 (i : Int) ∧ (∃ a c, tv = .slice a i c) ∧ Grown W w.heap.size 1 w2.heap.size (.slice (some ⟨w.heap.size, 0, none⟩) 0 n1) [] tv (ones (l.take i)) ∧ Below w.heap.size w W ∧ w2.heap.size ≤ W.heap.size) (fun _ iv _ => n - (intOf iv).toNat)
  case atStart => exact ⟨0, Nat.zero_le _, rfl, ⟨_, _, rfl⟩, H2.out.1, H2.out.2.1, Nat.le_refl _⟩
  case round =>
    obtain ⟨i, hi, rfl, ⟨ta, tc, rfl⟩, hG, hB, hS⟩ := hrel
    have HG := Lib.hid (And.intro hG (And.intro hB hS))
    clear hG hB hS
    by_cases hlt : i < n
    · obtain ⟨d1, d2, d3, d4⟩ := dec_lt hlt
      have hil : i < l.length := by rw [← HV.out.2.1]; exact hlt
      have hne : l ≠ [] := by intro h; rw [h] at hil; simp at hil
      obtain ⟨b, o, cap', hvf, _, _, hr⟩ := bytes_form8 HV.out.1 hne
      simp only [Value.slice.injEq] at hvf
      obtain ⟨rfl, -, rfl⟩ := hvf
      have hx := bcl HG.out.2.1 (range_at8 hr hil)
      have htk : True := trivial
      have hst : ones (l.take (i + 1)) = ones (l.take i) ++ [[u8v l[i]]] := by rw [List.take_succ_eq_append_getElem hil, ones_append]; rfl
      clear htk
      have htk := hst
      clear hst
      generalize l[i] = s at *
      have HX := Lib.hid (And.intro hx htk)
      clear hx htk hr hne hil
      have hxc := HX.out.1
      go_wp2_with (refine wpList_lit_u8 rfl _ rfl ((s.toNat : Nat) : Int) rfl ?_; refine Hid.out ?_)
      refine Lib.hid ?_
      try simp only [Act.put, List.setIfInBounds_toArray, List.set_cons_zero, List.set_cons_succ]
      have hba := Alm.al (Below.refl wr.heap.size wr) (.cells #[.int .u8 ((s.toNat : Nat) : Int)] 5)
      refine wpList_append_u8G (base := w.heap.size) (B := w2.heap.size) (v0 := .slice (some ⟨w.heap.size, 0, none⟩) 0 n1) (xs := []) (ys := ones (l.take i)) rfl _ _ rfl rfl (HG.out.1.below hba) H2.out.2.1.size (Nat.le_trans HG.out.2.2 hba.size) ⟨wr.heap.size, 0, none⟩ 1 ((s.toNat : Nat) : Int) rfl (fun j u hj => by rw [Addr.add_mid]; exact range_new wr #[.int .u8 ((s.toNat : Nat) : Int)] 5 _ rfl j u hj) (by rw [ones_len, List.length_take]; have := HV.out; simp; omega) ?_
      intro v4 V4 hg4 hk4 hf4
      obtain ⟨a4, c4, rfl⟩ := hf4
      have hb4 := hk4.below (B := w.heap.size) (Nat.le_trans HG.out.2.1.size hba.size) (fun k h => by
        rcases h with h | h
        · simp only [Value.ownBlock, Option.some.injEq] at h; omega
        · exact Nat.le_trans H2.out.2.1.size h)
      have hu8 : ([[Value.int .u8 ((s.toNat : Nat) : Int)]] : List (List Value)) = [[u8v s]] := rfl
      rw [hu8, ← HX.out.2] at hg4
      have hln : ([] : List (List Value)).length + (ones (l.take i)).length + 1 = i + 1 := by rw [ones_len, List.length_take, List.length_nil]; have := HV.out; omega
      rw [hln] at hg4 ⊢
      have H4 := Lib.hid (And.intro hg4 (And.intro ((HG.out.2.1.trans (hba.mono HG.out.2.1.size)).trans hb4) (Nat.le_trans HG.out.2.2 (Nat.le_trans hba.size hk4.size))))
      clear hg4 hb4 hk4 hba hln
      go_wp2_with fail
      have h4 := H4.out
      have hwi := wrapn (k := i) (by have := HV.out; omega)
      try rw [hwi]
      clear hwi
      clear H4 HG HX HV H2 HI d1 d2 d3 d4
      refine ⟨⟨i + 1, hlt, rfl, ⟨_, _, rfl⟩, h4⟩, ?_⟩
      clear h4
      simp only [intOf, Int.toNat_natCast]
      omega
    · obtain rfl : i = n := by omega
      have htk : l.take i = l := List.take_of_length_le (by rw [← HV.out.2.1]; exact Nat.le_refl _)
      rw [htk] at HG
      clear htk
      have hne : HG = HG := rfl
      clear hne
      go_wp2_with (refine wpList_lit_u8 rfl _ rfl (77 : Int) rfl ?_; refine Hid.out ?_)
      refine Lib.hid ?_
      try simp only [Act.put, List.setIfInBounds_toArray, List.set_cons_zero, List.set_cons_succ]
      have hba := Alm.al (Below.refl wr.heap.size wr) (.cells #[.int .u8 77] 5)
      refine wpList_append_u8G (base := w.heap.size) (B := w2.heap.size) (v0 := .slice (some ⟨w.heap.size, 0, none⟩) 0 n1) (xs := []) (ys := ones l) rfl _ _ rfl rfl (HG.out.1.below hba) H2.out.2.1.size (Nat.le_trans HG.out.2.2 hba.size) ⟨wr.heap.size, 0, none⟩ 1 77 rfl (fun j u hj => by rw [Addr.add_mid]; exact range_new wr #[.int .u8 77] 5 _ rfl j u hj) (by rw [ones_len]; have := HV.out; simp; omega) ?_
      intro v4 V4 hg4 hk4 hf4
      have hb4 := hk4.below (B := w.heap.size) (Nat.le_trans HG.out.2.1.size hba.size) (fun k h => by
        rcases h with h | h
        · simp only [Value.ownBlock, Option.some.injEq] at h; omega
        · exact Nat.le_trans H2.out.2.1.size h)
      have hu8 : ones l ++ [[Value.int .u8 77]] = ones (l ++ [77]) := by rw [ones_append]; rfl
      rw [hu8] at hg4
      have hlie := hg4.now
      rw [List.nil_append] at hlie
      have hcap : ∃ g cap, v4 = .slice (some ⟨g, 0, none⟩) (i + 1) cap ∧ i + 1 ≤ cap := by
        rcases hlie with ⟨_, h0⟩ | ⟨g, cap, hv4, _, _, hnc, _⟩
        · have h9 := congrArg List.length h0; rw [ones_len] at h9; simp at h9
        · have e : (ones (l ++ [77])).length = i + 1 := by rw [ones_len, List.length_append, List.length_singleton, ← HV.out.2.1]
          rw [e] at hv4 hnc
          exact ⟨g, cap, hv4, hnc⟩
      obtain ⟨g, cap, rfl, hcp⟩ := hcap
      have hi3 : (i : Int) ≤ (cap : Int) := by omega
      have hi4 : i ≤ cap := by omega
      have HF := Lib.hid (show TwinB V4 w.heap.size (.slice (some ⟨g, 0, none⟩) i cap) l from ⟨g, cap, by rw [← HV.out.2.1], by rw [← HV.out.2.1]; exact hlie⟩)
      have HB4 := Lib.hid ((HG.out.2.1.trans (hba.mono HG.out.2.1.size)).trans hb4)
      clear hg4 hb4 hk4 hba hlie hf4
      go_wp2_with fail
      refine bodyPost_ret (results_tmp rfl _ _ _) rfl ?_
      exact ⟨_, rfl, HF.out, HB4.out⟩
end Go.Proofs.YtfmgoehnbaiamaaGreatDoor
-- Walk: a copy of bytes is what it was made of (LeftBytes).
namespace Go.Proofs.YtfmgoehnbaiamaaGreatDoor
set_option maxRecDepth 100000 in
set_option maxHeartbeats 1000000 in
theorem left_bytes (l : List UInt8) (vt v : Value) (base : Nat) (w : World) (ht : TwinB w base vt l) (hv : BytesAt w v l) (hl : l.length < 900000) : Calls Tryz.prog 33 #[vt, v] w fun e w' => e = .returned (.bool true) ∧ Below w.heap.size w w' := by
  have hv0 := hv
  obtain ⟨va, vc, rfl, hc1, hc2, h3⟩ := hv
  have ht0 := ht
  obtain ⟨g, cap, rfl, hlie⟩ := ht
  have hcp : l.length + 1 ≤ cap ∧ w.rangeAt g 0 (cells8 (l ++ [77])) := by
    rcases hlie with ⟨h0, _⟩ | ⟨g', cap', hv4, _, _, hnc, _, hr, _⟩
    · cases h0
    · simp only [Value.slice.injEq, Option.some.injEq, Addr.mk.injEq, and_true] at hv4
      obtain ⟨rfl, _, rfl⟩ := hv4
      rw [ones_len, List.length_append, List.length_singleton] at hnc
      rw [ones_flat] at hr
      exact ⟨hnc, hr⟩
  obtain ⟨n, hn⟩ : ∃ n, n = l.length := ⟨_, rfl⟩
  rw [← hn] at hc1 hv0 hl hcp ⊢
  obtain ⟨k1, k2, k3, k4, k5, k6, k7, k8, k9, k10⟩ := left_nums hl hcp.1
  obtain ⟨n1, hn1⟩ : ∃ m, m = n + 1 := ⟨_, rfl⟩
  rw [← hn1] at k1 k6 k8 k10
  have HV := Lib.hid (And.intro hv0 (And.intro hn (And.intro hc1 (And.intro hc2 (And.intro hl (And.intro hn1 hcp.2))))))
  clear hv0 hn hc1 hc2 hl hn1 hcp hlie ht0 h3
  go_enter Tryz.func33, Tryz.ntmps33
  go_wp2_with fail
  go_loopw [5] (fun iv W => ∃ i : Nat, i ≤ n ∧ iv = .int .i64 (i : Int) ∧ Below w.heap.size w W) (fun iv _ => n - (intOf iv).toNat)
  case atStart => exact ⟨0, Nat.zero_le _, rfl, Below.refl _ _⟩
  case round =>
    obtain ⟨i, hi, rfl, hB⟩ := hrel
    by_cases hlt : i < n
    · obtain ⟨d1, d2, d3, d4⟩ := dec_lt hlt
      have hil : i < l.length := by rw [← HV.out.2.1]; exact hlt
      have hne : l ≠ [] := by intro h; rw [h] at hil; simp at hil
      obtain ⟨b, o, cap', hvf, _, _, hr⟩ := bytes_form8 HV.out.1 hne
      simp only [Value.slice.injEq] at hvf
      obtain ⟨rfl, -, rfl⟩ := hvf
      have hx := bcl hB (range_at8 hr hil)
      have hr2 := range_at8 HV.out.2.2.2.2.2.2 (i := i) (by rw [List.length_append, List.length_singleton]; omega)
      rw [List.getElem_append_left hil, Nat.zero_add] at hr2
      have hx2 := bcl hB hr2
      have hd := (Below.refl wr.heap.size wr).drew
      generalize l[i] = s at *
      have HX := Lib.hid (And.intro (bcl hd hx) (And.intro (bcl hd hx2) hB.drew))
      clear hx hx2 hr hr2 hne hil hd hB
      go_wp2_with fail
      refine wp_region_sched (fun V => V.cell? ⟨g, i, none⟩ = some (.int .u8 ((s.toNat : Nat) : Int)) ∧ V.cell? ⟨b, o + i, none⟩ = some (.int .u8 ((s.toNat : Nat) : Int))) [.t 0, .t 1, .t 2, .t 4, .t 5, .t 6, .s 3, .s 7, .t 8] (by kernel_rfl) (by kernel_rfl) (by intro c a d v w h; cases d <;> exact h) ?_
      generalize wr.drew = V at *
      iterate 6
        refine wpS_t rfl (v := ?_) (by rfl) (fun W => ?_) ?_
        rotate_left
        · go_simp
          try rfl
        try simp only [Act.put, List.setIfInBounds_toArray, List.set_cons_zero, List.set_cons_succ]
      refine wpS_s (by exact And.intro HX.out.2.1 HX.out.1) rfl (v := ?_) (by rfl) (fun W hSW => ?_) ?_
      rotate_left
      · go_simp
        try rfl
      try simp only [Act.put, List.setIfInBounds_toArray, List.set_cons_zero, List.set_cons_succ]
      refine wpS_s (by exact And.intro HX.out.2.1 HX.out.1) rfl (v := ?_) (by rfl) (fun W hSW => ?_) ?_
      rotate_left
      · go_simp
        try rfl
      try simp only [Act.put, List.setIfInBounds_toArray, List.set_cons_zero, List.set_cons_succ]
      iterate 1
        refine wpS_t rfl (v := ?_) (by rfl) (fun W => ?_) ?_
        rotate_left
        · go_simp
          try rfl
        try simp only [Act.put, List.setIfInBounds_toArray, List.set_cons_zero, List.set_cons_succ]
      refine wpS_done ?_
      go_wp2_with fail
      have hwi := wrapn (k := i) (by have := HV.out; omega)
      try rw [hwi]
      have h9 := HX.out.2.2
      clear hwi HX HV k1 k2 k3 k4 k5 k6 k7 k8 k9 k10 d1 d2 d3 d4
      refine ⟨⟨i + 1, hlt, rfl, h9⟩, ?_⟩
      clear h9
      simp only [intOf, Int.toNat_natCast]
      omega
    · obtain rfl : i = n := by omega
      have hr2 := range_at8 HV.out.2.2.2.2.2.2 (i := i) (by rw [List.length_append, List.length_singleton, ← HV.out.2.1]; omega)
      rw [List.getElem_append_right (by rw [← HV.out.2.1]; omega), Nat.zero_add] at hr2
      simp only [List.getElem_singleton] at hr2
      have hx2 := bcl hB hr2
      have HX := Lib.hid hB
      clear hr2 hB
      have hx3 : wr.cell? ⟨g, i, none⟩ = some (.int .u8 77) := hx2
      clear hx2
      go_wp2_with fail
      exact bodyPost_ret (results_tmp rfl _ _ _) rfl ⟨rfl, HX.out⟩
end Go.Proofs.YtfmgoehnbaiamaaGreatDoor
-- Arguments of a law, opened: 64-bit integers, bytes, structs.
open Go Go.RowKit Go.ChangeShapes Go.WideShapes Go.ChangeAt Alm
namespace Go.Proofs.YtfmgoehnbaiamaaGreatDoor
section
variable {H : Type} {enc : TypeId × Value → H} {P : Program} {w : World} {base : Nat} {spare : Nat → Bool} {held : Bool}
end
section
variable {H : Type} {enc : TypeId × Value → H} {W : World} {base : Nat} {spare : Nat → Bool} {held : Bool} {r : Reach} {b2 : Nat}
theorem cells_sums : Tryz.prog.cellsOf 61 = 1 := by kernel_rfl
end
end Go.Proofs.YtfmgoehnbaiamaaGreatDoor
-- Arguments of a law, opened: bytes.
namespace Go.Proofs.YtfmgoehnbaiamaaGreatDoor
section
variable {H : Type} {enc : TypeId × Value → H} {P : Program} {w : World} {base : Nat} {spare : Nat → Bool} {held : Bool}
/-- A list of bytes among the arguments. -/
theorem open_u8s {t e : TypeId} {fuel : Nat} {cs : List Value} {x : DataW H × List MemPlace} (ht : P.underlying t = some (.slice e)) (he : P.underlying e = some (.int .u8)) (hce : P.cellsOf e = 1)
    (h : DataW.trod enc P w base spare held fuel t cs = some x) : ∃ v l, cs = [v] ∧ BytesAt w v l := by
  rcases Deep.open_slice ht h with ⟨rfl, _⟩ | ⟨a, len, cap, m, n, D, Pl, rfl, hb, hl, hm, hmm, _, hel⟩
  · exact ⟨_, [], rfl, ⟨none, 0, rfl, Nat.le_refl _, by unfold maxLen; omega, .inl rfl⟩⟩
  · have hlm : len ≤ m := by rw [hmm]; split <;> omega
    have one : ∀ i, i < len → ∃ s : UInt8, (a.add i).spot = none ∧ w.rangeAt (a.add i).block (a.add i).off [u8v s] := fun i hi => by
      obtain ⟨cs', h1, h2⟩ := hel i (by omega)
      rw [hce, Nat.mul_one] at h1
      obtain ⟨z, hz, _, hw⟩ := DataW.trod_int he h2
      have hb : 0 ≤ z ∧ z ≤ 255 := by simpa [Lit.wf, IntKind.min, IntKind.max, IntKind.signed, IntKind.bits] using hw
      subst hz
      obtain ⟨h3, _, h4⟩ := range_of_cells h1 (by omega)
      refine ⟨UInt8.ofNat z.toNat, h3, ?_⟩
      have : u8v (UInt8.ofNat z.toNat) = .int .u8 z := by
        unfold u8v
        have : (UInt8.ofNat z.toNat).toNat = z.toNat := by
          rw [UInt8.toNat_ofNat']; omega
        rw [this]
        congr 1; omega
      rw [this]; exact h4
    obtain ⟨f, hf⟩ := Deep.choose_lt one
    refine ⟨_, (List.range len).map f, rfl, ⟨some a, cap, by simp, by simpa using hl, hm, ?_⟩⟩
    by_cases h0 : len = 0
    · subst h0; exact .inl rfl
    · right
      have hsp : a.spot = none := by
        have := (hf 0 (by omega)).1
        simpa [Addr.add] using this
      refine ⟨a.block, a.off, by cases a; simp_all, fun j v hv => ?_⟩
      have hj : j < len := by
        have := (List.getElem?_eq_some_iff.1 hv).1
        simpa [cells8] using this
      have h1 := (hf j hj).2 0 _ rfl
      have e : a.add j = ⟨a.block, a.off + j, none⟩ := by
        unfold Addr.add
        split
        · rename_i h0; subst h0; cases a; simp_all
        · rfl
      rw [e] at h1
      have e2 : v = u8v (f j) := by
        unfold cells8 at hv
        simp [hj] at hv
        exact hv.symm
      rw [e2]
      simpa using h1
end
section
variable {H : Type} {enc : TypeId × Value → H} {W : World} {base : Nat} {spare : Nat → Bool} {held : Bool} {r : Reach} {b2 : Nat}
end
end Go.Proofs.YtfmgoehnbaiamaaGreatDoor
