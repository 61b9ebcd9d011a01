/-
  Walk: maps: Copy.
-/
import Derived.Test.YtfmgoehnbaiamaaV2
open Go Go.RowKit Alm
namespace Go.Proofs.Ytfmgoehnbaiamaa
open Go.Maps (Keyed)
theorem grown_keeps {w w' : World} {b : Nat} (h : Keeps (fun i => i = b) w w') : w.grownBy w' (some b) := ⟨h.os, h.tape, h.output, h.size, fun k hk hne => h.block k hk (fun e => hne (by rw [e]))⟩
/-- What Copy has in hand. -/
structure CR (w : World) (p b n q p2 b2 k : Nat) (l lc : List Ent) (left : Lit → Bool) (cnt : Nat) (W : World) : Prop where
  map : MapIn W p b n l
  cpy : MapIn W p2 b2 k lc
  bw : Below w.heap.size w W
  rng : W.ranges Try.prog 29 rEl b q n (encD l) left cnt
  mem : ∀ e, e ∈ lc ↔ e ∈ l ∧ left (.string e.1.toList) = false
theorem CR.next {w W W' : World} {p b n q p2 b2 k : Nat} {l lc : List Ent} {left : Lit → Bool} {cnt : Nat} (h : CR w p b n q p2 b2 k l lc left cnt W) (hb : Below W.heap.size W W') : CR w p b n q p2 b2 k l lc left cnt W' :=
  ⟨h.map.below hb, h.cpy.below hb, h.bw.trans (hb.mono h.bw.size), h.rng.kept (grown_below hb) (by simp) (by simp), h.mem⟩
theorem mapIn_ne {W : World} {p b n : Nat} {l : List Ent} (h : MapIn W p b n l) : p ≠ b := fun e => by
  obtain ⟨es, c, hbm⟩ := h.isMap
  have := h.cell
  rw [e] at this
  unfold World.cell? at this
  simp only [hbm] at this
  cases this
set_option maxRecDepth 100000 in
set_option maxHeartbeats 2000000 in
theorem mcopy_any (w : World) (p b n : Nat) (l : List Ent) (h : MapIn w p b n l) (hn : l.length < 100000) : Calls Try.prog 34 #[.pointer (some ⟨p, 0, none⟩)] w fun e w' => ∃ p2 b2, e = .returned (.tuple #[.pointer (some ⟨p2, 0, none⟩), .int .i64 0]) ∧ MapIn w' p2 b2 l.length l ∧ w.heap.size ≤ p2 ∧ w.heap.size ≤ b2 ∧ Below w.heap.size w w' := by
  have hc := h.cell
  have hsize : Maps.size (encD l) = l.length := by simp [Maps.size, encD]
  have HM := Lib.hid h
  have HZ := Lib.hid hsize
  have HL := Lib.hid hn
  have HLT := Lib.hid h.lt
  clear h hsize hn
  obtain ⟨N, hN⟩ : ∃ N, N = l.length := ⟨_, rfl⟩
  rw [← hN] at HZ HL ⊢
  have HN := Lib.hid hN
  clear hN
  go_enter Try.func34, Try.ntmps34
  go_wp2_with (first
    | (go_at_call 49; refine (mnone_live _ p b hc).mono ?_; rintro e w1 ⟨rfl, rfl⟩)
    | (go_at_call 29; refine (mnew_any _).mono ?_; rintro e w2 ⟨rfl, hm2, hb2⟩; obtain ⟨p2, hp2⟩ : ∃ p2, p2 = w.heap.size + 1 := ⟨_, rfl⟩; obtain ⟨b2, hbb2⟩ : ∃ b2, b2 = w.heap.size := ⟨_, rfl⟩; rw [← hp2, ← hbb2] at hm2; rw [← hp2]; have HP2 := Lib.hid (And.intro hp2 hbb2); have H2 := Lib.hid (And.intro hm2 hb2); have HM2 := Lib.hid (HM.out.below hb2); have hc2 := HM2.out.cell; clear hp2 hbb2 hm2 hb2 hc)
    | (at_range; refine wpList_range_own _ rfl _ 50 rfl 29 34 keyLaw Try.underlying50 rEl b n (encD l) rfl HM2.out.map ?_; intro w3 hrg3 hg3 hs3))
  have k3 : Keeps (fun _ => False) w2 w3 := Keeps.of_grown hg3 (fun k hk => by cases hk)
  have b3 : Below w2.heap.size w2 w3 := k3.below (Nat.le_refl _) (fun _ h => h.elim)
  rw [HZ.out] at hrg3
  have hq1 : w.heap.size ≤ w2.heap.size := H2.out.2.size
  have hq2 : b2 < w2.heap.size := H2.out.1.lt.2
  have hq3 : p2 < w2.heap.size := H2.out.1.lt.1
  have hq4 : b < w2.heap.size := HM2.out.lt.2
  have H3 := Lib.hid (show CR w p b n w2.heap.size p2 b2 0 l [] _ N w3 from ⟨HM2.out.below b3, H2.out.1.below b3, H2.out.2.trans (b3.mono H2.out.2.size), hrg3, fun e => ⟨fun he => (List.not_mem_nil he).elim, fun he => by
    have h1 := has_enc he.1
    rw [he.2] at h1
    cases h1⟩⟩)
  have HQ := Lib.hid (And.intro hq1 (And.intro hq2 (And.intro hq3 hq4)))
  clear hrg3 hg3 hs3 k3 b3 hq1 hq2 hq3 hq4 HM2 hc2 H2
  generalize w2.heap.size = q at *
  go_frame
  go_loopw [6] (fun _ W => ∃ (left : Lit → Bool) (cnt k : Nat) (lc : List Ent), k + cnt ≤ N ∧ CR w p b n q p2 b2 k l lc left cnt W) (fun _ W => W.rangeLeft b q)
  case atStart => exact ⟨_, N, 0, [], by omega, H3.out⟩
  case round =>
    clear H3
    obtain ⟨left, cnt, k, lc, hkc, hC⟩ := hrel
    have HK := Lib.hid hkc
    have HC := Lib.hid hC
    clear hkc hC
    go_wp2_with (at_next; refine wpList_next_ranges _ rfl _ rfl 29 keyLaw rEl (fun x : Sum => sv x) (fun c : Option Addr × Nat × Nat => Value.slice c.1 c.2.1 c.2.2) (fun key kl h => by obtain ⟨x, hx, _⟩ := keyOf_inv h; exact ⟨x, hx⟩) (fun v y h => rEl_inv h) b q n _ left cnt rfl HC.out.rng ?_ ?_)
    case refine_1 =>
      intro h0 hl0
      have HX := Lib.hid hl0
      clear h0 hl0
      go_wp2_with fail
      refine bodyPost_ret (results_tmp2 rfl _ _ _) rfl ?_
      have hC := HC.out
      have e : lc = l := Keys.rise_ext hC.cpy.rise hC.map.rise fun e => by
        rw [hC.mem]
        exact ⟨fun h => h.1, fun h => ⟨h, HX.out _⟩⟩
      have hm := hC.cpy
      rw [e] at hm
      exact ⟨p2, b2, rfl, hm.mono (by have := HK.out; omega), by have := HP2.out.1; omega, by have := HP2.out.2; omega, hC.bw⟩
    case refine_2 =>
      intro x ad m c kl y ps w4 cnt4 hkey hleft hR hat hrg4 hlt4 hg4 hs4 hen
      obtain ⟨x', hx', rfl⟩ := keyOf_inv hkey
      obtain rfl : x = x' := sv_inj hx'
      have hy : y = .held (.slice ad m c) := by
        simp only [rEl, Option.some.injEq, Prod.mk.injEq] at hR
        exact hR.1.symm
      subst hy
      obtain ⟨e0, he0, rfl, hev⟩ := at_found hat
      have kk : Keeps (fun i => i = q) wr w4 := Keeps.of_grown hg4 (fun k hk => by cases hk; rfl)
      have hon := on_iter HC.out.rng
      have hM4 := HC.out.map.maps hon kk (by have := HQ.out; omega)
      have hP4 := HC.out.cpy.maps hon kk (by have := HQ.out; omega)
      have hv4 := (hM4.vals e0 he0)
      rw [hev] at hv4
      have hB4 : Below w.heap.size w w4 := HC.out.bw.trans (kk.below HC.out.bw.size (fun k hk => by rw [hk]; exact HQ.out.1))
      have hmem := HC.out.mem
      have hle := HC.out.rng.left_eq
      have H4 := Lib.hid (And.intro hM4 (And.intro hP4 (And.intro hB4 (And.intro hrg4 (And.intro hv4 (And.intro hmem (And.intro hleft (And.intro he0 (And.intro hlt4 hle)))))))))
      have HEV := Lib.hid hev
      clear hkey hleft hR hat hrg4 hlt4 hg4 hs4 hev hx' kk hon hM4 hP4 hv4 hB4 hmem he0 hle HC
      go_wp2_with (refine wpList_var_sum (by rfl) rfl _ _ rfl e0.1 rfl rfl ?_; intro W6 hb6 hr6 _; have H6 := Lib.hid (And.intro hb6 hr6); clear hb6 hr6 hen)
      obtain ⟨z, hz⟩ : ∃ z, z = w4.heap.size := ⟨_, rfl⟩
      rw [← hz]
      have hcc : W6.drew.cell? ⟨p2, 0, none⟩ = some (.map (some b2)) := ((H4.out.2.1.below H6.out.1).below (Below.refl _ _).drew).cell
      have hkr : W6.drew.rangeAt z 0 (cellsOf e0.1) := by rw [hz]; exact H6.out.2
      have HCC := Lib.hid (And.intro hcc hkr)
      clear hcc hkr hz
      refine wp_region_sched (fun V => V.cell? ⟨p2, 0, none⟩ = some (.map (some b2)) ∧ V.rangeAt z 0 (cellsOf e0.1)) [.t 0, .t 1, .t 2, .t 5, .s 3, .e 4 true, .e 6 false] (by kernel_rfl) (by kernel_rfl) (by intro c a d v w h; cases d <;> exact h) ?_
      change wpS _ _ _ _ _ _ _ (World.drew _)
      have HBD := Lib.hid (H6.out.1.trans (Below.refl _ _).drew)
      clear H6
      generalize W6.drew = V at *
      iterate 4
        refine wpS_t rfl (v := ?_) (by rfl) (fun W => ?_) ?_
        rotate_left
        · go_simp
          try rfl
        try simp only [Act.put, List.setIfInBounds_toArray, List.set_cons_zero, List.set_cons_succ]
      refine wpS_s (by exact HCC.out) rfl (v := ?_) (by rfl) (fun W hSW => ?_) ?_
      rotate_left
      · go_simp
        try rfl
      try simp only [Act.put, List.setIfInBounds_toArray, List.set_cons_zero, List.set_cons_succ]
      refine wpS_k rfl (by rfl) (fun K hK => ?_)
      refine wp_load_sum _ (by rfl) z 0 (by rfl) e0.1 HCC.out.2 ?_
      refine hK _ _ ⟨by exact HCC.out, ?_⟩; clear hK K
      try simp only [Act.put, List.setIfInBounds_toArray, List.set_cons_zero, List.set_cons_succ]
      refine wpS_e rfl (by rfl) (fun K hK => ?_)
      refine wp_update_map _ _ _ (by rfl) p2 b2 k lc (by rfl) (H4.out.2.1.below HBD.out) (by have := HK.out; have := HL.out; omega) e0.1 (by rfl) (.slice ad m c) e0.2.2 (by rfl) (bytes_below H4.out.2.2.2.2.1.1 HBD.out (Nat.le_refl _)) H4.out.2.2.2.2.1.2.1 H4.out.2.2.2.2.1.2.2 ?_
      intro W7 hm7 hk7
      have hC7 : CR w p b n q p2 b2 (k + 1) l (Keys.put e0.1 (.slice ad m c, e0.2.2) lc) (fun z => left z && !z.sameKey (.string e0.1.toList)) cnt4 W7 := by
        obtain ⟨h1, h2, h3, h4, h5, h6, h7, h8, h9, h10⟩ := H4.out
        have hon2 := (h2.below HBD.out).on
        refine ⟨(h1.below HBD.out).maps hon2 hk7 (by have := HLT.out.2; have := HP2.out.2; omega), hm7, (h3.trans (HBD.out.mono h3.size)).trans (hk7.below (h3.trans (HBD.out.mono h3.size)).size (fun k hk => by rw [hk]; have := HP2.out.2; omega)), ?_, fun e => ?_⟩
        · refine (h4.kept (grown_below HBD.out) (by simp) (by simp)).kept (grown_keeps hk7) ?_ ?_
          · intro e; have := HLT.out.2; have := HP2.out.2; simp at e; omega
          · intro e; have := HQ.out.2.1; simp at e; omega
        · rw [Keys.mem_put h2.rise, h6]
          have ee : (e0.1, Value.slice ad m c, e0.2.2) = e0 := by rw [← HEV.out]
          rw [ee]
          constructor
          · rintro (rfl | ⟨⟨h, h'⟩, _⟩)
            · exact ⟨h8, by rw [same_str]; simp⟩
            · exact ⟨h, by rw [h']; rfl⟩
          · rintro ⟨h, h'⟩
            by_cases hx : e.1 = e0.1
            · exact .inl (Keys.rise_key h1.rise h h8 hx)
            · refine .inr ⟨⟨h, ?_⟩, hx⟩
              rw [same_str] at h'
              simpa [hx] using h'
      have H7 := Lib.hid hC7
      have hl7 := hC7.rng.left_eq
      have HL7 := Lib.hid hl7
      clear hm7 hk7 hC7 hl7
      refine hK _ _ ?_; clear hK K
      try simp only [Act.put, List.setIfInBounds_toArray, List.set_cons_zero, List.set_cons_succ]
      refine wpS_done ?_
      go_wp2_with fail
      refine ⟨⟨_, cnt4, k + 1, _, by have := HK.out; have := H4.out.2.2.2.2.2.2.2.2.1; omega, H7.out⟩, ?_⟩
      rw [HL7.out, H4.out.2.2.2.2.2.2.2.2.2]
      exact H4.out.2.2.2.2.2.2.2.2.1
end Go.Proofs.Ytfmgoehnbaiamaa
