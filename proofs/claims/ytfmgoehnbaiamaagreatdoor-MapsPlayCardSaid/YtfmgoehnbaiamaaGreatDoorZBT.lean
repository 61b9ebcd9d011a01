/-
  Joined: MP8, V5.
-/
import Derived.Test.YtfmgoehnbaiamaaGreatDoorZAV
-- Walks: the size of pairs, law 15's great: what they say of the lengths.
open Go Go.RowKit Alm
namespace Go.Proofs.YtfmgoehnbaiamaaGreatDoor
set_option maxRecDepth 100000 in
theorem psize1_len (x : PE) (l : List UInt8) (w : World) (hb : BytesAt w (peV x) l) (hl : l.length < 281474976710656) : Calls Tryz.prog 118 #[.agg (encP x).toArray] w fun e w' => e = .returned (.int .i64 ((l.length + 1 : Nat) : Int)) ∧ Below w.heap.size w w' := by
  obtain ⟨a, c, hv, _, _, _⟩ := hb
  have h1 : (w.alloc (.cells (encP x).toArray 41)).rangeAt w.heap.size 0 (encP x) := range_new w (encP x).toArray 41 _ rfl
  have hB := al (Below.refl _ w) (.cells (encP x).toArray 41)
  have HB := Lib.hid hB
  have c1 := encP_cell h1
  rw [hv] at c1
  obtain ⟨n, hn⟩ : ∃ n, n = l.length := ⟨_, rfl⟩
  rw [← hn] at c1 hl ⊢
  have hw : wrap64 (1 + (n : Int)) = ((n + 1 : Nat) : Int) := by unfold wrap64; omega
  have HW := Lib.hid hw
  clear h1 hB hv hn hw hl
  go_enter Tryz.func118, Tryz.ntmps118
  go_wp2_with fail
  refine (bs_any _ _ _ _).mono ?_
  rintro e w1 ⟨rfl, rfl⟩
  go_wp2_with fail
  try rw [HW.out]
  exact bodyPost_ret (results_tmp rfl _ _ _) rfl ⟨rfl, HB.out⟩
theorem take_le {P : List Keys.Pr} {j : Nat} {y : Sum} {bs : List UInt8} (h : P[j]? = some (y, bs)) {n m : Nat} (hn : ∀ p ∈ P.take j, p.2.length ≤ n) (hm : n ≤ m) (hb : bs.length ≤ m) : ∀ p ∈ P.take (j + 1), p.2.length ≤ m := fun p hp => by
  have hj := (List.getElem?_eq_some_iff.1 h).1
  have he := (List.getElem?_eq_some_iff.1 h).2
  rw [List.take_succ_eq_append_getElem hj, List.mem_append, List.mem_singleton] at hp
  rcases hp with hp | hp
  · exact Nat.le_trans (hn p hp) hm
  · rw [hp, he]; exact hb
set_option maxRecDepth 100000 in
set_option maxHeartbeats 1000000 in
theorem psize_len (P : List Keys.Pr) (v : Value) (w : World) (hv : PairsAt w v P) (hn : P.length < 1000000) (hR : ∀ p ∈ P, p.2.length < 281474976710656) : Calls Tryz.prog 47 #[v] w fun e w' => (∃ n : Nat, e = .returned (.int .i64 (n : Int)) ∧ (n ≤ 1048576 → ∀ p ∈ P, p.2.length ≤ n)) ∧ Below w.heap.size w w' := by
  have HV := Lib.hid hv
  have HRR := Lib.hid hR
  obtain ⟨a, cap, rfl, h1, h2⟩ := pairs_form hv
  obtain ⟨N, hN⟩ : ∃ N, N = P.length := ⟨_, rfl⟩
  rw [← hN] at HV h1 hn ⊢
  have HN := Lib.hid (And.intro hN hn)
  clear hv hN h2 hR
  have k1 : (N : Int) ≤ (cap : Int) := by omega
  go_enter Tryz.func47, Tryz.ntmps47
  go_wp2_with fail
  go_loopw [3, 4] (fun nv iv W => ∃ (n j : Nat), nv = .int .i64 (n : Int) ∧ j ≤ N ∧ iv = .int .i64 (j : Int) ∧ (∀ p ∈ P.take j, p.2.length ≤ n) ∧ Below w.heap.size w W) (fun _ iv _ => N - (intOf iv).toNat)
  case atStart => exact ⟨_, 0, rfl, by omega, rfl, (fun p hp => by simp at hp), Below.refl _ _⟩
  case round =>
    obtain ⟨n, j, rfl, hj, rfl, hq, hB⟩ := hrel
    have HB := Lib.hid hB
    have HQ := Lib.hid hq
    clear hB hq
    by_cases hlt : j < N
    · have c1 : decide (j < N) = true := by simpa using hlt
      have c1' : decide ((j : Int) < (N : Int)) = true := by simp; omega
      by_cases hle : n ≤ 1048576
      · have c2 : decide ((n : Int) ≤ 1048576) = true := by simp; omega
        have c2' : decide (n ≤ 1048576) = true := by simpa using hle
        obtain ⟨b, o, cap', y, bs, he, hr, hy, hP⟩ := pairs_one (HV.out.below HB.out) (i := j) (by rw [← HN.out.1]; exact hlt)
        simp only [Value.slice.injEq] at he
        obtain ⟨rfl, -, rfl⟩ := he
        have hmem := List.mem_of_getElem? hP
        have hbs := HRR.out _ hmem
        have HR := Lib.hid (And.intro hr (And.intro hy (And.intro hbs (take_le hP HQ.out (m := n + (bs.length + 1)) (by omega) (by omega)))))
        have hwn : wrap64 ((n : Int) + ((bs.length + 1 : Nat) : Int)) = ((n + (bs.length + 1) : Nat) : Int) := by simp only at hbs; unfold wrap64; omega
        have HWN := Lib.hid hwn
        have hwj : wrap64 ((j : Int) + 1) = ((j + 1 : Nat) : Int) := by have := HN.out.2; unfold wrap64; omega
        have HWJ := Lib.hid hwj
        have HLT := Lib.hid hlt
        clear hr hy hP hmem hbs hwn hwj hle
        obtain ⟨L1, hL1⟩ : ∃ L1, L1 = bs.length + 1 := ⟨_, rfl⟩
        rw [← hL1] at HWN HR
        have HL1 := Lib.hid hL1
        clear hL1
        go_wp2_with (first
          | (refine wpList_load_pair rfl _ rfl b (o + j * 33) rfl y HR.out.1 ?_)
          | (go_at_call 118; refine (psize1_len y bs _ HR.out.2.1 HR.out.2.2.1).mono ?_; rintro e w1 ⟨rfl, hb1⟩; rw [← HL1.out]; have HB1 := Lib.hid (HB.out.trans (hb1.mono HB.out.size)); clear hb1))
        first
          | rw [HWN.out]
          | skip
        first
          | rw [HWJ.out]
          | skip
        have hlt := HLT.out
        exact ⟨⟨n + L1, j + 1, rfl, hlt, rfl, HR.out.2.2.2, HB1.out⟩, by simp only [intOf, Int.toNat_natCast]; omega⟩
      · have c2 : decide ((n : Int) ≤ 1048576) = false := by simp; omega
        have c2' : decide (n ≤ 1048576) = false := by simpa using hle
        have HLE := Lib.hid hle
        clear hle
        go_wp2_with fail
        exact bodyPost_ret (results_tmp rfl _ _ _) rfl ⟨⟨_, rfl, fun h => (HLE.out h).elim⟩, HB.out⟩
    · have c1 : decide (j < N) = false := by simpa using hlt
      have c1' : decide ((j : Int) < (N : Int)) = false := by simp; omega
      have hq := HQ.out
      rw [List.take_of_length_le (by rw [← HN.out.1]; omega)] at hq
      have HQ2 := Lib.hid hq
      clear hq
      go_wp2_with fail
      exact bodyPost_ret (results_tmp rfl _ _ _) rfl ⟨⟨_, rfl, fun _ => HQ2.out⟩, HB.out⟩
set_option maxRecDepth 100000 in
theorem great15_len (P : List Keys.Pr) (v : Value) (w : World) (hv : PairsAt w v P) (hR : ∀ p ∈ P, p.2.length < 281474976710656) : Calls Tryz.prog 6 #[v] w fun e w' => ∃ r : Bool, e = .returned (.bool r) ∧ (r = false → P.length ≤ 24 ∧ ∀ p ∈ P, p.2.length ≤ 12000) ∧ Below w.heap.size w w' := by
  have HV := Lib.hid hv
  have HRR := Lib.hid hR
  obtain ⟨a, cap, rfl, h1, h2⟩ := pairs_form hv
  clear hR
  by_cases hlt : 24 < P.length
  · obtain ⟨N, hN⟩ : ∃ N, N = P.length := ⟨_, rfl⟩
    rw [← hN] at HV h1 hlt ⊢
    clear hv hN h2
    have c1 : decide (24 < N) = true := by simpa using hlt
    have c1' : decide ((24 : Int) < (N : Int)) = true := by simp; omega
    go_enter Tryz.func6, Tryz.ntmps6
    go_wp2_with fail
    exact bodyPost_ret (results_tmp rfl _ _ _) rfl ⟨true, rfl, fun h => by (first | cases h | simp at h), Below.refl _ _⟩
  · obtain ⟨N, hN⟩ : ∃ N, N = P.length := ⟨_, rfl⟩
    rw [← hN] at HV h1 hlt ⊢
    have HN := Lib.hid hN
    clear hv hN h2
    have c1 : decide (24 < N) = false := by simpa using hlt
    have c1' : decide ((24 : Int) < (N : Int)) = false := by simp; omega
    go_enter Tryz.func6, Tryz.ntmps6
    go_wp2_with fail
    refine (psize_len P _ _ HV.out (by rw [← HN.out]; omega) HRR.out).mono ?_
    rintro e w1 ⟨⟨m, rfl, hm⟩, hb1⟩
    have HB := Lib.hid (And.intro hb1 hm)
    clear hb1 hm
    by_cases h12 : 12000 < m
    · have d1 : decide (12000 < m) = true := by simpa using h12
      have d1' : decide ((12000 : Int) < (m : Int)) = true := by simp; omega
      go_wp2_with fail
      exact bodyPost_ret (results_tmp rfl _ _ _) rfl ⟨true, rfl, fun h => (by cases h), HB.out.1⟩
    · have d1 : decide (12000 < m) = false := by simpa using h12
      have d1' : decide ((12000 : Int) < (m : Int)) = false := by simp; omega
      have HM := Lib.hid h12
      clear h12
      go_wp2_with fail
      exact bodyPost_ret (results_tmp rfl _ _ _) rfl ⟨false, rfl, fun _ => ⟨by omega, fun p hp => by have := HB.out.2 (by have := HM.out; omega) p hp; have := HM.out; omega⟩, HB.out.1⟩
end Go.Proofs.YtfmgoehnbaiamaaGreatDoor
-- Walk: maps: Copy.
namespace Go.Proofs.YtfmgoehnbaiamaaGreatDoor
open Go.Maps (Keyed)
theorem grown_keeps {w w' : World} {b : Nat} (h : Keeps (fun i => i = b) w w') : w.grownBy w' (some b) := ⟨h.os, h.tape, h.output, h.size, fun k hk hne => h.block k hk (fun e => hne (by rw [e]))⟩
/-- What Copy has in hand. -/
structure CR (w : World) (p b n q p2 b2 k : Nat) (l lc : List Ent) (left : Lit → Bool) (cnt : Nat) (W : World) : Prop where
  map : MapIn W p b n l
  cpy : MapIn W p2 b2 k lc
  bw : Below w.heap.size w W
  rng : W.ranges Tryz.prog 24 rEl b q n (encD l) left cnt
  mem : ∀ e, e ∈ lc ↔ e ∈ l ∧ left (.string e.1.toList) = false
theorem CR.next {w W W' : World} {p b n q p2 b2 k : Nat} {l lc : List Ent} {left : Lit → Bool} {cnt : Nat} (h : CR w p b n q p2 b2 k l lc left cnt W) (hb : Below W.heap.size W W') : CR w p b n q p2 b2 k l lc left cnt W' :=
  ⟨h.map.below hb, h.cpy.below hb, h.bw.trans (hb.mono h.bw.size), h.rng.kept (grown_below hb) (by simp) (by simp), h.mem⟩
set_option maxRecDepth 100000 in
set_option maxHeartbeats 2000000 in
theorem mcopy_any (w : World) (p b n : Nat) (l : List Ent) (h : MapIn w p b n l) (hn : l.length < 100000) : Calls Tryz.prog 13 #[.pointer (some ⟨p, 0, none⟩)] w fun e w' => ∃ p2 b2, e = .returned (.tuple #[.pointer (some ⟨p2, 0, none⟩), .int .i64 0]) ∧ MapIn w' p2 b2 l.length l ∧ w.heap.size ≤ p2 ∧ w.heap.size ≤ b2 ∧ Below w.heap.size w w' := by
  have hc := h.cell
  have hsize : Maps.size (encD l) = l.length := by simp [Maps.size, encD]
  have HM := Lib.hid h
  have HZ := Lib.hid hsize
  have HL := Lib.hid hn
  have HLT := Lib.hid h.lt
  clear h hsize hn
  obtain ⟨N, hN⟩ : ∃ N, N = l.length := ⟨_, rfl⟩
  rw [← hN] at HZ HL ⊢
  have HN := Lib.hid hN
  clear hN
  go_enter Tryz.func13, Tryz.ntmps13
  go_wp2_with (first
    | (go_at_call 48; refine (mnone_live _ p b hc).mono ?_; rintro e w1 ⟨rfl, rfl⟩)
    | (go_at_call 7; refine (mnew_any _).mono ?_; rintro e w2 ⟨rfl, hm2, hb2⟩; obtain ⟨p2, hp2⟩ : ∃ p2, p2 = w.heap.size + 1 := ⟨_, rfl⟩; obtain ⟨b2, hbb2⟩ : ∃ b2, b2 = w.heap.size := ⟨_, rfl⟩; rw [← hp2, ← hbb2] at hm2; rw [← hp2]; have HP2 := Lib.hid (And.intro hp2 hbb2); have H2 := Lib.hid (And.intro hm2 hb2); have HM2 := Lib.hid (HM.out.below hb2); have hc2 := HM2.out.cell; clear hp2 hbb2 hm2 hb2 hc)
    | (at_range; refine wpList_range_own _ rfl _ 91 rfl 24 39 keyLaw Tryz.underlying91 rEl b n (encD l) rfl HM2.out.map ?_; intro w3 hrg3 hg3 hs3))
  have k3 : Keeps (fun _ => False) w2 w3 := Keeps.of_grown hg3 (fun k hk => by cases hk)
  have b3 : Below w2.heap.size w2 w3 := k3.below (Nat.le_refl _) (fun _ h => h.elim)
  rw [HZ.out] at hrg3
  have hq1 : w.heap.size ≤ w2.heap.size := H2.out.2.size
  have hq2 : b2 < w2.heap.size := H2.out.1.lt.2
  have hq3 : p2 < w2.heap.size := H2.out.1.lt.1
  have hq4 : b < w2.heap.size := HM2.out.lt.2
  have H3 := Lib.hid (show CR w p b n w2.heap.size p2 b2 0 l [] _ N w3 from ⟨HM2.out.below b3, H2.out.1.below b3, H2.out.2.trans (b3.mono H2.out.2.size), hrg3, fun e => ⟨fun he => (List.not_mem_nil he).elim, fun he => by
    have h1 := has_enc he.1
    rw [he.2] at h1
    cases h1⟩⟩)
  have HQ := Lib.hid (And.intro hq1 (And.intro hq2 (And.intro hq3 hq4)))
  clear hrg3 hg3 hs3 k3 b3 hq1 hq2 hq3 hq4 HM2 hc2 H2
  generalize w2.heap.size = q at *
  go_frame
  go_loopw [6] (fun _ W => ∃ (left : Lit → Bool) (cnt k : Nat) (lc : List Ent), k + cnt ≤ N ∧ CR w p b n q p2 b2 k l lc left cnt W) (fun _ W => W.rangeLeft b q)
  case atStart => exact ⟨_, N, 0, [], by omega, H3.out⟩
  case round =>
    clear H3
    obtain ⟨left, cnt, k, lc, hkc, hC⟩ := hrel
    have HK := Lib.hid hkc
    have HC := Lib.hid hC
    clear hkc hC
    go_wp2_with (at_next; refine wpList_next_ranges _ rfl _ rfl 24 keyLaw rEl (fun x : Sum => sv x) (fun c : Option Addr × Nat × Nat => Value.slice c.1 c.2.1 c.2.2) (fun key kl h => by obtain ⟨x, hx, _⟩ := keyOf_inv h; exact ⟨x, hx⟩) (fun v y h => rEl_inv h) b q n _ left cnt rfl HC.out.rng ?_ ?_)
    case refine_1 =>
      intro h0 hl0
      have HX := Lib.hid hl0
      clear h0 hl0
      go_wp2_with fail
      refine bodyPost_ret (results_tmp2 rfl _ _ _) rfl ?_
      have hC := HC.out
      have e : lc = l := Keys.rise_ext hC.cpy.rise hC.map.rise fun e => by
        rw [hC.mem]
        exact ⟨fun h => h.1, fun h => ⟨h, HX.out _⟩⟩
      have hm := hC.cpy
      rw [e] at hm
      exact ⟨p2, b2, rfl, hm.mono (by have := HK.out; omega), by have := HP2.out.1; omega, by have := HP2.out.2; omega, hC.bw⟩
    case refine_2 =>
      intro x ad m c kl y ps w4 cnt4 hkey hleft hR hat hrg4 hlt4 hg4 hs4 hen
      obtain ⟨x', hx', rfl⟩ := keyOf_inv hkey
      obtain rfl : x = x' := sv_inj hx'
      have hy : y = .held (.slice ad m c) := by
        simp only [rEl, Option.some.injEq, Prod.mk.injEq] at hR
        exact hR.1.symm
      subst hy
      obtain ⟨e0, he0, rfl, hev⟩ := at_found hat
      have kk : Keeps (fun i => i = q) wr w4 := Keeps.of_grown hg4 (fun k hk => by cases hk; rfl)
      have hon := on_iter HC.out.rng
      have hM4 := HC.out.map.maps hon kk (by have := HQ.out; omega)
      have hP4 := HC.out.cpy.maps hon kk (by have := HQ.out; omega)
      have hv4 := (hM4.vals e0 he0)
      rw [hev] at hv4
      have hB4 : Below w.heap.size w w4 := HC.out.bw.trans (kk.below HC.out.bw.size (fun k hk => by rw [hk]; exact HQ.out.1))
      have hmem := HC.out.mem
      have hle := HC.out.rng.left_eq
      have H4 := Lib.hid (And.intro hM4 (And.intro hP4 (And.intro hB4 (And.intro hrg4 (And.intro hv4 (And.intro hmem (And.intro hleft (And.intro he0 (And.intro hlt4 hle)))))))))
      have HEV := Lib.hid hev
      clear hkey hleft hR hat hrg4 hlt4 hg4 hs4 hev hx' kk hon hM4 hP4 hv4 hB4 hmem he0 hle HC
      go_wp2_with (refine wpList_var_sum (by rfl) rfl _ _ rfl e0.1 rfl rfl ?_; intro W6 hb6 hr6 _; have H6 := Lib.hid (And.intro hb6 hr6); clear hb6 hr6 hen)
      obtain ⟨z, hz⟩ : ∃ z, z = w4.heap.size := ⟨_, rfl⟩
      rw [← hz]
      have hcc : W6.drew.cell? ⟨p2, 0, none⟩ = some (.map (some b2)) := ((H4.out.2.1.below H6.out.1).below (Below.refl _ _).drew).cell
      have hkr : W6.drew.rangeAt z 0 (cellsOf e0.1) := by rw [hz]; exact H6.out.2
      have HCC := Lib.hid (And.intro hcc hkr)
      clear hcc hkr hz
      refine wp_region_sched (fun V => V.cell? ⟨p2, 0, none⟩ = some (.map (some b2)) ∧ V.rangeAt z 0 (cellsOf e0.1)) [.t 0, .t 1, .t 2, .t 5, .s 3, .e 4 true, .e 6 false] (by kernel_rfl) (by kernel_rfl) (by intro c a d v w h; cases d <;> exact h) ?_
      change wpS _ _ _ _ _ _ _ (World.drew _)
      have HBD := Lib.hid (H6.out.1.trans (Below.refl _ _).drew)
      clear H6
      generalize W6.drew = V at *
      iterate 4
        refine wpS_t rfl (v := ?_) (by rfl) (fun W => ?_) ?_
        rotate_left
        · go_simp
          try rfl
        try simp only [Act.put, List.setIfInBounds_toArray, List.set_cons_zero, List.set_cons_succ]
      refine wpS_s (by exact HCC.out) rfl (v := ?_) (by rfl) (fun W hSW => ?_) ?_
      rotate_left
      · go_simp
        try rfl
      try simp only [Act.put, List.setIfInBounds_toArray, List.set_cons_zero, List.set_cons_succ]
      refine wpS_k rfl (by rfl) (fun K hK => ?_)
      refine wp_load_sum _ (by rfl) z 0 (by rfl) e0.1 HCC.out.2 ?_
      refine hK _ _ ⟨by exact HCC.out, ?_⟩; clear hK K
      try simp only [Act.put, List.setIfInBounds_toArray, List.set_cons_zero, List.set_cons_succ]
      refine wpS_e rfl (by rfl) (fun K hK => ?_)
      refine wp_update_map _ _ _ (by rfl) p2 b2 k lc (by rfl) (H4.out.2.1.below HBD.out) (by have := HK.out; have := HL.out; omega) e0.1 (by rfl) (.slice ad m c) e0.2.2 (by rfl) (bytes_below H4.out.2.2.2.2.1.1 HBD.out (Nat.le_refl _)) H4.out.2.2.2.2.1.2.1 H4.out.2.2.2.2.1.2.2 ?_
      intro W7 hm7 hk7
      have hC7 : CR w p b n q p2 b2 (k + 1) l (Keys.put e0.1 (.slice ad m c, e0.2.2) lc) (fun z => left z && !z.sameKey (.string e0.1.toList)) cnt4 W7 := by
        obtain ⟨h1, h2, h3, h4, h5, h6, h7, h8, h9, h10⟩ := H4.out
        have hon2 := (h2.below HBD.out).on
        refine ⟨(h1.below HBD.out).maps hon2 hk7 (by have := HLT.out.2; have := HP2.out.2; omega), hm7, (h3.trans (HBD.out.mono h3.size)).trans (hk7.below (h3.trans (HBD.out.mono h3.size)).size (fun k hk => by rw [hk]; have := HP2.out.2; omega)), ?_, fun e => ?_⟩
        · refine (h4.kept (grown_below HBD.out) (by simp) (by simp)).kept (grown_keeps hk7) ?_ ?_
          · intro e; have := HLT.out.2; have := HP2.out.2; simp at e; omega
          · intro e; have := HQ.out.2.1; simp at e; omega
        · rw [Keys.mem_put h2.rise, h6]
          have ee : (e0.1, Value.slice ad m c, e0.2.2) = e0 := by rw [← HEV.out]
          rw [ee]
          constructor
          · rintro (rfl | ⟨⟨h, h'⟩, _⟩)
            · exact ⟨h8, by rw [same_str]; simp⟩
            · exact ⟨h, by rw [h']; rfl⟩
          · rintro ⟨h, h'⟩
            by_cases hx : e.1 = e0.1
            · exact .inl (Keys.rise_key h1.rise h h8 hx)
            · refine .inr ⟨⟨h, ?_⟩, hx⟩
              rw [same_str] at h'
              simpa [hx] using h'
      have H7 := Lib.hid hC7
      have hl7 := hC7.rng.left_eq
      have HL7 := Lib.hid hl7
      clear hm7 hk7 hC7 hl7
      refine hK _ _ ?_; clear hK K
      try simp only [Act.put]
      refine wpS_done ?_
      go_wp2_with fail
      refine ⟨⟨_, cnt4, k + 1, _, by have := HK.out; have := H4.out.2.2.2.2.2.2.2.2.1; omega, H7.out⟩, ?_⟩
      rw [HL7.out, H4.out.2.2.2.2.2.2.2.2.2]
      exact H4.out.2.2.2.2.2.2.2.2.1
end Go.Proofs.YtfmgoehnbaiamaaGreatDoor
