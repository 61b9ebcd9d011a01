/-
  Walks: maps.apart; two sums side by side.
-/
import Derived.Test.YtfmgoehnbaiamaaU7
import Derived.BigFrame
import Derived.Test.YtfmgoehnbaiamaaCut
open Go Go.RowKit Alm
namespace Go.Proofs.Ytfmgoehnbaiamaa
/-- Where two keys part. -/
def Parts (a b : Sum) (d : Nat) : Prop := d ≤ 256 ∧ Keys.kn a >>> (256 - d) = Keys.kn b >>> (256 - d) ∧ (d < 256 → Keys.kn a >>> (255 - d) ≠ Keys.kn b >>> (255 - d))
theorem shr_mono {x y m n : Nat} (h : x >>> m = y >>> m) (hmn : m ≤ n) : x >>> n = y >>> n := by
  obtain ⟨k, rfl⟩ : ∃ k, n = m + k := ⟨n - m, by omega⟩
  rw [Nat.shiftRight_add, Nat.shiftRight_add, h]
theorem parts_iff {a b : Sum} {d h : Nat} (hp : Parts a b d) (hh : h < 256) (hne : Keys.kn a >>> h ≠ Keys.kn b >>> h) : d = 255 - h ↔ Keys.kn a >>> (h + 1) = Keys.kn b >>> (h + 1) := by
  obtain ⟨h1, h2, h3⟩ := hp
  constructor
  · rintro rfl
    rw [show 256 - (255 - h) = h + 1 by omega] at h2
    exact h2
  · intro he
    have hd : d < 256 - h := by
      apply Nat.lt_of_not_le
      intro hge
      exact hne (shr_mono h2 (by omega))
    have h4 := h3 (by omega)
    have : ¬ (h + 1 ≤ 255 - d) := fun hle => h4 (shr_mono he hle)
    omega
set_option maxRecDepth 100000 in
set_option maxHeartbeats 1000000 in
theorem apart_any (a b : Sum) (w : World) : Calls Try.prog 56 #[sv a, sv b] w fun e w' => (∃ d, e = .returned (.int .i64 (d : Nat)) ∧ Parts a b d) ∧ Below w.heap.size w w' := by
  have hr1 := World.rangeAt_alloc (range_new w (cellsOf a).toArray 29 _ rfl) (.cells (cellsOf b).toArray 29)
  have hz : (w.alloc (.cells (cellsOf a).toArray 29)).heap.size = w.heap.size + 1 := Array.size_push _
  have hr2 := range_new (w.alloc (.cells (cellsOf a).toArray 29)) (cellsOf b).toArray 29 _ rfl
  rw [hz] at hr2
  have hb := al (al (Below.refl _ w) (.cells (cellsOf a).toArray 29)) (.cells (cellsOf b).toArray 29)
  have HI := Lib.hid (And.intro hr1 (And.intro hr2 hb))
  clear hr1 hz hr2 hb
  go_enter Try.func56, Try.ntmps56
  go_wp2_with fail
  change Code.wp _ _ _ _ ((w.alloc (.cells (cellsOf a).toArray 29)).alloc (.cells (cellsOf b).toArray 29))
  generalize (w.alloc (.cells (cellsOf a).toArray 29)).alloc (.cells (cellsOf b).toArray 29) = W0 at *
  go_loopw [6] (fun i W => ∃ d : Nat, d ≤ 256 ∧ i = .int .i64 (d : Int) ∧ Keys.kn a >>> (256 - d) = Keys.kn b >>> (256 - d) ∧ W.rangeAt w.heap.size 0 (cellsOf a) ∧ W.rangeAt (w.heap.size + 1) 0 (cellsOf b) ∧ Below w.heap.size w W) (fun i _ => 256 - (intOf i).toNat)
  case atStart =>
    refine ⟨0, by omega, rfl, ?_, HI.out⟩
    rw [Nat.sub_zero, Nat.shiftRight_eq_div_pow, Nat.shiftRight_eq_div_pow, Nat.div_eq_of_lt (Fast.snum_lt _), Nat.div_eq_of_lt (Fast.snum_lt _)]
  case round =>
    clear HI
    obtain ⟨d, hd, rfl, he, hra, hrb, hB⟩ := hrel
    have H := Lib.hid (And.intro hra (And.intro hrb hB))
    have HE := Lib.hid (And.intro hd he)
    clear hra hrb hB he hd
    by_cases hlt : d < 256
    · have c1 : decide (d < 256) = true := by simpa using hlt
      have c1' : decide ((d : Int) < 256) = true := by simp; omega
      have HL := Lib.hid hlt
      obtain ⟨p, hp⟩ : ∃ p, p = (Keys.kn a >>> (255 - d)) % 2 := ⟨_, rfl⟩
      obtain ⟨q, hq⟩ : ∃ q, q = (Keys.kn b >>> (255 - d)) % 2 := ⟨_, rfl⟩
      have BA := Lib.hid (fun W => by have h := bit_any a d W hlt; rw [← hp] at h; exact h)
      have BB := Lib.hid (fun W => by have h := bit_any b d W hlt; rw [← hq] at h; exact h)
      have HPQ := Lib.hid (And.intro hp hq)
      clear hlt hp hq
      go_wp2_with fail
      refine wp_region_sched (fun V => V.rangeAt w.heap.size 0 (cellsOf a) ∧ V.rangeAt (w.heap.size + 1) 0 (cellsOf b) ∧ Below w.heap.size w V) [.t 1, .t 4, .s 0, .s 3, .e 2 true, .e 5 false, .t 6] (by kernel_rfl) (by kernel_rfl) (by intro c a d v w h; cases d <;> exact h) ?_
      replace H := Lib.hid (show wr.drew.rangeAt w.heap.size 0 (cellsOf a) ∧ wr.drew.rangeAt (w.heap.size + 1) 0 (cellsOf b) ∧ Below w.heap.size w wr.drew from ⟨H.out.1, H.out.2.1, H.out.2.2.drew⟩)
      generalize wr.drew = V at *
      iterate 2
        refine wpS_t rfl (v := ?_) (by rfl) (fun W => ?_) ?_
        rotate_left
        · go_simp
          try rfl
        try simp only [Act.put, List.setIfInBounds_toArray, List.set_cons_zero, List.set_cons_succ]
      refine wpS_load_sum (by exact H.out) rfl (by rfl) _ (by rfl) w.heap.size 0 (by rfl) a (fun W hW => hW.1) ?_
      try simp only [Act.put, List.setIfInBounds_toArray, List.set_cons_zero, List.set_cons_succ]
      refine wpS_load_sum (by exact H.out) rfl (by rfl) _ (by rfl) (w.heap.size + 1) 0 (by rfl) b (fun W hW => hW.2.1) ?_
      try simp only [Act.put, List.setIfInBounds_toArray, List.set_cons_zero, List.set_cons_succ]
      refine wpS_k rfl (by rfl) (fun K hK => ?_)
      go_simp
      refine (BA.out V).mono ?_
      rintro e V1 ⟨rfl, hb1⟩
      have k1 : Keeps (fun _ => False) V V1 := Keeps.of_below hb1
      have H1 := Lib.hid (show V1.rangeAt w.heap.size 0 (cellsOf a) ∧ V1.rangeAt (w.heap.size + 1) 0 (cellsOf b) ∧ Below w.heap.size w V1 from ⟨k1.range H.out.1 (fun h => h), k1.range H.out.2.1 (fun h => h), H.out.2.2.trans (hb1.mono H.out.2.2.size)⟩)
      clear k1 hb1 H
      refine hK _ _ ⟨by exact H1.out, ?_⟩; clear hK K
      try simp only [Act.put, List.setIfInBounds_toArray, List.set_cons_zero, List.set_cons_succ]
      refine wpS_e rfl (by rfl) (fun K hK => ?_)
      go_simp
      refine (BB.out V1).mono ?_
      rintro e V2 ⟨rfl, hb1⟩
      have k1 : Keeps (fun _ => False) V1 V2 := Keeps.of_below hb1
      have H2 := Lib.hid (show V2.rangeAt w.heap.size 0 (cellsOf a) ∧ V2.rangeAt (w.heap.size + 1) 0 (cellsOf b) ∧ Below w.heap.size w V2 from ⟨k1.range H1.out.1 (fun h => h), k1.range H1.out.2.1 (fun h => h), H1.out.2.2.trans (hb1.mono H1.out.2.2.size)⟩)
      clear k1 hb1 H1
      refine hK _ _ ?_; clear hK K
      try simp only [Act.put, List.setIfInBounds_toArray, List.set_cons_zero, List.set_cons_succ]
      have s1 : Keys.kn a >>> (255 - d) = 2 * (Keys.kn a >>> (256 - d)) + p := by
        rw [HPQ.out.1, show 256 - d = (255 - d) + 1 by have := HL.out; omega, Nat.shiftRight_succ]; omega
      have s2 : Keys.kn b >>> (255 - d) = 2 * (Keys.kn b >>> (256 - d)) + q := by
        rw [HPQ.out.2, show 256 - d = (255 - d) + 1 by have := HL.out; omega, Nat.shiftRight_succ]; omega
      have hsame := HE.out.2
      by_cases hq : p = q
      · have hnext : Keys.kn a >>> (256 - (d + 1)) = Keys.kn b >>> (256 - (d + 1)) := by
          rw [show 256 - (d + 1) = 255 - d by omega, s1, s2, hsame, hq]
        have HN := Lib.hid hnext
        clear s1 s2 hsame hnext HPQ BA BB
        subst hq
        iterate 1
          refine wpS_t rfl (v := ?_) (by rfl) (fun W => ?_) ?_
          rotate_left
          · go_simp
            try rfl
          try simp only [Act.put, List.setIfInBounds_toArray, List.set_cons_zero, List.set_cons_succ]
        refine wpS_done ?_
        go_wp2_with fail
        have hw : wrap64 ((d : Int) + 1) = ((d + 1 : Nat) : Int) := by have := HL.out; unfold wrap64; omega
        rw [hw]
        refine ⟨⟨d + 1, by have := HL.out; omega, rfl, HN.out, H2.out⟩, ?_⟩
        have := HL.out
        simp only [intOf]; omega
      · have hdiff : Keys.kn a >>> (255 - d) ≠ Keys.kn b >>> (255 - d) := fun e => hq (by rw [s1, s2, hsame] at e; omega)
        have hpart : Parts a b d := ⟨by have := HL.out; omega, hsame, fun _ => hdiff⟩
        have HPT := Lib.hid hpart
        have hq1 : decide (p = q) = false := by simpa using hq
        have hq2 : decide ((p : Int) = (q : Int)) = false := by simp; omega
        clear HPQ BA BB
        clear s1 s2 hsame hpart hdiff
        iterate 1
          refine wpS_t rfl (v := ?_) (by rfl) (fun W => ?_) ?_
          rotate_left
          · go_simp
            try rfl
          try simp only [Act.put, List.setIfInBounds_toArray, List.set_cons_zero, List.set_cons_succ]
        refine wpS_done ?_
        go_wp2_with fail
        exact bodyPost_ret (results_tmp rfl _ _ _) rfl ⟨⟨d, rfl, HPT.out⟩, H2.out.2.2⟩
    · have ed : d = 256 := by have := HE.out.1; omega
      subst ed
      have hpart : Parts a b 256 := ⟨Nat.le_refl _, HE.out.2, fun h => by omega⟩
      have HPT := Lib.hid hpart
      clear hpart
      go_wp2_with fail
      exact bodyPost_ret (results_tmp rfl _ _ _) rfl ⟨⟨256, rfl, HPT.out⟩, H.out.2.2⟩
end Go.Proofs.Ytfmgoehnbaiamaa
