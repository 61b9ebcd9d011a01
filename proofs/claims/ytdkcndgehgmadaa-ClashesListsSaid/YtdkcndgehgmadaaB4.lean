/-
  Walks: almonerlaw01.SameBytes.
-/
import Derived.Test.YtdkcndgehgmadaaB1
import Derived.Test.YtdkcndgehgmadaaG2
open Go Go.RowKit Alm
namespace Go.Proofs.Ytdkcndgehgmadaa
set_option maxRecDepth 100000 in
set_option maxHeartbeats 1000000 in
theorem same_bytes (a b : List UInt8) (va vb : Value) (w : World) (ha : BytesAt w va a) (hb : BytesAt w vb b) : Calls Try.prog 52 #[va, vb] w fun e w' => e = .returned (.bool (decide (a = b))) ∧ Below w.heap.size w w' := by
  obtain ⟨aa, ca, rfl, ha1, ha2, ha3⟩ := ha
  obtain ⟨ab, cb, rfl, hb1, hb2, hb3⟩ := hb
  obtain ⟨n, hn⟩ : ∃ n, n = a.length := ⟨_, rfl⟩
  obtain ⟨m, hm⟩ : ∃ m, m = b.length := ⟨_, rfl⟩
  rw [← hn] at ha1 ⊢
  rw [← hm] at hb1 ⊢
  have HN := Lib.hid hn; clear hn
  have HM := Lib.hid hm; clear hm
  unfold maxLen at ha2 hb2
  have hn63 : (n : Int) < 9223372036854775808 := by omega
  by_cases hnm : n = m
  · subst hnm
    have hne : ((n : Int) != (n : Int)) = false := by simp
    have hq : decide (a = b) = decide (∀ j, j < n → a[j]? = b[j]?) := by
      rw [decide_eq_decide]
      constructor
      · rintro rfl j _; rfl
      · intro h
        refine List.ext_getElem? fun j => ?_
        by_cases hj : j < n
        · exact h j hj
        · rw [List.getElem?_eq_none (by rw [← HN.out]; omega), List.getElem?_eq_none (by rw [← HM.out]; omega)]
    obtain ⟨r, hr⟩ : ∃ r, r = decide (a = b) := ⟨_, rfl⟩
    rw [← hr] at hq ⊢
    have HQ := Lib.hid hq; clear hq hr
    go_enter Try.func52, Try.ntmps52
    go_wp2_with fail
    go_loopw [5] (fun i W => ∃ j : Nat, j ≤ n ∧ i = .int .i64 (j : Int) ∧ (∀ k, k < j → a[k]? = b[k]?) ∧ Below w.heap.size w W) (fun i _ => n - (intOf i).toNat)
    case atStart => exact ⟨0, by omega, rfl, fun k hk => by omega, Below.refl _ _⟩
    case round =>
      obtain ⟨j, hj, rfl, hall, hB⟩ := hrel
      have HA := Lib.hid hall; clear hall
      by_cases hlt : j < n
      · have hlt' : (j : Int) < (n : Int) := by omega
        have hj0 : (0 : Int) ≤ (j : Int) := by omega
        have hna : a ≠ [] := by intro h; have := HN.out; rw [h] at this; simp at this; omega
        have hnb : b ≠ [] := by intro h; have := HM.out; rw [h] at this; simp at this; omega
        obtain ⟨ba, oa, rfl, hra⟩ := ha3.resolve_left hna
        obtain ⟨bb, ob, rfl, hrb⟩ := hb3.resolve_left hnb
        have hja : j < a.length := by have := HN.out; omega
        have hjb : j < b.length := by have := HM.out; omega
        have hca : w.cell? ⟨ba, oa + j, none⟩ = some (.int .u8 ((a[j].toNat : Nat) : Int)) := hra j _ (by simp [cells8, u8v, hja])
        have hcb : w.cell? ⟨bb, ob + j, none⟩ = some (.int .u8 ((b[j].toNat : Nat) : Int)) := hrb j _ (by simp [cells8, u8v, hjb])
        have HXA := Lib.hid ((hB.drew.cell (p := ⟨ba, oa + j, none⟩) (World.block_lt_of_cell? w _ hca)).trans hca)
        have HXB := Lib.hid ((hB.drew.cell (p := ⟨bb, ob + j, none⟩) (World.block_lt_of_cell? w _ hcb)).trans hcb)
        have HGA := Lib.hid (List.getElem?_eq_getElem hja)
        have HGB := Lib.hid (List.getElem?_eq_getElem hjb)
        have hxy : a[j] = b[j] ↔ a[j].toNat = b[j].toNat := by rw [UInt8.toNat_inj]
        have HXY := Lib.hid hxy
        clear hxy hca hcb
        generalize a[j] = x at *
        generalize b[j] = y at *
        clear hra hrb hja hjb ha3 hb3
        have hp9 := x.toNat_lt
        have hq9 := y.toNat_lt
        obtain ⟨p, hp⟩ : ∃ p, p = x.toNat := ⟨_, rfl⟩
        obtain ⟨q, hq⟩ : ∃ p, p = y.toNat := ⟨_, rfl⟩
        rw [← hp] at HXA HXY
        rw [← hq] at HXB HXY
        clear hp hq hp9 hq9
        go_wp2_with fail
        refine wp_region_sched (fun W => W.cell? ⟨ba, oa + j, none⟩ = some (.int .u8 (p : Int)) ∧ W.cell? ⟨bb, ob + j, none⟩ = some (.int .u8 (q : Int))) [.t 0, .t 1, .t 2, .t 4, .t 5, .t 6, .s 3, .e 7 true, .t 8] (by kernel_rfl) (by kernel_rfl) (by intro c a d v w h; cases d <;> exact h) ?_
        have HBD := Lib.hid hB.drew
        clear hB
        generalize wr.drew = V at *
        iterate 6
          refine wpS_t rfl (v := ?_) (by rfl) (fun W => ?_) ?_
          rotate_left
          · go_simp
            try rfl
          try simp only [Act.put, List.setIfInBounds_toArray, List.set_cons_zero, List.set_cons_succ]
        refine wpS_s (by exact ⟨HXA.out, HXB.out⟩) rfl (v := ?_) (by rfl) (fun W hSW => ?_) ?_
        rotate_left
        · go_simp
          try rfl
        try simp only [Act.put, List.setIfInBounds_toArray, List.set_cons_zero, List.set_cons_succ]
        have g := HXB.out
        refine wpS_k rfl (by rfl) (fun K hK => ?_)
        go_simp
        refine hK _ _ ⟨by exact ⟨HXA.out, HXB.out⟩, ?_⟩; clear hK K
        try simp only [Act.put, List.setIfInBounds_toArray, List.set_cons_zero, List.set_cons_succ]
        clear g
        by_cases hpq : p = q
        · have hxy := HXY.out.2 hpq
          have HE := Lib.hid hxy
          clear hxy
          subst hpq
          iterate 1
            refine wpS_t rfl (v := ?_) (by rfl) (fun W => ?_) ?_
            rotate_left
            · go_simp
              try rfl
            try simp only [Act.put, List.setIfInBounds_toArray, List.set_cons_zero, List.set_cons_succ]
          refine wpS_done ?_
          go_wp2_with fail
          refine ⟨⟨j + 1, by omega, by simp, fun k hk => ?_, HBD.out⟩, by simp [intOf]; omega⟩
          by_cases hkj : k < j
          · exact HA.out k hkj
          · have : k = j := by omega
            rw [this, HGA.out, HGB.out, HE.out]
        · have hxy : ¬ x = y := fun h => hpq (HXY.out.1 h)
          have hne1 : ((p : Int) != (q : Int)) = true := by rw [bne_iff_ne]; omega
          have hne2 : ((p : Int) == (q : Int)) = false := by rw [beq_eq_false_iff_ne]; omega
          have HNE := Lib.hid hxy
          clear hxy
          iterate 1
            refine wpS_t rfl (v := ?_) (by rfl) (fun W => ?_) ?_
            rotate_left
            · go_simp
              try rfl
            try simp only [Act.put, List.setIfInBounds_toArray, List.set_cons_zero, List.set_cons_succ]
          refine wpS_done ?_
          have hr : r = false := by
            rw [HQ.out]
            simp only [decide_eq_false_iff_not]
            intro h
            have := h j hlt
            rw [HGA.out, HGB.out] at this
            exact HNE.out (by simpa using this)
          go_wp2_with fail
          exact bodyPost_ret (results_tmp rfl _ _ _) rfl ⟨by rw [hr]; rfl, HBD.out⟩
      · have hjn : j = n := by omega
        subst hjn
        have hr : r = true := by rw [HQ.out]; simpa using HA.out
        go_wp2_with fail
        exact bodyPost_ret (results_tmp rfl _ _ _) rfl ⟨by rw [hr]; rfl, hB⟩
  · have hne : ((n : Int) != (m : Int)) = true := by rw [bne_iff_ne]; omega
    have hne2 : ((n : Int) == (m : Int)) = false := by rw [beq_eq_false_iff_ne]; omega
    have hab : ¬ a = b := by intro h; have h1 := HN.out; rw [h, ← HM.out] at h1; exact hnm h1
    have HNE := Lib.hid hab
    clear hab
    go_enter Try.func52, Try.ntmps52
    go_wp2_with fail
    exact bodyPost_ret (results_tmp rfl _ _ _) rfl ⟨by rw [decide_eq_false HNE.out]; rfl, Below.refl _ _⟩
end Go.Proofs.Ytdkcndgehgmadaa
