/-
  Walks: almonerlaw01.SameByteLists.
-/
import Derived.Test.YtdkcndgehgmadaaB5
import Derived.Test.YtdkcndgehgmadaaB4
open Go Go.RowKit Alm
namespace Go.Proofs.Ytdkcndgehgmadaa
set_option maxRecDepth 100000 in
set_option maxHeartbeats 1000000 in
theorem same_lists (a b : List (List UInt8)) (va vb : Value) (w : World) (ha : ListsAt w va a) (hb : ListsAt w vb b) (hla : a.length < 1000000) (hlb : b.length < 1000000) : Calls Try.prog 56 #[va, vb] w fun e w' => e = .returned (.bool (decide (a = b))) ∧ Below w.heap.size w w' := by
  have HLA := Lib.hid ha
  have HLB := Lib.hid hb
  obtain ⟨aa, ca, rfl, ha1, ha2, ha3⟩ := ha
  obtain ⟨ab, cb, rfl, hb1, hb2, hb3⟩ := hb
  clear ha3 hb3
  obtain ⟨n, hn⟩ : ∃ n, n = a.length := ⟨_, rfl⟩
  obtain ⟨m, hm⟩ : ∃ m, m = b.length := ⟨_, rfl⟩
  rw [← hn] at ha1 HLA hla ⊢
  rw [← hm] at hb1 HLB hlb ⊢
  have HN := Lib.hid hn; clear hn
  have HM := Lib.hid hm; clear hm
  unfold maxLen at ha2 hb2
  have hn63 : (n : Int) < 9223372036854775808 := by omega
  by_cases hnm : n = m
  · subst hnm
    have hne : ((n : Int) != (n : Int)) = false := by simp
    have hq : decide (a = b) = decide (∀ j, j < n → a[j]? = b[j]?) := by
      rw [decide_eq_decide]
      constructor
      · rintro rfl j _; rfl
      · intro h
        refine List.ext_getElem? fun j => ?_
        by_cases hj : j < n
        · exact h j hj
        · rw [List.getElem?_eq_none (by rw [← HN.out]; omega), List.getElem?_eq_none (by rw [← HM.out]; omega)]
    obtain ⟨r, hr⟩ : ∃ r, r = decide (a = b) := ⟨_, rfl⟩
    rw [← hr] at hq ⊢
    have HQ := Lib.hid hq; clear hq hr
    go_enter Try.func56, Try.ntmps56
    go_wp2_with fail
    go_loopw [5] (fun i W => ∃ j : Nat, j ≤ n ∧ i = .int .i64 (j : Int) ∧ (∀ k, k < j → a[k]? = b[k]?) ∧ Below w.heap.size w W) (fun i _ => n - (intOf i).toNat)
    case atStart => exact ⟨0, by omega, rfl, fun k hk => by omega, Below.refl _ _⟩
    case round =>
      obtain ⟨j, hj, rfl, hall, hB⟩ := hrel
      have HA := Lib.hid hall; clear hall
      by_cases hlt : j < n
      · have hlt' : (j : Int) < (n : Int) := by omega
        have hj0 : (0 : Int) ≤ (j : Int) := by omega
        have hna : a ≠ [] := by intro h; have := HN.out; rw [h] at this; simp at this; omega
        have hnb : b ≠ [] := by intro h; have := HM.out; rw [h] at this; simp at this; omega
        obtain ⟨ba, oa, ca', he1, _, _⟩ := HLA.out.form hna
        simp only [Value.slice.injEq] at he1
        obtain ⟨rfl, h9, rfl⟩ := he1
        clear h9
        obtain ⟨bb, ob, cb', he1, _, _⟩ := HLB.out.form hnb
        simp only [Value.slice.injEq] at he1
        obtain ⟨rfl, h9, rfl⟩ := he1
        clear h9
        have hja : j < a.length := by have := HN.out; omega
        have hjb : j < b.length := by have := HM.out; omega
        obtain ⟨u1, hca, hu1⟩ := (HLA.out.below (hB.drew)).cell (sp := none) (j := j) hja
        obtain ⟨u2, hcb, hu2⟩ := (HLB.out.below (hB.drew)).cell (sp := none) (j := j) hjb
        have HXA := Lib.hid hca
        have HXB := Lib.hid hcb
        have HU := Lib.hid (And.intro hu1 hu2)
        have HGA := Lib.hid (List.getElem?_eq_getElem hja)
        have HGB := Lib.hid (List.getElem?_eq_getElem hjb)
        clear hca hcb hu1 hu2
        generalize a[j] = x at *
        generalize b[j] = y at *
        clear hja hjb
        go_wp2_with fail
        refine wp_region_sched (fun W => W.cell? ⟨ba, oa + j, none⟩ = some u1 ∧ W.cell? ⟨bb, ob + j, none⟩ = some u2) [.t 0, .t 1, .t 2, .t 4, .t 5, .t 6, .s 3, .e 7 true, .e 8 false, .t 9] (by kernel_rfl) (by kernel_rfl) (by intro c a d v w h; cases d <;> exact h) ?_
        have HBD := Lib.hid hB.drew
        clear hB
        generalize wr.drew = V at *
        iterate 6
          refine wpS_t rfl (v := ?_) (by rfl) (fun W => ?_) ?_
          rotate_left
          · go_simp
            try rfl
          try simp only [Act.put, List.setIfInBounds_toArray, List.set_cons_zero, List.set_cons_succ]
        refine wpS_s (by exact ⟨HXA.out, HXB.out⟩) rfl (v := ?_) (by rfl) (fun W hSW => ?_) ?_
        rotate_left
        · go_simp
          try rfl
        try simp only [Act.put, List.setIfInBounds_toArray, List.set_cons_zero, List.set_cons_succ]
        have g := HXB.out
        refine wpS_k rfl (by rfl) (fun K hK => ?_)
        go_simp
        refine hK _ _ ⟨by exact ⟨HXA.out, HXB.out⟩, ?_⟩; clear hK K
        try simp only [Act.put, List.setIfInBounds_toArray, List.set_cons_zero, List.set_cons_succ]
        clear g
        refine wpS_e rfl (by rfl) (fun K hK => ?_)
        go_simp
        refine (same_bytes x y u1 u2 V HU.out.1 HU.out.2).mono ?_
        rintro e V1 ⟨rfl, hb⟩
        replace HBD := Lib.hid (HBD.out.trans (hb.mono HBD.out.size))
        clear hb HXA HXB HU
        by_cases hxy : x = y
        · rw [decide_eq_true hxy]
          have HE := Lib.hid hxy
          clear hxy
          refine hK _ _ ?_; clear hK K
          try simp only [Act.put, List.setIfInBounds_toArray, List.set_cons_zero, List.set_cons_succ]
          iterate 1
            refine wpS_t rfl (v := ?_) (by rfl) (fun W => ?_) ?_
            rotate_left
            · go_simp
              try rfl
            try simp only [Act.put, List.setIfInBounds_toArray, List.set_cons_zero, List.set_cons_succ]
          refine wpS_done ?_
          go_wp2_with fail
          refine ⟨⟨j + 1, by omega, by simp, fun k hk => ?_, HBD.out⟩, by simp [intOf]; omega⟩
          by_cases hkj : k < j
          · exact HA.out k hkj
          · have : k = j := by omega
            rw [this, HGA.out, HGB.out, HE.out]
        · rw [decide_eq_false hxy]
          have HNE := Lib.hid hxy
          clear hxy
          refine hK _ _ ?_; clear hK K
          try simp only [Act.put, List.setIfInBounds_toArray, List.set_cons_zero, List.set_cons_succ]
          iterate 1
            refine wpS_t rfl (v := ?_) (by rfl) (fun W => ?_) ?_
            rotate_left
            · go_simp
              try rfl
            try simp only [Act.put, List.setIfInBounds_toArray, List.set_cons_zero, List.set_cons_succ]
          refine wpS_done ?_
          have hr : r = false := by
            rw [HQ.out]
            simp only [decide_eq_false_iff_not]
            intro h
            have := h j hlt
            rw [HGA.out, HGB.out] at this
            exact HNE.out (by simpa using this)
          go_wp2_with fail
          exact bodyPost_ret (results_tmp rfl _ _ _) rfl ⟨by rw [hr]; rfl, HBD.out⟩
      · have hjn : j = n := by omega
        subst hjn
        have hr : r = true := by rw [HQ.out]; simpa using HA.out
        go_wp2_with fail
        exact bodyPost_ret (results_tmp rfl _ _ _) rfl ⟨by rw [hr]; rfl, hB⟩
  · have hne : ((n : Int) != (m : Int)) = true := by rw [bne_iff_ne]; omega
    have hne2 : ((n : Int) == (m : Int)) = false := by rw [beq_eq_false_iff_ne]; omega
    have hab : ¬ a = b := by intro h; have h1 := HN.out; rw [h, ← HM.out] at h1; exact hnm h1
    have HNE := Lib.hid hab
    clear hab
    go_enter Try.func56, Try.ntmps56
    go_wp2_with fail
    exact bodyPost_ret (results_tmp rfl _ _ _) rfl ⟨by rw [decide_eq_false HNE.out]; rfl, Below.refl _ _⟩
end Go.Proofs.Ytdkcndgehgmadaa
