/-
  Walk: a Book looks at the pairs that it holds (lookPair).
-/
import Derived.Test.YtfmgoehnbaiamaaGreatDoorZBQ
import Derived.Test.YtfmgoehnbaiamaaGreatDoorBL6
open Go Go.RowKit Alm
namespace Go.Proofs.YtfmgoehnbaiamaaGreatDoor
set_option maxRecDepth 100000 in
set_option maxHeartbeats 1000000 in
theorem lookPair_any (base q n : Nat) (hv : Value) (F : Nat → Value) (H : List Held) (a : Nat → Nat) (w : World) (hb : Book w q n F) (hF : F 6 = hv) (hrow : Row3 w 140 base q hv H) (h1 : ∀ i, i < H.length → Lie w base 33 (lst H i) (List.replicate (a i) (mkP (num H i)))) (h2 : ∀ i, i < H.length → Lie w base 33 (lng H i) (List.replicate (a i + 40) (mkP (num H i)))) (hN : ∀ i, i < H.length → num H i < 256) (hA : ∀ i, i < H.length → a i < 900000) (hH : H.length < 100000) :
    Calls Tryz.prog 90 #[.pointer (some ⟨q, 0, none⟩)] w fun e w' => e = .returned (.bool true) ∧ Below w.heap.size w w' := by
  obtain ⟨ah, ch, hform⟩ := hrow.form
  obtain ⟨N, hNN⟩ : ∃ N, N = H.length := ⟨_, rfl⟩
  rw [← hNN] at hform
  subst hform
  have H0 := Lib.hid (And.intro hb (And.intro hrow (And.intro h1 h2)))
  have HH := Lib.hid (And.intro hN (And.intro hA (And.intro hH (And.intro hNN hF))))
  clear hb hF hrow h1 h2 hN hA hH hNN
  go_enter Tryz.func90, Tryz.ntmps90
  go_wp2_with fail
  go_loopw [3] (fun iv W => ∃ i : Nat, i ≤ N ∧ iv = .int .i64 (i : Int) ∧ Below w.heap.size w W) (fun iv _ => N - (intOf iv).toNat)
  case atStart => exact ⟨0, by omega, rfl, Below.refl _ _⟩
  case round =>
    obtain ⟨i, hi, rfl, hG⟩ := hrel
    have HB := Lib.hid hG
    have g5 : wr.cell? ⟨q, 6, none⟩ = some (.slice ah N ch) := by rw [← HH.out.2.2.2.2]; exact (H0.out.1.below hG).cs 6 (by omega) (by omega)
    clear hG
    by_cases hlt : i < N
    · obtain ⟨c1, c1', hj0, hlt'⟩ := dec_lt hlt
      have hiH : i < H.length := by rw [← HH.out.2.2.2.1]; exact hlt
      obtain ⟨gH, capH, he, _, _, _, hat⟩ := (H0.out.2.1.below HB.out).at hiH
      rw [← HH.out.2.2.2.1] at he
      simp only [Value.slice.injEq, true_and] at he
      obtain ⟨rfl, rfl⟩ := he
      obtain ⟨m, hm⟩ : ∃ m, m = a i := ⟨_, rfl⟩
      obtain ⟨M, hM⟩ : ∃ M, M = m + 40 := ⟨_, rfl⟩
      obtain ⟨nm, hnm⟩ : ∃ x, x = num H i := ⟨_, rfl⟩
      have hl1 := H0.out.2.2.1 i hiH
      have hl2 := H0.out.2.2.2 i hiH
      rw [← hm, ← hnm] at hl1 hl2
      rw [← hM] at hl2
      obtain ⟨al, cl, hfl⟩ := lie_repl hl1
      obtain ⟨gL, cL, hfL⟩ := lie_some hl2 (by rw [hM]; exact Nat.succ_pos _)
      have hcl : cellsH (hd H i) = cellsH (.slice al m cl, .slice (some ⟨gL, 0, none⟩) M cL, nm) := by
        rw [← hfl, ← hfL, hnm]; rfl
      rw [hcl] at hat
      rw [hfl] at hl1
      rw [hfL] at hl2
      have hm9 : m < 900000 := by rw [hm]; exact HH.out.2.1 i hiH
      have hnm9 : nm < 256 := by rw [hnm]; exact HH.out.1 i hiH
      have hu : nm < 256 := hnm9
      obtain ⟨hwM, hM0, hm0⟩ := wrap_40 hM hm9
      have HF := Lib.hid (And.intro hl1 (And.intro hl2 (And.intro hM (And.intro hu hm9))))
      have HWM := Lib.hid (And.intro hwM hM0)
      clear hfl hfL hm hM hnm hcl hiH hl1 hl2 hnm9 hu hm9 hwM hM0
      have HG := Lib.hid trivial
      have HAT := Lib.hid hat
      clear hat
      go_wp2_with (first
        | (refine wpList_load_heldP rfl _ rfl gH (i * 3) rfl _ HAT.out ?_)
        | (have _ := HG; refine wpList_var_heldP (by rfl) rfl _ _ rfl (.slice al m cl, .slice (some ⟨gL, 0, none⟩) M cL, nm) rfl rfl (by rfl) (by rfl) ?_; clear HG))
      intro W2 hb hr2
      obtain ⟨bx, hbx⟩ : ∃ z, z = wr.heap.size := ⟨_, rfl⟩
      rw [← hbx] at hr2 ⊢
      have H2 := Lib.hid (And.intro hb hr2)
      have HB2 := Lib.hid (HB.out.trans (hb.mono HB.out.size))
      have g0 : W2.cell? ⟨bx, 0, none⟩ = some (.slice al m cl) := hr2 0 _ rfl
      have g1 : W2.cell? ⟨bx, 1, none⟩ = some (.slice (some ⟨gL, 0, none⟩) M cL) := hr2 1 _ rfl
      clear hb hr2 hbx
      have hwM := HWM.out.1
      have hM0 := HWM.out.2
      go_wp2_with fail
      clear g5 g0 g1 hwM hM0
      go_loopw [5] (fun kv V => ∃ k : Nat, k ≤ M ∧ kv = .int .i64 (k : Int) ∧ Below W2.heap.size W2 V) (fun kv _ => M - (intOf kv).toNat)
      case atStart => exact ⟨0, Nat.zero_le _, rfl, Below.refl _ _⟩
      case round =>
        obtain ⟨k, hk, rfl, hK⟩ := hrel
        have hX : wr.rangeAt bx 0 (cellsH (.slice al m cl, .slice (some ⟨gL, 0, none⟩) M cL, nm)) := (Keeps.of_below (X := fun _ => False) hK).range H2.out.2 (fun h => h)
        have g1 : wr.cell? ⟨bx, 1, none⟩ = some (.slice (some ⟨gL, 0, none⟩) M cL) := hX 1 _ rfl
        have HKK := Lib.hid hK
        by_cases hkm : k < M
        · obtain ⟨d1, d1', hk0, hkm'⟩ := dec_lt hkm
          have hMe : decide ((k : Int) < (m : Int) + 40) = true := by rw [← HWM.out.2]; exact d1'
          have hMl : (k : Int) < (m : Int) + 40 := by rw [← HWM.out.2]; exact hkm'
          have hd := (Below.refl wr.heap.size wr).drew
          have hL2 : wr.drew.rangeAt gL (k * 33) (encP (pkP nm)) := lie_mark (((HF.out.2.1.below HB2.out).below hK).below hd) hkm
          have hX2 := (Keeps.of_below (X := fun _ => False) hd).range hX (fun h => h)
          have HJ := Lib.hid (And.intro hL2 (And.intro hX2 hd))
          have HCm := Lib.hid (fun W => isPair_any nm W HF.out.2.2.2.1)
          have hwk : wrap64 ((k : Int) + 1) = ((k + 1 : Nat) : Int) := wrap_next (m := 999999) (by have := HF.out.2.2.1; have := HF.out.2.2.2.2; omega) (by decide)
          have HWK := Lib.hid hwk
          clear hL2 hX2 hX hd hK hwk
          by_cases hkn : k < m
          · obtain ⟨e1, e1', _, hkn'⟩ := dec_lt hkn
            obtain ⟨gi, ci, hgi⟩ := lie_some HF.out.1 (Nat.lt_of_le_of_lt (Nat.zero_le _) hkn)
            simp only [Value.slice.injEq, true_and] at hgi
            obtain ⟨rfl, rfl⟩ := hgi
            have hS2 : wr.drew.rangeAt gi (k * 33) (encP (pkP nm)) := lie_mark (((HF.out.1.below HB2.out).below HKK.out).below HJ.out.2.2) hkn
            have HS := Lib.hid hS2
            clear hS2
            go_wp2_with fail
            refine wp_region_sched (fun V => Below wr.drew.heap.size wr.drew V) [.t 0, .t 2, .t 5, .s 1, .t 3, .s 4, .e 6 true, .e 7 true, .t 8, .t 9, .t 10, .t 11, .e 12 true, .t 13, .t 14, .t 15, .t 16, .t 18, .t 21, .s 17, .t 19, .s 20, .e 22 true, .e 23 false, .t 24, .t 25, .t 26] (by kernel_rfl) (by kernel_rfl) (by intro c a d v w h; cases d <;> exact h) ?_
            change wpS _ _ _ _ _ _ _ wr.drew
            have hsz : wr.drew.heap.size = wr.heap.size := rfl
            have hKd : Below W2.heap.size W2 wr.drew := HKK.out.drew
            have HKD := Lib.hid hKd
            clear hsz hKd g1 HKK
            generalize wr.drew = V at *
            iterate 3
              refine wpS_t rfl (v := ?_) (by rfl) (fun W => ?_) ?_
              rotate_left
              · go_simp
                try rfl
              try simp only [Act.put, List.setIfInBounds_toArray, List.set_cons_zero, List.set_cons_succ]
            refine wpS_s (Below.refl _ _) rfl (v := .slice (some ⟨gL, 0, none⟩) M cL) (by rfl) (fun W hW => ?_) ?_
            · have g : W.cell? ⟨bx, 1, none⟩ = some (.slice (some ⟨gL, 0, none⟩) M cL) := (Keeps.of_below (X := fun _ => False) hW).cell (HJ.out.2.1 1 _ rfl) (fun h => h)
              go_simp
            try simp only [Act.put, List.setIfInBounds_toArray, List.set_cons_zero, List.set_cons_succ]
            iterate 1
              refine wpS_t rfl (v := ?_) (by rfl) (fun W => ?_) ?_
              rotate_left
              · go_simp
                try rfl
              try simp only [Act.put, List.setIfInBounds_toArray, List.set_cons_zero, List.set_cons_succ]
            refine wpS_load_mid (Below.refl _ _) rfl (by rfl) _ _ rfl gL (k * 33) (by rfl) (encP (pkP nm)) _ (fun W hW => (Keeps.of_below (X := fun _ => False) hW).range HJ.out.1 (fun h => h)) Tryz.underlying41 rfl (by rw [length_encP]; exact infoPair33) ?_
            try simp only [Act.put, List.setIfInBounds_toArray, List.set_cons_zero, List.set_cons_succ]
            refine wpS_k rfl (by rfl) (fun K hK => ?_)
            have g : V.cell? ⟨bx, 2, none⟩ = some (.int .i64 ((nm : Nat) : Int)) := HJ.out.2.1 2 _ rfl
            go_simp
            refine hK _ _ ⟨Below.refl _ _, ?_⟩; clear hK K
            try simp only [Act.put, List.setIfInBounds_toArray, List.set_cons_zero, List.set_cons_succ]
            clear g
            refine wpS_k rfl (by rfl) (fun K hK => ?_)
            go_simp
            refine (HCm.out V).mono ?_
            rintro e V2 ⟨rfl, hb2⟩
            have HV2 := Lib.hid hb2
            clear hb2
            refine hK _ _ ⟨HV2.out, ?_⟩; clear hK K
            try simp only [Act.put, List.setIfInBounds_toArray, List.set_cons_zero, List.set_cons_succ]
            iterate 4
              refine wpS_t rfl (v := ?_) (by rfl) (fun W => ?_) ?_
              rotate_left
              · go_simp
                try rfl
              try simp only [Act.put, List.setIfInBounds_toArray, List.set_cons_zero, List.set_cons_succ]
            refine wpS_k rfl (by rfl) (fun K hK => ?_)
            have g : V2.cell? ⟨bx, 0, none⟩ = some (.slice (some ⟨gi, 0, none⟩) m cl) := (Keeps.of_below (X := fun _ => False) HV2.out).cell (HJ.out.2.1 0 _ rfl) (fun h => h)
            go_simp
            refine hK _ _ ⟨HV2.out, ?_⟩; clear hK K
            try simp only [Act.put, List.setIfInBounds_toArray, List.set_cons_zero, List.set_cons_succ]
            clear g
            iterate 3
              refine wpS_t rfl (v := ?_) (by rfl) (fun W => ?_) ?_
              rotate_left
              · go_simp
                try rfl
              try simp only [Act.put, List.setIfInBounds_toArray, List.set_cons_zero, List.set_cons_succ]
            iterate 3
              refine wpS_t rfl (v := ?_) (by rfl) (fun W => ?_) ?_
              rotate_left
              · go_simp
                try rfl
              try simp only [Act.put, List.setIfInBounds_toArray, List.set_cons_zero, List.set_cons_succ]
            refine wpS_s HV2.out rfl (v := .slice (some ⟨gi, 0, none⟩) m cl) (by rfl) (fun W hW => ?_) ?_
            · have g : W.cell? ⟨bx, 0, none⟩ = some (.slice (some ⟨gi, 0, none⟩) m cl) := (Keeps.of_below (X := fun _ => False) hW).cell (HJ.out.2.1 0 _ rfl) (fun h => h)
              go_simp
            try simp only [Act.put, List.setIfInBounds_toArray, List.set_cons_zero, List.set_cons_succ]
            iterate 1
              refine wpS_t rfl (v := ?_) (by rfl) (fun W => ?_) ?_
              rotate_left
              · go_simp
                try rfl
              try simp only [Act.put, List.setIfInBounds_toArray, List.set_cons_zero, List.set_cons_succ]
            refine wpS_load_mid HV2.out rfl (by rfl) _ _ rfl gi (k * 33) (by rfl) (encP (pkP nm)) _ (fun W hW => (Keeps.of_below (X := fun _ => False) hW).range HS.out (fun h => h)) Tryz.underlying41 rfl (by rw [length_encP]; exact infoPair33) ?_
            try simp only [Act.put, List.setIfInBounds_toArray, List.set_cons_zero, List.set_cons_succ]
            refine wpS_k rfl (by rfl) (fun K hK => ?_)
            have g : V2.cell? ⟨bx, 2, none⟩ = some (.int .i64 ((nm : Nat) : Int)) := (Keeps.of_below (X := fun _ => False) HV2.out).cell (HJ.out.2.1 2 _ rfl) (fun h => h)
            go_simp
            refine hK _ _ ⟨HV2.out, ?_⟩; clear hK K
            try simp only [Act.put, List.setIfInBounds_toArray, List.set_cons_zero, List.set_cons_succ]
            clear g
            refine wpS_e rfl (by rfl) (fun K hK => ?_)
            go_simp
            refine (HCm.out V2).mono ?_
            rintro e V3 ⟨rfl, hb3⟩
            have HV3 := Lib.hid (HV2.out.trans (hb3.mono HV2.out.size))
            clear hb3
            refine hK _ _ ?_; clear hK K
            try simp only [Act.put, List.setIfInBounds_toArray, List.set_cons_zero, List.set_cons_succ]
            iterate 3
              refine wpS_t rfl (v := ?_) (by rfl) (fun W => ?_) ?_
              rotate_left
              · go_simp
                try rfl
              try simp only [Act.put, List.setIfInBounds_toArray, List.set_cons_zero, List.set_cons_succ]
            refine wpS_done ?_
            go_wp2_with fail
            have hfin : Below W2.heap.size W2 V3 := HKD.out.trans (HV3.out.mono HKD.out.size)
            have hki : (k : Int) + 1 = ((k + 1 : Nat) : Int) := rfl
            rw [hki]
            clear HJ HKD HS HCm HF H2 HAT
            exact ⟨⟨k + 1, hkm, rfl, hfin⟩, by simp only [intOf, Int.toNat_natCast]; omega⟩
          · obtain ⟨e1, e1', hkn'⟩ : decide (k < m) = false ∧ decide ((k : Int) < (m : Int)) = false ∧ ¬ (k : Int) < (m : Int) := ⟨by simpa using hkn, by simpa using hkn, by omega⟩
            go_wp2_with fail
            refine wp_region_sched (fun V => Below wr.drew.heap.size wr.drew V) [.t 0, .t 2, .t 5, .s 1, .t 3, .s 4, .e 6 true, .e 7 true, .t 8, .t 9, .t 10, .t 11, .e 12 true, .t 13, .t 14, .t 15, .t 16, .t 18, .t 21, .s 17, .t 19, .s 20, .e 22 true, .e 23 false, .t 24, .t 25, .t 26] (by kernel_rfl) (by kernel_rfl) (by intro c a d v w h; cases d <;> exact h) ?_
            change wpS _ _ _ _ _ _ _ wr.drew
            have hsz : wr.drew.heap.size = wr.heap.size := rfl
            have hKd : Below W2.heap.size W2 wr.drew := HKK.out.drew
            have HKD := Lib.hid hKd
            clear hsz hKd g1 HKK
            generalize wr.drew = V at *
            iterate 3
              refine wpS_t rfl (v := ?_) (by rfl) (fun W => ?_) ?_
              rotate_left
              · go_simp
                try rfl
              try simp only [Act.put, List.setIfInBounds_toArray, List.set_cons_zero, List.set_cons_succ]
            refine wpS_s (Below.refl _ _) rfl (v := .slice (some ⟨gL, 0, none⟩) M cL) (by rfl) (fun W hW => ?_) ?_
            · have g : W.cell? ⟨bx, 1, none⟩ = some (.slice (some ⟨gL, 0, none⟩) M cL) := (Keeps.of_below (X := fun _ => False) hW).cell (HJ.out.2.1 1 _ rfl) (fun h => h)
              go_simp
            try simp only [Act.put, List.setIfInBounds_toArray, List.set_cons_zero, List.set_cons_succ]
            iterate 1
              refine wpS_t rfl (v := ?_) (by rfl) (fun W => ?_) ?_
              rotate_left
              · go_simp
                try rfl
              try simp only [Act.put, List.setIfInBounds_toArray, List.set_cons_zero, List.set_cons_succ]
            refine wpS_load_mid (Below.refl _ _) rfl (by rfl) _ _ rfl gL (k * 33) (by rfl) (encP (pkP nm)) _ (fun W hW => (Keeps.of_below (X := fun _ => False) hW).range HJ.out.1 (fun h => h)) Tryz.underlying41 rfl (by rw [length_encP]; exact infoPair33) ?_
            try simp only [Act.put, List.setIfInBounds_toArray, List.set_cons_zero, List.set_cons_succ]
            refine wpS_k rfl (by rfl) (fun K hK => ?_)
            have g : V.cell? ⟨bx, 2, none⟩ = some (.int .i64 ((nm : Nat) : Int)) := HJ.out.2.1 2 _ rfl
            go_simp
            refine hK _ _ ⟨Below.refl _ _, ?_⟩; clear hK K
            try simp only [Act.put, List.setIfInBounds_toArray, List.set_cons_zero, List.set_cons_succ]
            clear g
            refine wpS_k rfl (by rfl) (fun K hK => ?_)
            go_simp
            refine (HCm.out V).mono ?_
            rintro e V2 ⟨rfl, hb2⟩
            have HV2 := Lib.hid hb2
            clear hb2
            refine hK _ _ ⟨HV2.out, ?_⟩; clear hK K
            try simp only [Act.put, List.setIfInBounds_toArray, List.set_cons_zero, List.set_cons_succ]
            iterate 4
              refine wpS_t rfl (v := ?_) (by rfl) (fun W => ?_) ?_
              rotate_left
              · go_simp
                try rfl
              try simp only [Act.put, List.setIfInBounds_toArray, List.set_cons_zero, List.set_cons_succ]
            refine wpS_k rfl (by rfl) (fun K hK => ?_)
            have g : V2.cell? ⟨bx, 0, none⟩ = some (.slice al m cl) := (Keeps.of_below (X := fun _ => False) HV2.out).cell (HJ.out.2.1 0 _ rfl) (fun h => h)
            go_simp
            refine hK _ _ ⟨HV2.out, ?_⟩; clear hK K
            try simp only [Act.put, List.setIfInBounds_toArray, List.set_cons_zero, List.set_cons_succ]
            clear g
            iterate 3
              refine wpS_t rfl (v := ?_) (by rfl) (fun W => ?_) ?_
              rotate_left
              · go_simp
                try rfl
              try simp only [Act.put, List.setIfInBounds_toArray, List.set_cons_zero, List.set_cons_succ]
            iterate 3
              refine wpS_t_skip rfl (by rfl) ?_
              try simp only [Act.put, List.setIfInBounds_toArray, List.set_cons_zero, List.set_cons_succ]
            iterate 1
              refine wpS_s_skip (HV2.out) rfl (by rfl) ?_
              try simp only [Act.put, List.setIfInBounds_toArray, List.set_cons_zero, List.set_cons_succ]
            iterate 1
              refine wpS_t_skip rfl (by rfl) ?_
              try simp only [Act.put, List.setIfInBounds_toArray, List.set_cons_zero, List.set_cons_succ]
            iterate 1
              refine wpS_s_skip (HV2.out) rfl (by rfl) ?_
              try simp only [Act.put, List.setIfInBounds_toArray, List.set_cons_zero, List.set_cons_succ]
            refine wpS_k_skip (HV2.out) rfl (by rfl) ?_
            try simp only [Act.put, List.setIfInBounds_toArray, List.set_cons_zero, List.set_cons_succ]
            refine wpS_e_skip rfl (by rfl) ?_
            try simp only [Act.put, List.setIfInBounds_toArray, List.set_cons_zero, List.set_cons_succ]
            iterate 1
              refine wpS_t_skip rfl (by rfl) ?_
              try simp only [Act.put, List.setIfInBounds_toArray, List.set_cons_zero, List.set_cons_succ]
            iterate 2
              refine wpS_t rfl (v := ?_) (by rfl) (fun W => ?_) ?_
              rotate_left
              · go_simp
                try rfl
              try simp only [Act.put, List.setIfInBounds_toArray, List.set_cons_zero, List.set_cons_succ]
            refine wpS_done ?_
            go_wp2_with fail
            have hfin : Below W2.heap.size W2 V2 := HKD.out.trans (HV2.out.mono HKD.out.size)
            have hki : (k : Int) + 1 = ((k + 1 : Nat) : Int) := rfl
            rw [hki]
            clear HJ HKD HCm HF H2 HAT
            exact ⟨⟨k + 1, hkm, rfl, hfin⟩, by simp only [intOf, Int.toNat_natCast]; omega⟩
        · obtain rfl : k = M := by omega
          have hMl : ¬ (k : Int) < (m : Int) + 40 := by rw [← HWM.out.2]; exact Int.lt_irrefl _
          have hMe : decide ((k : Int) < (m : Int) + 40) = false := decide_eq_false hMl
          have hwi : wrap64 ((i : Int) + 1) = ((i + 1 : Nat) : Int) := wrap_next (m := 100000) (by have := HH.out.2.2.1; have := HH.out.2.2.2.1; omega) (by decide)
          have HWI := Lib.hid hwi
          have HEND := Lib.hid (HB2.out.trans (hK.mono HB2.out.size))
          clear hwi hK HKK hX
          go_wp2_with fail
          have hfin := HEND.out
          rw [HWI.out]
          clear HF H2 HAT HEND HWM HWI HB2 HB H0
          exact ⟨⟨i + 1, hlt, rfl, hfin⟩, by simp only [intOf, Int.toNat_natCast]; omega⟩
    · have hjn : i = N := by omega
      subst hjn
      go_wp2_with fail
      exact bodyPost_ret (results_tmp rfl _ _ _) rfl ⟨rfl, HB.out⟩
end Go.Proofs.YtfmgoehnbaiamaaGreatDoor
