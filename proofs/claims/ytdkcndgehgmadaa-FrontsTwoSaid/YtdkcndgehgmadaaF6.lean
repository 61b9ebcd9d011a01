/-
  Walks: the law FrontsRoot.
-/
import Derived.Test.YtdkcndgehgmadaaF5
open Go Go.RowKit Alm
namespace Go.Proofs.Ytdkcndgehgmadaa
set_option maxRecDepth 100000 in
set_option maxHeartbeats 1000000 in
theorem frontsRoot_any (l : List Sum) (v : Value) (often : Nat) (w : World) (hv : SumsAt w v l) (ho : often ≤ 255) : Calls Try.prog 6 #[v, .int .u8 (often : Int)] w fun e w' => e = .returned (.bool true) ∧ Below w.heap.size w w' := by
  have HV := Lib.hid hv
  obtain ⟨a, cap, rfl, h1, h2, h3⟩ := hv
  obtain ⟨n, hn⟩ : ∃ n, n = l.length := ⟨_, rfl⟩
  rw [← hn] at h1 HV ⊢
  have HN := Lib.hid hn; clear hn
  unfold maxLen at h2
  have ho' : (often : Int) ≤ 255 := by omega
  have ho0 : (0 : Int) ≤ (often : Int) := by omega
  by_cases hgt : 150 < n
  · have hgt' : (150 : Int) < (n : Int) := by omega
    go_enter Try.func6, Try.ntmps6
    go_wp2_with fail
    refine (alive_fronts w).mono ?_
    rintro e w1 ⟨rfl, hb⟩
    go_wp2_with fail
    exact bodyPost_ret (results_tmp rfl _ _ _) rfl ⟨rfl, hb⟩
  · have hle : ¬ (150 : Int) < (n : Int) := by omega
    have hn0 : (n : Int) ≤ 150 := by omega
    go_enter Try.func6, Try.ntmps6
    go_wp2_with fail
    refine (new_front w).mono ?_
    rintro e w1 ⟨rfl, hF, hB⟩
    obtain ⟨p, hp⟩ : ∃ p, p = w.heap.size := ⟨_, rfl⟩
    have HL := Lib.hid (Live.start (Below.refl _ _) hB (by rw [hp]; exact hF) hp : Live w w1 p [] [])
    rw [← hp]
    clear hp hF hB
    go_wp2_with fail
    go_loopw [6, 7] (fun i _ W => ∃ j : Nat, j ≤ n ∧ i = .int .i64 (j : Int) ∧ Live w W p (l.take j) []) (fun i _ _ => n - (intOf i).toNat)
    case atStart => exact ⟨0, by omega, rfl, HL.out⟩
    case round =>
      clear HL
      obtain ⟨j, hj, rfl, hL⟩ := hrel
      have HL := Lib.hid hL; clear hL
      by_cases hlt : j < n
      · have hlt' : (j : Int) < (n : Int) := by omega
        have hj0 : (0 : Int) ≤ (j : Int) := by omega
        obtain ⟨wo, hwo⟩ : ∃ wo : World, wo = wr := ⟨_, rfl⟩
        rw [← hwo] at HL ⊢
        clear hwo
        go_wp2_with fail
        go_loopw [7] (fun k W => ∃ q : Nat, q ≤ 4 ∧ k = .int .i64 (q : Int) ∧ Live w W p (l.take j) []) (fun k _ => 4 - (intOf k).toNat)
        case atStart => exact ⟨0, by omega, rfl, HL.out⟩
        case round =>
          clear HL
          obtain ⟨q, hq, rfl, hL⟩ := hrel
          have HL := Lib.hid hL; clear hL
          by_cases hql : (q : Int) < (often : Int) % 4
          · have hdq : decide ((q : Int) < (often : Int) % 4) = true := by simpa using hql
            go_wp2_with fail
            refine (live_root HL.out).mono ?_
            rintro e w3 ⟨rfl, hL, hb⟩
            have HL3 := Lib.hid hL; clear hL hb HL
            go_wp2_with fail
            refine (live_sums HL3.out).mono ?_
            rintro e w4 ⟨v4, rfl, hs, hL, hb⟩
            have HL4 := Lib.hid hL; clear hL hb HL3 hs
            go_wp2_with fail
            exact ⟨⟨q + 1, by omega, by simp, HL4.out⟩, by simp [intOf]; omega⟩
          · have hdq : decide ((q : Int) < (often : Int) % 4) = false := by simpa using hql
            have hne : l ≠ [] := by intro h; have := HN.out; rw [h] at this; simp at this; omega
            obtain ⟨b, o, rfl, hr⟩ := h3.resolve_left hne
            have hjl : j < l.length := by have := HN.out; omega
            have hbel := HL.out.all
            have hx := Lib.hid (range_below hbel (range_at hr hjl) (range_lt (range_at hr hjl) (by intro h; have := length_cellsOf l[j]; rw [h] at this; cases this)))
            have htk := Lib.hid (List.take_succ_eq_append_getElem hjl)
            generalize l[j] = x at *
            clear hr hbel hne
            go_wp2_with (refine wpList_load_sum rfl _ rfl b (o + j * 32) rfl x hx.out ?_)
            refine (live_add x HL.out (by rw [List.length_take]; omega)).mono ?_
            rintro e w3 ⟨rfl, hL, hk⟩
            rw [← htk.out] at hL
            have HL3 := Lib.hid hL; clear hL hk HL hx htk
            go_wp2_with fail
            exact ⟨⟨j + 1, by omega, by simp, HL3.out⟩, by simp [intOf]; omega⟩
      · have hjn : j = n := by omega
        subst hjn
        have htk : l.take j = l := List.take_of_length_le (by rw [HN.out]; exact Nat.le_refl _)
        rw [htk] at HL
        clear htk
        have hes := eq_sums_same
        go_wp2_with fail
        refine (alive_fronts wr).mono ?_
        rintro e w2 ⟨rfl, hb⟩
        have HL2 := Lib.hid (HL.out.below hb); clear hb HL
        go_wp2_with fail
        refine (live_root HL2.out).mono ?_
        rintro e w3 ⟨rfl, hL, hb⟩
        have HL3 := Lib.hid hL; clear hL hb HL2
        go_wp2_with fail
        refine (rt_any l _ _ (HV.out.below HL3.out.all (Nat.le_refl _))).mono ?_
        rintro e w4 ⟨rfl, hb⟩
        have HL4 := Lib.hid (HL3.out.below hb); clear hb HL3
        go_wp2_with fail
        refine (live_size HL4.out).mono ?_
        rintro e w5 ⟨rfl, rfl⟩
        rw [← HN.out]
        go_wp2_with fail
        exact bodyPost_ret (results_tmp rfl _ _ _) rfl ⟨rfl, HL4.out.all⟩
end Go.Proofs.Ytdkcndgehgmadaa
