/-
  Walks: the law FrontsBits.
-/
import Derived.Test.YtdkcndgehgmadaaF6
open Go Go.RowKit Alm
namespace Go.Proofs.Ytdkcndgehgmadaa
theorem bits_half (m : Nat) : Alm.bits m = Alm.bits (m / 2) + m % 2 := by
  by_cases h : m = 0
  · subst h; simp [bits_zero]
  · rw [Alm.bits, dif_neg h]
theorem keeps_setCells (b : Nat) : ∀ (vs : List Value) (o : Nat) (w : World), Keeps (· = b) w (w.setCells b o vs)
  | [], _, _ => Keeps.refl _ _
  | v :: r, o, w => by
    rw [World.setCells]
    exact ((Keeps.refl (· = b) w).setCell (p := ⟨b, o, none⟩) (.inl rfl) v).trans (keeps_setCells b r (o + 1) _)
/-- A variable of X written. -/
theorem Live.touch {w0 W W' : World} {p : Nat} {l : List Sum} {X : List Nat} {s : Nat} (h : Live w0 W p l X) (hk : Keeps (· = s) W W') (hs : s ∈ X) (h0 : w0.heap.size ≤ s) : Live w0 W' p l X := by
  obtain ⟨v, h1, h2, h3, h4, h5, h6⟩ := h
  exact ⟨v, h1.keep hk (fun e => h4 (e ▸ hs)) (fun k hv e => (h5 k hv).2 (e ▸ hs)), h2, h3.trans (hk.below h3.size (fun k hk => hk ▸ h0)), h4, h5, fun x hx => Nat.lt_of_lt_of_le (h6 x hx) hk.size⟩
set_option maxRecDepth 100000 in
set_option maxHeartbeats 2000000 in
theorem frontsBits_any (l : List Sum) (v : Value) (w : World) (hv : SumsAt w v l) : Calls Try.prog 7 #[v] w fun e w' => e = .returned (.bool true) ∧ Below w.heap.size w w' := by
  have HV := Lib.hid hv
  obtain ⟨a, cap, rfl, h1, h2, h3⟩ := hv
  obtain ⟨n, hn⟩ : ∃ n, n = l.length := ⟨_, rfl⟩
  rw [← hn] at h1 HV ⊢
  have HN := Lib.hid hn; clear hn
  unfold maxLen at h2
  by_cases hz : n = 0
  · subst hz
    go_enter Try.func7, Try.ntmps7
    go_wp2_with fail
    refine (alive_fronts w).mono ?_
    rintro e w1 ⟨rfl, hb⟩
    go_wp2_with fail
    exact bodyPost_ret (results_tmp rfl _ _ _) rfl ⟨rfl, hb⟩
  have hz' : ((n : Int) == 0) = false := by rw [beq_eq_false_iff_ne]; omega
  by_cases hgt : 150 < n
  · have hgt' : (150 : Int) < (n : Int) := by omega
    go_enter Try.func7, Try.ntmps7
    go_wp2_with fail
    refine (alive_fronts w).mono ?_
    rintro e w1 ⟨rfl, hb⟩
    go_wp2_with fail
    exact bodyPost_ret (results_tmp rfl _ _ _) rfl ⟨rfl, hb⟩
  have hle : ¬ (150 : Int) < (n : Int) := by omega
  have hn0 : (n : Int) ≤ 150 := by omega
  have hne : l ≠ [] := by intro h; have := HN.out; rw [h] at this; simp at this; omega
  obtain ⟨b, o, rfl, hr⟩ := h3.resolve_left hne
  have HR := Lib.hid hr; clear hr h3
  obtain ⟨r, x, hst, hfold⟩ := stk_root' nd e0 64 l hne (by have := HN.out; omega)
  rw [← rt_eq] at hfold
  have hbl : (stk nd e0 64 l).length = Alm.bits n := by rw [length_stk nd e0 64 l (by have := HN.out; omega), HN.out]
  rw [hst, List.length_append, List.length_singleton] at hbl
  obtain ⟨q, hq⟩ : ∃ q, q = r.length := ⟨_, rfl⟩
  rw [← hq] at hbl
  have hqb : q ≤ 150 := by have := bits_le n; omega
  have HST := Lib.hid hst; clear hst
  have HFO := Lib.hid hfold; clear hfold
  have HBL := Lib.hid hbl; clear hbl
  have HQ := Lib.hid hq; clear hq
  go_enter Try.func7, Try.ntmps7
  go_wp2_with fail
  refine (new_front w).mono ?_
  rintro e w1 ⟨rfl, hF, hB⟩
  obtain ⟨p, hp⟩ : ∃ p, p = w.heap.size := ⟨_, rfl⟩
  have HL := Lib.hid (Live.start (Below.refl _ _) hB (by rw [hp]; exact hF) hp : Live w w1 p [] [])
  rw [← hp]
  clear hp hF hB
  go_wp2_with fail
  go_loopw [4] (fun i W => ∃ j : Nat, j ≤ n ∧ i = .int .i64 (j : Int) ∧ Live w W p (l.take j) []) (fun i _ => n - (intOf i).toNat)
  case atStart => exact ⟨0, by omega, rfl, HL.out⟩
  case round =>
    clear HL
    obtain ⟨j, hj, rfl, hL⟩ := hrel
    have HL := Lib.hid hL; clear hL
    by_cases hlt : j < n
    · have hlt' : (j : Int) < (n : Int) := by omega
      have hj0 : (0 : Int) ≤ (j : Int) := by omega
      have hjl : j < l.length := by have := HN.out; omega
      have hbel := HL.out.all
      have hx := Lib.hid (range_below hbel (range_at HR.out hjl) (range_lt (range_at HR.out hjl) (by intro h; have := length_cellsOf l[j]; rw [h] at this; cases this)))
      have htk := Lib.hid (List.take_succ_eq_append_getElem hjl)
      generalize l[j] = y at *
      clear hbel
      go_wp2_with (refine wpList_load_sum rfl _ rfl b (o + j * 32) rfl y hx.out ?_)
      refine (live_add y HL.out (by rw [List.length_take]; omega)).mono ?_
      rintro e w3 ⟨rfl, hL, hk⟩
      rw [← htk.out] at hL
      have HL3 := Lib.hid hL; clear hL hk HL hx htk
      go_wp2_with fail
      exact ⟨⟨j + 1, by omega, by simp, HL3.out⟩, by simp [intOf]; omega⟩
    · have hjn : j = n := by omega
      subst hjn
      have htk : l.take j = l := List.take_of_length_le (by rw [HN.out]; exact Nat.le_refl _)
      rw [htk] at HL
      clear htk
      go_wp2_with fail
      refine (live_sums HL.out).mono ?_
      rintro e w2 ⟨v2, rfl, hs, hL, hb⟩
      rw [HST.out] at hs
      have HL2 := Lib.hid hL; clear hL hb HL
      rcases hs with ⟨_, h0⟩ | ⟨g, cap2, hv2, _, hc1, hc2, hgb, hgr, _⟩
      · simp at h0
      have hgw : g < w2.heap.size := range_lt hgr (by intro h; have := length_cellsAll (r ++ [x]); rw [h] at this; simp at this)
      rw [List.length_append, List.length_singleton, ← HQ.out] at hv2 hc1
      subst hv2
      have HG := Lib.hid hgr; clear hgr hgb
      unfold maxLen at hc2
      go_wp2_with fail
      go_loop [6, 7] (fun c m => ∃ c' m' : Nat, c = .int .i64 (c' : Int) ∧ m = .int .i64 (m' : Int) ∧ c' + Alm.bits m' = Alm.bits j ∧ m' ≤ j) (fun _ m => (intOf m).toNat)
      case atStart => exact ⟨0, j, rfl, rfl, by omega, Nat.le_refl _⟩
      case round =>
        obtain ⟨c, m, rfl, rfl, hcm, hmj⟩ := hrel
        rename_i hww
        clear hww
        have HC := Lib.hid hcm; clear hcm
        have hcb : (c : Int) ≤ 150 := by have := HC.out; have := bits_le j; omega
        have hc0 : (0 : Int) ≤ (c : Int) := by omega
        have hm0 : (0 : Int) ≤ (m : Int) := by omega
        have hm1 : (m : Int) ≤ 150 := by omega
        by_cases hm : 0 < m
        · have hm' : (0 : Int) < (m : Int) := by omega
          go_wp2_with fail
          have hh := bits_half m
          have := HC.out
          refine ⟨⟨c + m % 2, m / 2, ?_, ?_, ?_, by omega⟩, ?_⟩
          · simp
          · simp
          · omega
          · simp [intOf]; omega
        · have hm2 : m = 0 := by omega
          subst hm2
          have hcq : c = q + 1 := by have := HC.out; have := HBL.out; have := bits_zero; omega
          subst hcq
          have hne2 : (((q + 1 : Nat) : Int) != ((q + 1 : Nat) : Int)) = false := by simp
          have hxr : w2.rangeAt g (q * 32) (cellsOf x) := by
            have := range_at HG.out (i := q) (by rw [List.length_append, List.length_singleton, ← HQ.out]; omega)
            rw [Nat.zero_add] at this
            have e : (r ++ [x])[q]'(by rw [List.length_append, List.length_singleton, ← HQ.out]; omega) = x := by simp [List.getElem_append_right, HQ.out]
            rwa [e] at this
          have HX := Lib.hid hxr; clear hxr
          have hq0 : (0 : Int) ≤ (q : Int) := by omega
          have hq1 : (q : Int) ≤ 150 := by omega
          clear hcb hc0 hm0 hm1 hm hmj
          go_wp2_with (first
            | (refine wpList_load_sum rfl _ rfl g (q * 32) rfl x HX.out ?_)
            | (refine wpList_var_sum (by rfl) rfl _ _ rfl x rfl rfl ?_; intro W3 hb3 hr3 ht3 hlt3))
          have HL3 := Lib.hid (HL2.out.var hb3 hlt3)
          have HG3 := Lib.hid ((Keeps.of_below (X := fun _ => False) hb3).range HG.out (fun h => h))
          have hgs : g ≠ w2.heap.size := by omega
          have hws : w.heap.size ≤ w2.heap.size := HL2.out.all.size
          generalize w2.heap.size = s at *
          have HR3 := Lib.hid hr3
          have HT3 := Lib.hid ht3
          clear hb3 hr3 ht3 hlt3 HL2 HG hgw HX
          go_loopw [9] (fun i W => ∃ (m : Nat) (z : Int), i = .int .i64 z ∧ z = (m : Int) - 1 ∧ m ≤ q ∧ Live w W p l [s] ∧ W.rangeAt g 0 (cellsAll (r ++ [x])) ∧ W.rangeAt s 0 (cellsOf ((r.drop m).foldr nd x)) ∧ W.there s 0 32) (fun i _ => (intOf i + 1).toNat)
          case atStart => exact ⟨q, _, rfl, by omega, Nat.le_refl _, HL3.out, HG3.out, by rw [HQ.out, List.drop_length]; exact HR3.out, HT3.out⟩
          case round =>
            clear HL3 HG3 HR3 HT3
            obtain ⟨m, z, rfl, hz, hm, hL, hG, hR, hT⟩ := hrel
            have HL := Lib.hid hL; clear hL
            have HG := Lib.hid hG; clear hG
            have HRR := Lib.hid hR; clear hR
            have HT := Lib.hid hT; clear hT
            by_cases hm0 : m = 0
            · subst hm0
              have hz2 : z = -1 := by omega
              subst hz2
              clear hz
              have hfin := HRR.out
              rw [List.drop_zero, HFO.out] at hfin
              have HF := Lib.hid hfin; clear hfin HRR
              have hes := eq_sums_same
              go_wp2_with fail
              refine wp_region_sched (fun W => W.rangeAt s 0 (cellsOf (rt l))) [.e 0 true, .t 1, .t 3, .s 2, .e 4 true, .t 5, .t 6, .t 7] (by kernel_rfl) (by kernel_rfl) (by intro c a d v w h; cases d <;> exact h) ?_
              refine wpS_k rfl (by rfl) (fun K hK => ?_)
              go_simp
              refine (alive_fronts _).mono ?_
              rintro e w4 ⟨rfl, hb⟩
              have HL4 := Lib.hid ((HL.out.below (W' := wr.drew) (Below.refl _ _).drew).below hb)
              have HF4 := Lib.hid ((Keeps.of_below (X := fun _ => False) hb).range HF.out (fun h => h))
              clear hb
              refine hK _ _ ⟨by exact HF4.out, ?_⟩; clear hK K
              try simp only [Act.put, List.setIfInBounds_toArray, List.set_cons_zero, List.set_cons_succ]
              iterate 2
                refine wpS_t rfl (v := ?_) (by rfl) (fun W => ?_) ?_
                rotate_left
                · go_simp
                  try rfl
                try simp only [Act.put, List.setIfInBounds_toArray, List.set_cons_zero, List.set_cons_succ]
              refine wpS_load_sum (by exact HF4.out) rfl (by rfl) _ (by rfl) s 0 (by rfl) (rt l) (fun W hW => hW) ?_
              try simp only [Act.put, List.setIfInBounds_toArray, List.set_cons_zero, List.set_cons_succ]
              refine wpS_k rfl (by rfl) (fun K hK => ?_)
              go_simp
              refine (live_root HL4.out).mono ?_
              rintro e w5 ⟨rfl, hL, hb⟩
              have HL5 := Lib.hid hL
              have HF5 := Lib.hid ((Keeps.of_below (X := fun _ => False) hb).range HF4.out (fun h => h))
              clear hL hb
              refine hK _ _ ⟨by exact HF5.out, ?_⟩; clear hK K
              try simp only [Act.put, List.setIfInBounds_toArray, List.set_cons_zero, List.set_cons_succ]
              iterate 3
                refine wpS_t rfl (v := ?_) (by rfl) (fun W => ?_) ?_
                rotate_left
                · go_simp
                  try rfl
                try simp only [Act.put, List.setIfInBounds_toArray, List.set_cons_zero, List.set_cons_succ]
              refine wpS_done ?_
              go_wp2_with fail
              exact bodyPost_ret (results_tmp rfl _ _ _) rfl ⟨rfl, HL5.out.all⟩
            · obtain ⟨k, rfl⟩ : ∃ k, m = k + 1 := ⟨m - 1, by omega⟩
              have hz2 : z = (k : Int) := by omega
              subst hz2
              clear hz hm0
              have hkr : k < r.length := by rw [← HQ.out]; omega
              have hy : wr.rangeAt g (k * 32) (cellsOf r[k]) := by
                have := range_at HG.out (i := k) (by rw [List.length_append]; omega)
                rw [Nat.zero_add] at this
                rwa [List.getElem_append_left hkr] at this
              have hdr : r.drop k = r[k] :: r.drop (k + 1) := List.drop_eq_getElem_cons hkr
              generalize r[k] = y at *
              generalize hac : (r.drop (k + 1)).foldr nd x = ac at *
              have hnew : (r.drop k).foldr nd x = nd y ac := by rw [hdr, List.foldr_cons, hac]
              have HY := Lib.hid hy; clear hy
              have HN2 := Lib.hid hnew; clear hnew hdr hac
              have hk0 : (0 : Int) ≤ (k : Int) := by omega
              have hk1 : (k : Int) < (q : Int) + 1 := by omega
              go_wp2_with fail
              refine wp_region_sched (fun W => W.rangeAt g (k * 32) (cellsOf y)) [.t 0, .t 1, .t 2, .s 3, .e 4 true, .e 5 false, .e 6 false] (by kernel_rfl) (by kernel_rfl) (by intro c a d v w h; cases d <;> exact h) ?_
              iterate 3
                refine wpS_t rfl (v := ?_) (by rfl) (fun W => ?_) ?_
                rotate_left
                · go_simp
                  try rfl
                try simp only [Act.put, List.setIfInBounds_toArray, List.set_cons_zero, List.set_cons_succ]
              refine wpS_load_sum (by exact HY.out) rfl (by rfl) _ (by rfl) g (k * 32) (by rfl) y (fun W hW => hW) ?_
              try simp only [Act.put, List.setIfInBounds_toArray, List.set_cons_zero, List.set_cons_succ]
              refine wpS_k rfl (by rfl) (fun K hK => ?_)
              refine wp_load_sum _ (by rfl) s 0 (by rfl) ac (by exact HRR.out) ?_
              refine hK _ _ ⟨by exact HY.out, ?_⟩; clear hK K
              try simp only [Act.put, List.setIfInBounds_toArray, List.set_cons_zero, List.set_cons_succ]
              refine wpS_e rfl (by rfl) (fun K hK => ?_)
              go_simp
              refine (nd_any y ac _).mono ?_
              rintro e w4 ⟨rfl, hb⟩
              have hk4 := Keeps.of_below (X := fun _ => False) hb
              have HL4 := Lib.hid ((HL.out.below (W' := wr.drew) (Below.refl _ _).drew).below hb)
              have HG4 := Lib.hid (hk4.range HG.out (fun h => h))
              have HT4 := Lib.hid (hk4.there HT.out (by omega) (fun h => h))
              clear hk4 hb HL HG HT HRR HY
              refine hK _ _ ?_; clear hK K
              try simp only [Act.put, List.setIfInBounds_toArray, List.set_cons_zero, List.set_cons_succ]
              refine wpS_e rfl (by rfl) (fun K hK => ?_)
              refine wp_store_sum _ _ (by rfl) s 0 (nd y ac) (by rfl) (by rfl) HT4.out ?_
              refine hK _ _ ?_; clear hK K
              try simp only [Act.put, List.setIfInBounds_toArray, List.set_cons_zero, List.set_cons_succ]
              refine wpS_done ?_
              have hbs : Keeps (· = s) w4 (w4.setCells s 0 (cellsOf (nd y ac))) := keeps_setCells s _ _ _
              have HT5 := Lib.hid (World.there_setCells HT4.out s 0 (cellsOf (nd y ac)))
              have HR5 := Lib.hid (range_stored s (cellsOf (nd y ac)) 0 w4 (by rw [length_cellsOf]; exact World.there_setCells HT4.out s 0 (cellsOf (nd y ac))))
              have HG5 := Lib.hid (hbs.range HG4.out hgs)
              have HL5 := Lib.hid (HL4.out.touch hbs (by simp) hws)
              generalize w4.setCells s 0 (cellsOf (nd y ac)) = w5 at *
              clear hbs HT4 HG4 HL4
              go_wp2_with fail
              exact ⟨⟨k, _, rfl, by omega, by omega, HL5.out, HG5.out, by rw [HN2.out]; exact HR5.out, HT5.out⟩, by simp [intOf]⟩
end Go.Proofs.Ytdkcndgehgmadaa
