/-
  Merged: S2, S3, S4, S5, S6, S7.
-/
import Derived.Test.YtfmgoehnbaiamaaZU
import Derived.Test.YtfmgoehnbaiamaaZV
-- Walks: rows of sums that are new; slices.Clip and Reverse of sums.
open Go Go.RowKit Alm
namespace Go.Proofs.Ytfmgoehnbaiamaa
/-- A row of sums that is new (from base on), or nil. -/
def SumsNew (w : World) (base : Nat) (v : Value) (l : List Sum) : Prop :=
  (v = .slice none 0 0 ∧ l = []) ∨ ∃ g cap, v = .slice (some ⟨g, 0, none⟩) l.length cap ∧ l ≠ [] ∧ l.length ≤ cap ∧ cap ≤ maxLen ∧ base ≤ g ∧ w.rangeAt g 0 (cellsAll l) ∧ w.there g 0 (32 * l.length)
theorem SumsNew.sums {w : World} {base : Nat} {v : Value} {l : List Sum} (h : SumsNew w base v l) : SumsAt w v l := by
  rcases h with ⟨rfl, rfl⟩ | ⟨g, cap, rfl, h0, h1, h2, h3, h4, h5⟩
  · exact ⟨none, 0, rfl, Nat.le_refl _, by unfold maxLen; omega, .inl rfl⟩
  · exact ⟨_, cap, rfl, h1, h2, .inr ⟨g, 0, rfl, h4⟩⟩
theorem SumsNew.own {w : World} {base : Nat} {v : Value} {l : List Sum} (h : SumsNew w base v l) : ∀ k, v.ownBlock = some k → base ≤ k := by
  intro k hk
  rcases h with ⟨rfl, rfl⟩ | ⟨g, cap, rfl, h0, h1, h2, h3, h4, h5⟩
  · cases hk
  · simp only [Value.ownBlock, Option.some.injEq] at hk; omega
theorem SumsNew.keep {X : Nat → Prop} {w w' : World} {base : Nat} {v : Value} {l : List Sum} (h : SumsNew w base v l) (hk : Keeps X w w') (hv : ∀ k, v.ownBlock = some k → ¬ X k) : SumsNew w' base v l := by
  rcases h with ⟨rfl, rfl⟩ | ⟨g, cap, rfl, h0, h1, h2, h3, h4, h5⟩
  · exact .inl ⟨rfl, rfl⟩
  · exact .inr ⟨g, cap, rfl, h0, h1, h2, h3, hk.range h4 (hv g rfl), hk.there h5 (by have := List.length_pos_iff.2 h0; omega) (hv g rfl)⟩
theorem SumsNew.mono {w : World} {base base' : Nat} {v : Value} {l : List Sum} (h : SumsNew w base v l) (hb : base' ≤ base) : SumsNew w base' v l := by
  rcases h with h | ⟨g, cap, rfl, h0, h1, h2, h3, h4, h5⟩
  · exact .inl h
  · exact .inr ⟨g, cap, rfl, h0, h1, h2, by omega, h4, h5⟩
theorem own_new {w : World} {base : Nat} {v : Value} {l : List Sum} (h : w.ownsRow base 29 32 v l.length (cellsAll l)) (h0 : l ≠ []) : SumsNew w base v l := by
  rcases h.2 with ⟨_, h2⟩ | ⟨g, cap, cur, rfl, hb, hg, hnc, hcm, hsz, htk⟩
  · exact (h0 (List.length_eq_zero_iff.1 h2)).elim
  · refine .inr ⟨g, cap, rfl, h0, hnc, hcm, hb, own_sum_range h, fun j hj => ⟨?_, frozen_of_row w g _ cur _ hg⟩⟩
    rw [cell_of_row w g _ cur _ (0, 0) hg, Nat.zero_add, Array.getElem?_eq_getElem (by rw [hsz]; omega)]; rfl
theorem own_new' {w : World} {base : Nat} {v : Value} {l : List Sum} (h : w.ownsRow base 29 32 v l.length (cellsAll l)) (h0 : l = [] → v = .slice none 0 0) : SumsNew w base v l := by
  by_cases hl : l = []
  · exact .inl ⟨h0 hl, hl⟩
  · exact own_new h hl
theorem clip_sums (w : World) (base : Nat) (v : Value) (l : List Sum) (h : SumsNew w base v l) : Calls Try.prog 64 #[v] w fun e w' => ∃ v', e = .returned v' ∧ SumsNew w base v' l ∧ w = w' := by
  rcases h with ⟨rfl, rfl⟩ | ⟨g, cap, rfl, h0, h1, h2, h3, h4, h5⟩
  · go_enter Try.func64, Try.ntmps64
    go_wp2_with fail
    exact bodyPost_ret (results_tmp rfl _ _ _) rfl ⟨_, rfl, .inl ⟨rfl, rfl⟩, rfl⟩
  · have hn : SumsNew w base (.slice (some ⟨g, 0, none⟩) l.length l.length) l := .inr ⟨g, l.length, rfl, h0, Nat.le_refl _, by omega, h3, h4, h5⟩
    have HN := Lib.hid hn; clear hn
    clear h4 h5
    obtain ⟨n, hn⟩ : ∃ n, n = l.length := ⟨_, rfl⟩
    rw [← hn] at HN h1 ⊢
    have HH := Lib.hid hn; clear hn
    have k1 : (n : Int) ≤ (cap : Int) := by omega
    unfold maxLen at h2
    go_enter Try.func64, Try.ntmps64
    go_wp2_with fail
    refine bodyPost_ret (results_tmp rfl _ _ _) rfl ?_
    exact ⟨_, rfl, HN.out, rfl⟩
/-- A store into a list of sums. -/
theorem range_set {w : World} {b o : Nat} {t : List Sum} {i : Nat} (s : Sum) (hr : w.rangeAt b o (cellsAll t)) (ht : w.there b o (32 * t.length)) (hi : i < t.length) : (w.setCells b (o + i * 32) (cellsOf s)).rangeAt b o (cellsAll (t.set i s)) := by
  have hl : cellsAll (t.set i s) = cellsAll (t.take i) ++ (cellsOf s ++ cellsAll (t.drop (i + 1))) := by
    rw [List.set_eq_take_append_cons_drop, if_pos hi, cellsAll_append, cellsAll_cons]
  rw [cellsAll_split hi, range_append, range_append, length_cellsAll, List.length_take, Nat.min_eq_left (by omega), length_cellsOf] at hr
  rw [hl, range_append, range_append, length_cellsAll, List.length_take, Nat.min_eq_left (by omega), length_cellsOf]
  have e : o + 32 * i = o + i * 32 := by omega
  refine ⟨?_, ?_, ?_⟩
  · exact World.rangeAt_setCells_apart hr.1 _ _ _ (by right; left; rw [length_cellsAll, List.length_take]; omega)
  · rw [e]
    exact World.rangeAt_setCells_same w b _ _ (fun j hj => by
      rw [length_cellsOf] at hj
      have := ht (i * 32 + j) (by omega)
      rwa [show o + (i * 32 + j) = o + i * 32 + j from by omega] at this)
  · exact World.rangeAt_setCells_apart hr.2.2 _ _ _ (by right; right; rw [length_cellsOf]; omega)
/-- After i swaps. -/
def swapped (l : List Sum) (i : Nat) (t : List Sum) : Prop := t.length = l.length ∧ ∀ k, k < l.length → t[k]? = if k < i ∨ l.length - i ≤ k then l[l.length - 1 - k]? else l[k]?
theorem swapped_zero (l : List Sum) : swapped l 0 l := ⟨rfl, fun k hk => by rw [if_neg (by omega)]⟩
theorem swapped_step {l t : List Sum} {i j : Nat} {x y : Sum} (h : swapped l i t) (hij : i < j) (hj : j = l.length - 1 - i) (hl : j < l.length) (hx : t[i]? = some x) (hy : t[j]? = some y) : swapped l (i + 1) ((t.set i y).set j x) := by
  refine ⟨by simp [h.1], fun k hk => ?_⟩
  have h2 := h.2 k hk
  have hi2 := h.2 i (by omega)
  have hj2 := h.2 j (by omega)
  rw [if_neg (by omega), hx] at hi2
  rw [if_neg (by omega), hy] at hj2
  have ht := h.1
  by_cases hkj : k = j
  · subst hkj
    rw [if_pos (by omega), List.getElem?_set_self (by simp [ht]; omega), hi2]
    congr 1; omega
  · by_cases hki : k = i
    · subst hki
      rw [if_pos (by omega), List.getElem?_set_ne (by omega), List.getElem?_set_self (by omega), hj2]
      congr 1
    · rw [List.getElem?_set_ne (by omega), List.getElem?_set_ne (by omega), h2]
      by_cases hc : k < i ∨ l.length - i ≤ k
      · rw [if_pos hc, if_pos (by omega)]
      · rw [if_neg hc, if_neg (by omega)]
theorem swapped_end {l t : List Sum} {i : Nat} (h : swapped l i t) (hi : l.length ≤ 2 * i + 1) : t = l.reverse := by
  refine List.ext_getElem? fun k => ?_
  by_cases hk : k < l.length
  · rw [h.2 k hk, List.getElem?_reverse hk]
    by_cases hc : k < i ∨ l.length - i ≤ k
    · rw [if_pos hc]
    · rw [if_neg hc]; congr 1; omega
  · rw [List.getElem?_eq_none (by rw [h.1]; omega), List.getElem?_eq_none (by simp; omega)]
set_option maxRecDepth 100000 in
set_option maxHeartbeats 1000000 in
theorem reverse_sums (w : World) (base : Nat) (v : Value) (l : List Sum) (h : SumsNew w base v l) (hl : l.length < 4000000000) : Calls Try.prog 81 #[v] w fun e w' => e = .returned (.tuple #[]) ∧ SumsNew w' base v l.reverse ∧ Keeps (fun k => v.ownBlock = some k) w w' := by
  rcases h with ⟨rfl, rfl⟩ | ⟨g, cap, rfl, h0, h1, h2, h3, h4, h5⟩
  · go_enter Try.func81, Try.ntmps81
    go_wp2_with fail
    refine wp_loop_once ?_
    go_wp2_with fail
    exact bodyPost_end (results_none rfl _ _ _) rfl ⟨rfl, .inl ⟨rfl, rfl⟩, Keeps.refl _ _⟩
  · obtain ⟨n, hn⟩ : ∃ n, n = l.length := ⟨_, rfl⟩
    rw [← hn] at h1 h5 hl ⊢
    have HN := Lib.hid hn; clear hn
    have HR := Lib.hid h4; clear h4
    have HT := Lib.hid h5; clear h5
    have hn1 : (n : Int) < 4000000000 := by omega
    go_enter Try.func81, Try.ntmps81
    go_wp2_with fail
    go_loopw [2, 3] (fun a b W => ∃ (i : Nat) (z : Int) (t : List Sum), a = .int .i64 (i : Int) ∧ b = .int .i64 z ∧ z = (n : Int) - 1 - i ∧ i ≤ n ∧ swapped l i t ∧ W.rangeAt g 0 (cellsAll t) ∧ W.there g 0 (32 * n) ∧ Keeps (· = g) w W) (fun a _ _ => n - (intOf a).toNat)
    case atStart => exact ⟨0, _, l, rfl, rfl, by omega, by omega, swapped_zero l, HR.out, HT.out, Keeps.refl _ _⟩
    case round =>
      clear HR HT
      obtain ⟨i, z, t, rfl, rfl, hz, hi, hs, hR, hT, hK⟩ := hrel
      have HS := Lib.hid hs; clear hs
      have HR := Lib.hid hR; clear hR
      have HT := Lib.hid hT; clear hT
      have HK := Lib.hid hK; clear hK
      by_cases hlt : (i : Int) < z
      · obtain ⟨j, hj⟩ : ∃ j : Nat, z = (j : Int) := ⟨z.toNat, by omega⟩
        subst hj
        have hij : i < j := by omega
        have hjn : j = n - 1 - i := by omega
        have HJ := Lib.hid hjn; clear hjn hz
        have htl : t.length = n := by rw [HS.out.1, HN.out]
        have hx := Lib.hid (range_at HR.out (i := i) (by have := HJ.out; omega))
        have hy := Lib.hid (range_at HR.out (i := j) (by have := HJ.out; omega))
        have hgx := Lib.hid (List.getElem?_eq_getElem (l := t) (i := i) (by have := HJ.out; omega))
        have hgy := Lib.hid (List.getElem?_eq_getElem (l := t) (i := j) (by have := HJ.out; omega))
        have HTL := Lib.hid htl
        generalize t[i]'_ = x at *
        generalize t[j]'_ = y at *
        rw [Nat.zero_add] at hx hy
        have hi0 : (0 : Int) ≤ (i : Int) := by omega
        have hin : (i : Int) < (n : Int) := by have := HJ.out; omega
        have hj0 : (0 : Int) ≤ (j : Int) := by omega
        have hjn : (j : Int) < (n : Int) := by have := HJ.out; omega
        clear htl
        go_wp2_with fail
        refine wp_region_sched (fun W => W.rangeAt g (j * 32) (cellsOf y)) [.t 0, .t 1, .t 2, .t 3, .t 4, .t 5, .t 6, .t 8, .t 9, .t 10, .s 7, .e 11 true, .t 12, .e 13 false, .t 14, .e 15 false] (by kernel_rfl) (by kernel_rfl) (by intro c a d v w h; cases d <;> exact h) ?_
        iterate 10
          refine wpS_t rfl (v := ?_) (by rfl) (fun W => ?_) ?_
          rotate_left
          · go_simp
            try rfl
          try simp only [Act.put, List.setIfInBounds_toArray, List.set_cons_zero, List.set_cons_succ]
        refine wpS_load_sum (by exact hy.out) rfl (by rfl) _ (by rfl) g (j * 32) (by rfl) y (fun W hW => hW) ?_
        try simp only [Act.put, List.setIfInBounds_toArray, List.set_cons_zero, List.set_cons_succ]
        refine wpS_k rfl (by rfl) (fun K hK => ?_)
        refine wp_load_sum _ (by rfl) g (i * 32) (by rfl) x (by exact hx.out) ?_
        refine hK _ _ ⟨by exact hy.out, ?_⟩; clear hK K
        try simp only [Act.put, List.setIfInBounds_toArray, List.set_cons_zero, List.set_cons_succ]
        iterate 1
          refine wpS_t rfl (v := ?_) (by rfl) (fun W => ?_) ?_
          rotate_left
          · go_simp
            try rfl
          try simp only [Act.put, List.setIfInBounds_toArray, List.set_cons_zero, List.set_cons_succ]
        refine wpS_e rfl (by rfl) (fun K hK => ?_)
        refine wp_store_sum _ _ (by rfl) g (i * 32) y (by rfl) (by rfl) (fun k hk => by have := HT.out (i * 32 + k) (by have := HJ.out; omega); rwa [Nat.zero_add] at this) ?_
        refine hK _ _ ?_; clear hK K
        try simp only [Act.put]
        have HR1 := Lib.hid (range_set (i := i) (t := t) y (by exact HR.out : wr.drew.rangeAt g 0 (cellsAll t)) (by rw [HTL.out]; exact HT.out) (by rw [HTL.out]; have := HJ.out; omega))
        have HT1 := Lib.hid (World.there_setCells (by exact HT.out : wr.drew.there g 0 (32 * n)) g (i * 32) (cellsOf y))
        have HK1 := Lib.hid ((HK.out.drew).trans (keeps_setCells_ g (cellsOf y) (i * 32) wr.drew))
        rw [Nat.zero_add] at HR1
        generalize wr.drew.setCells g (i * 32) (cellsOf y) = w1 at *
        iterate 1
          refine wpS_t rfl (v := ?_) (by rfl) (fun W => ?_) ?_
          rotate_left
          · go_simp
            try rfl
          try simp only [Act.put, List.setIfInBounds_toArray, List.set_cons_zero, List.set_cons_succ]
        refine wpS_e rfl (by rfl) (fun K hK => ?_)
        refine wp_store_sum _ _ (by rfl) g (j * 32) x (by rfl) (by rfl) (fun k hk => by have := HT1.out (j * 32 + k) (by have := HJ.out; omega); rwa [Nat.zero_add] at this) ?_
        refine hK _ _ ?_; clear hK K
        try simp only [Act.put]
        have HR2 := Lib.hid (range_set (i := j) (t := t.set i y) x HR1.out (by rw [List.length_set, HTL.out]; exact HT1.out) (by rw [List.length_set, HTL.out]; have := HJ.out; omega))
        have HT2 := Lib.hid (World.there_setCells HT1.out g (j * 32) (cellsOf x))
        have HK2 := Lib.hid (HK1.out.trans (keeps_setCells_ g (cellsOf x) (j * 32) w1))
        rw [Nat.zero_add] at HR2
        generalize w1.setCells g (j * 32) (cellsOf x) = w2 at *
        have HS2 := Lib.hid (swapped_step HS.out hij (by rw [← HN.out]; exact HJ.out) (by rw [← HN.out]; have := HJ.out; omega) hgx.out hgy.out)
        clear HR HT HK HR1 HT1 HK1 HS hx hy hgx hgy
        refine wpS_done ?_
        go_wp2_with fail
        refine ⟨⟨i + 1, _, _, by simp, rfl, ?_, ?_, HS2.out, HR2.out, HT2.out, HK2.out⟩, by simp [intOf]; omega⟩
        · have := HJ.out; omega
        · omega
      · have hrev : t = l.reverse := swapped_end HS.out (by rw [← HN.out]; omega)
        have HRV := Lib.hid hrev; clear hrev hz
        have hlt' : decide ((i : Int) < z) = false := decide_eq_false hlt
        go_wp2_with fail
        refine bodyPost_end (results_none rfl _ _ _) rfl ⟨rfl, .inr ⟨g, cap, ?_, ?_, ?_, h2, h3, ?_, ?_⟩, HK.out.mono (fun k hk => by rw [hk]; rfl)⟩
        · rw [List.length_reverse, ← HN.out]
        · simpa using h0
        · rw [List.length_reverse, ← HN.out]; exact h1
        · rw [← HRV.out]; exact HR.out
        · rw [List.length_reverse, ← HN.out]; exact HT.out
end Go.Proofs.Ytfmgoehnbaiamaa
-- Walks: shows.cut (and slices.IndexFunc of its closure).
namespace Go.Proofs.Ytfmgoehnbaiamaa
theorem enters_cut : ∀ args w, (callFunc 83 args).run Try.prog w = .ok (.enter 83 args) w := enters_of Try.func83 (by kernel_rfl) rfl
theorem cutf_any (y : PE) (z d : Nat) (w : World) (hd : d < 256) (hc : w.cell? ⟨z, 0, none⟩ = some (.int .i64 (d : Int))) : Calls Try.prog 83 #[.agg (encP y).toArray, .pointer (some ⟨z, 0, none⟩)] w fun e w' => e = .returned (.bool ((Keys.kn y.1).testBit (255 - d))) ∧ Below w.heap.size w w' := by
  have hr := range_new w (encP y).toArray 36 _ rfl
  have hb := al (Below.refl _ w) (.cells (encP y).toArray 36)
  have hc1 := (Keeps.of_below (X := fun _ => False) hb).cell hc (fun h => h)
  have HR := Lib.hid (encP_key hr)
  have HB := Lib.hid hb
  have HD := Lib.hid hd
  have hbit := Keys.bit_odd (Keys.kn y.1) (255 - d)
  obtain ⟨q, hq⟩ : ∃ q, q = (Keys.kn y.1 >>> (255 - d)) % 2 := ⟨_, rfl⟩
  rw [← hq] at hbit
  have HBI := Lib.hid (bit_any y.1 d)
  rw [← hq] at HBI
  have hq2 : q < 2 := by rw [hq]; exact Nat.mod_lt _ (by decide)
  obtain ⟨R, hR⟩ : ∃ R, R = (Keys.kn y.1).testBit (255 - d) := ⟨_, rfl⟩
  rw [← hR] at hbit ⊢
  have HX := Lib.hid (And.intro hbit hq2)
  clear hr hb hc hq hbit hR hq2
  go_enter Try.func83, Try.ntmps83
  go_wp2_with (refine wpList_load_sum rfl _ rfl w.heap.size 0 rfl y.1 HR.out ?_)
  refine (HBI.out _ HD.out).mono ?_
  rintro e w1 ⟨rfl, hb1⟩
  have HB1 := Lib.hid (HB.out.trans (hb1.mono HB.out.size))
  clear hb1 HBI
  have he : ((q : Int) == 1) = R := by
    rw [HX.out.1]
    by_cases h : q = 1
    · subst h; rfl
    · rw [decide_eq_false h, beq_eq_false_iff_ne]; omega
  have he2 : decide (q = 1) = R := HX.out.1.symm
  go_wp2_with fail
  exact bodyPost_ret (results_tmp rfl _ _ _) rfl ⟨rfl, HB1.out⟩
set_option maxRecDepth 100000 in
set_option maxHeartbeats 1000000 in
theorem idx_any (P : List Keys.Pr) (v : Value) (z d : Nat) (w : World) (hv : PairsAt w v P) (hd : d < 256) (hc : w.cell? ⟨z, 0, none⟩ = some (.int .i64 (d : Int))) (hn : P.length < 100000) :
    Calls Try.prog 82 #[v, .func (.func 83) #[] #[.pointer (some ⟨z, 0, none⟩)]] w fun e w' => ∃ c, c ≤ P.length ∧ (∀ j p, P[j]? = some p → j < c → (Keys.kn p.1).testBit (255 - d) = false) ∧ (∀ p, P[c]? = some p → (Keys.kn p.1).testBit (255 - d) = true) ∧ e = .returned (.int .i64 (if c = P.length then -1 else (c : Int))) ∧ Below w.heap.size w w' := by
  have HV := Lib.hid (And.intro hv hc)
  obtain ⟨a, cap, rfl, h1, h2⟩ := pairs_form hv
  obtain ⟨N, hN⟩ : ∃ N, N = P.length := ⟨_, rfl⟩
  rw [← hN] at HV h1 hn ⊢
  have HN := Lib.hid (And.intro hN (And.intro hn hd))
  clear hv hN h2 hc hn hd
  have k1 : (N : Int) ≤ (cap : Int) := by omega
  have eg := enters_cut
  go_enter Try.func82, Try.ntmps82
  go_wp2_with fail
  go_loopw [5, 8] (fun _ iv W => ∃ j : Nat, j ≤ N ∧ iv = .int .i64 (j : Int) ∧ (∀ i p, P[i]? = some p → i < j → (Keys.kn p.1).testBit (255 - d) = false) ∧ Below w.heap.size w W) (fun _ iv _ => N - (intOf iv).toNat)
  case atStart => exact ⟨0, by omega, rfl, fun i p _ h => by omega, Below.refl _ _⟩
  case round =>
    obtain ⟨j, hj, rfl, hall, hB⟩ := hrel
    have HB := Lib.hid (And.intro hall hB)
    clear hall hB
    by_cases hlt : j < N
    · have c1 : decide (j < N) = true := by simpa using hlt
      have c1' : decide ((j : Int) < (N : Int)) = true := by simp; omega
      have hj0 : (0 : Int) ≤ (j : Int) := by omega
      have hlt' : (j : Int) < (N : Int) := by omega
      obtain ⟨ba, oa, ca', y, xs, he1, hr1, hy1, hg1⟩ := pairs_one (HV.out.1.below HB.out.2) (i := j) (by rw [← HN.out.1]; exact hlt)
      simp only [Value.slice.injEq] at he1
      obtain ⟨rfl, -, rfl⟩ := he1
      have HX := Lib.hid (And.intro hr1 (And.intro hg1 ((Keeps.of_below (X := fun _ => False) HB.out.2).cell HV.out.2 (fun h => h))))
      have HJ := Lib.hid (And.intro hj hlt)
      clear hr1 hy1 hg1
      obtain ⟨R, hR⟩ : ∃ R, R = (Keys.kn y.1).testBit (255 - d) := ⟨_, rfl⟩
      have HC := Lib.hid (cutf_any y z d wr HN.out.2.2 HX.out.2.2)
      rw [← hR] at HC
      have HR := Lib.hid hR
      clear hR
      go_wp2_with (refine wpList_load_pair rfl _ rfl ba (oa + j * 33) rfl y HX.out.1 ?_)
      refine HC.out.mono ?_
      rintro e w1 ⟨rfl, hb1⟩
      have HB1 := Lib.hid (HB.out.2.trans (hb1.mono HB.out.2.size))
      clear hb1 HC
      cases R with
      | true =>
        go_wp2_with fail
        refine bodyPost_ret (results_tmp rfl _ _ _) rfl ⟨j, HJ.out.1, HB.out.1, fun p hp => ?_, ?_, HB1.out⟩
        · rw [HX.out.2.1, Option.some.injEq] at hp
          rw [← hp]; exact HR.out.symm
        · rw [if_neg (by have := HJ.out.2; omega)]; rfl
      | false =>
        have hwj : wrap64 ((j : Int) + 1) = ((j + 1 : Nat) : Int) := by have := HN.out.2.1; unfold wrap64; omega
        go_wp2_with fail
        rw [hwj]
        clear hwj
        refine ⟨⟨j + 1, by omega, rfl, fun i p hp hi => ?_, HB1.out⟩, by simp only [intOf]; omega⟩
        by_cases hij : i < j
        · exact HB.out.1 i p hp hij
        · have : i = j := by omega
          subst this
          rw [HX.out.2.1, Option.some.injEq] at hp
          rw [← hp]; exact HR.out.symm
    · have hjn : j = N := by omega
      subst hjn
      have c1 : decide (j < j) = false := by simp
      have c1' : decide ((j : Int) < (j : Int)) = false := by simp
      go_wp2_with fail
      refine bodyPost_ret (results_tmp rfl _ _ _) rfl ⟨j, Nat.le_refl _, HB.out.1, fun p hp => ?_, by rw [if_pos rfl]; rfl, HB.out.2⟩
      have := (List.getElem?_eq_some_iff.1 hp).1
      rw [← HN.out.1] at this
      omega
theorem cut_is {n c : Nat} {l : List Keys.Pr} (h : Keys.Rise l) (hs : Keys.Same (n + 1) l) (hc : c ≤ l.length) (h1 : ∀ j p, l[j]? = some p → j < c → (Keys.kn p.1).testBit n = false) (h2 : ∀ p, l[c]? = some p → (Keys.kn p.1).testBit n = true) : c = cutH n l := by
  obtain ⟨g1, g2, g3⟩ := cut_first h hs
  rcases Nat.lt_trichotomy c (cutH n l) with hlt | heq | hgt
  · have hcl : c < l.length := by omega
    have e := List.getElem?_eq_getElem hcl
    have a := g1 c _ e hlt
    rw [h2 _ e] at a
    cases a
  · exact heq
  · have hcl : cutH n l < l.length := by omega
    have e := List.getElem?_eq_getElem hcl
    have a := h1 _ _ e hgt
    rw [g2 _ e] at a
    cases a
set_option maxRecDepth 100000 in
theorem cut_any (P : List Keys.Pr) (v : Value) (d : Nat) (w : World) (hv : PairsAt w v P) (hd : d < 256) (hn : P.length < 100000) (hr : Keys.Rise P) (hs : Keys.Same (255 - d + 1) P) :
    Calls Try.prog 62 #[v, .int .i64 (d : Int)] w fun e w' => e = .returned (.int .i64 ((cutH (255 - d) P : Nat) : Int)) ∧ Below w.heap.size w w' := by
  have hmf : ∀ (fn : Fn) (first cap : Array Value) (w : World), (Instr.makeFunc fn first cap).run Try.prog w = .ok (.func fn first cap) w := fun _ _ _ _ => rfl
  have hb := al (Below.refl _ w) (.cells #[.int .i64 (d : Int)] 3)
  have hcell : (w.alloc (.cells #[.int .i64 (d : Int)] 3)).cell? ⟨w.heap.size, 0, none⟩ = some (.int .i64 (d : Int)) := by
    have := range_new w #[.int .i64 (d : Int)] 3 _ rfl 0 _ rfl
    exact this
  have HI := Lib.hid (idx_any P v w.heap.size d _ (hv.below hb) hd hcell hn)
  have HB := Lib.hid hb
  have HX := Lib.hid (And.intro hr hs)
  obtain ⟨a, cap, rfl, h1, h2⟩ := pairs_form hv
  obtain ⟨N, hN⟩ : ∃ N, N = P.length := ⟨_, rfl⟩
  rw [← hN] at HI h1 hn ⊢
  have HN := Lib.hid (And.intro hN hn)
  clear hv hN h2 hn hb hcell hr hs
  obtain ⟨C, hC⟩ : ∃ C, C = cutH (255 - d) P := ⟨_, rfl⟩
  rw [← hC]
  have HC := Lib.hid hC
  clear hC
  go_enter Try.func62, Try.ntmps62
  go_wp2_with fail
  refine HI.out.mono ?_
  rintro e w1 ⟨c, hc, g1, g2, rfl, hb1⟩
  have hcc : c = C := by rw [HC.out]; exact cut_is HX.out.1 HX.out.2 (by rw [← HN.out.1]; exact hc) g1 g2
  subst hcc
  have HB1 := Lib.hid (HB.out.trans (hb1.mono HB.out.size))
  clear hb1 HI g1 g2
  by_cases he : c = N
  · rw [if_pos he]
    subst he
    go_wp2_with fail
    exact bodyPost_ret (results_tmp rfl _ _ _) rfl ⟨rfl, HB1.out⟩
  · rw [if_neg he]
    have c1 : decide ((c : Int) < 0) = false := by simp
    go_wp2_with fail
    exact bodyPost_ret (results_tmp rfl _ _ _) rfl ⟨rfl, HB1.out⟩
end Go.Proofs.Ytfmgoehnbaiamaa
-- Walks: shows.empty, shows.at.
namespace Go.Proofs.Ytfmgoehnbaiamaa
/-- What is empty, from height 0 on; at each depth, from 0 on. -/
noncomputable def ems (n : Nat) : List Sum := (List.range n).map em
theorem length_ems (n : Nat) : (ems n).length = n := by simp [ems]
theorem ems_succ (n : Nat) : ems (n + 1) = ems n ++ [em n] := by simp [ems, List.range_succ]
theorem ems_get {n i : Nat} (h : i < n) : (ems n)[i]? = some (em i) := by simp [ems, h]
noncomputable def nones : List Sum := (ems 257).reverse
theorem length_nones : nones.length = 257 := by simp [nones, length_ems]
theorem nones_get {d : Nat} (h : d ≤ 256) : nones[d]? = some (em (256 - d)) := by
  unfold nones
  rw [List.getElem?_reverse (by rw [length_ems]; omega), length_ems, ems_get (by omega)]
/-- What empty has in hand. -/
structure EW (w W : World) (g j cap : Nat) : Prop where
  bw : Below w.heap.size w W
  own : W.ownsRow w.heap.size 29 32 (.slice (some ⟨g, 0, none⟩) (j + 1) cap) (j + 1) (cellsAll (ems (j + 1)))
set_option maxRecDepth 100000 in
set_option maxHeartbeats 2000000 in
theorem sempty_any (w : World) : Calls Try.prog 60 #[] w fun e w' => ∃ v, e = .returned v ∧ SumsAt w' v nones ∧ (∃ a c, v = .slice a 257 c) ∧ Below w.heap.size w w' := by
  go_enter Try.func60, Try.ntmps60
  go_wp2_with fail
  have HE := Lib.hid (empty_any 0 w (by omega))
  refine HE.out.mono ?_
  rintro e w1 ⟨rfl, hb1⟩
  have HB1 := Lib.hid hb1
  clear hb1 HE
  go_wp2_with (refine wpList_plain rfl fun K hK => ?_; refine wp_build_sums 1 _ (by rfl) [em 0] rfl (by omega) (by omega) (by rfl) ?_; refine hK _ _ ?_; clear hK K)
  obtain ⟨g0, hg0⟩ : ∃ g, g = w1.heap.size := ⟨_, rfl⟩
  have hw1 := HB1.out.size
  have h0 : EW w (w1.alloc (.cells (cellsAll [em 0]).toArray 29)) g0 0 1 := ⟨al HB1.out _, by
    rw [hg0]
    have e1 : ems (0 + 1) = [em 0] := rfl
    rw [e1]
    have e2 : (cellsAll [em 0]).length = 32 := by simp [cellsAll, length_cellsOf]
    exact ⟨e2, .inr ⟨w1.heap.size, 1, _, rfl, hw1, heap_alloc_new w1 _, Nat.le_refl _, by unfold maxLen; omega, by rw [List.size_toArray, e2], by rw [List.take_of_length_le (by rw [List.toList_toArray, e2]; omega)]⟩⟩⟩
  have H0 := Lib.hid h0
  rw [← hg0]
  clear h0 hw1 hg0 HB1
  generalize w1.alloc (.cells (cellsAll [em 0]).toArray 29) = W1 at *
  clear w1
  go_loopw [1, 4] (fun sv_ iv W => ∃ (j : Nat) (g cap : Nat), j ≤ 256 ∧ sv_ = .slice (some ⟨g, 0, none⟩) (j + 1) cap ∧ iv = .int .i64 (j : Int) ∧ EW w W g j cap) (fun _ iv _ => 256 - (intOf iv).toNat)
  case atStart => exact ⟨0, g0, 1, by omega, rfl, rfl, H0.out⟩
  case round =>
    clear H0
    obtain ⟨j, g, cap, hj, rfl, rfl, hE⟩ := hrel
    have HE := Lib.hid hE
    clear hE
    by_cases hlt : j < 256
    · have c1 : decide (j < 256) = true := by simpa using hlt
      have c1' : decide ((j : Int) < 256) = true := by simp; omega
      obtain ⟨J, hJ⟩ : ∃ J, J = j + 1 := ⟨_, rfl⟩
      have ho := HE.out.own
      have hr := own_sum_range ho
      have hr1 := range_at hr (i := j) (by rw [length_ems]; omega)
      have hg1 : (ems (j + 1))[j]'(by rw [length_ems]; omega) = em j := by
        have := ems_get (n := j + 1) (i := j) (by omega)
        rw [List.getElem?_eq_getElem (by rw [length_ems]; omega), Option.some.injEq] at this
        exact this
      rw [hg1, Nat.zero_add] at hr1
      rw [← hJ] at ho ⊢
      have HJ := Lib.hid (And.intro hJ hlt)
      have HO := Lib.hid ho
      have HR := Lib.hid hr1
      have hw : IntKind.i64.wrap ((J : Int) - 1) = (j : Int) := by rw [IntKind.wrap_i64]; omega
      have hjJ : (j : Int) < (J : Int) := by omega
      have hj0 : (0 : Int) ≤ (j : Int) := by omega
      clear ho hr hr1 hg1 hJ hlt
      go_wp2_with fail
      refine wp_region_sched (fun W => W.rangeAt g (j * 32) (cellsOf (em j))) [.t 0, .t 1, .t 2, .t 3, .t 4, .t 5, .t 7, .t 8, .t 9, .t 10, .t 11, .s 6, .e 12 true, .e 13 false, .e 14 false, .e 15 false, .t 16] (by kernel_rfl) (by kernel_rfl) (by intro c a d v w h; cases d <;> exact h) ?_
      have HB1 := Lib.hid (And.intro HE.out.bw.drew (And.intro (show wr.drew.rangeAt g (j * 32) (cellsOf (em j)) from HR.out) (show wr.drew.ownsRow w.heap.size 29 32 (.slice (some ⟨g, 0, none⟩) J cap) J (cellsAll (ems J)) from HO.out)))
      clear HE HR HO
      generalize wr.drew = V at *
      iterate 11
        refine wpS_t rfl (v := ?_) (by rfl) (fun W => ?_) ?_
        rotate_left
        · go_simp
          try rfl
        try simp only [Act.put, List.setIfInBounds_toArray, List.set_cons_zero, List.set_cons_succ]
      refine wpS_load_sum (by exact HB1.out.2.1) rfl (by rfl) _ (by rfl) g (j * 32) (by rfl) (em j) (fun V hV => hV) ?_
      try simp only [Act.put, List.setIfInBounds_toArray, List.set_cons_zero, List.set_cons_succ]
      refine wpS_k rfl (by rfl) (fun K hK => ?_)
      refine wp_load_sum _ (by rfl) g (j * 32) (by rfl) (em j) HB1.out.2.1 ?_
      refine hK _ _ ⟨by exact HB1.out.2.1, ?_⟩; clear hK K
      try simp only [Act.put, List.setIfInBounds_toArray, List.set_cons_zero, List.set_cons_succ]
      refine wpS_e rfl (by rfl) (fun K hK => ?_)
      go_simp
      refine (sd_any (em j) (em j) V).mono ?_
      rintro e V1 ⟨rfl, hb1⟩
      rw [← em_succ, ← HJ.out.1]
      have HB2 := Lib.hid (And.intro (HB1.out.1.trans (hb1.mono HB1.out.1.size)) ((Keeps.of_below (X := fun _ => False) hb1).owns HB1.out.2.2 (fun _ _ h => h)))
      clear HB1 hb1
      refine hK _ _ ?_; clear hK K
      try simp only [Act.put, List.setIfInBounds_toArray, List.set_cons_zero, List.set_cons_succ]
      refine wpS_e rfl (by rfl) (fun K hK => ?_)
      refine wp_build_sums 1 _ (by rfl) [em J] rfl (by omega) (by omega) (by rfl) ?_
      have hb2 := al (Below.refl V1.heap.size V1) (.cells (cellsAll [em J]).toArray 29)
      have HB3 := Lib.hid (And.intro (HB2.out.1.trans (hb2.mono HB2.out.1.size)) (And.intro ((Keeps.of_below (X := fun _ => False) hb2).owns HB2.out.2 (fun _ _ h => h)) (range_new V1 (cellsAll [em J]).toArray 29 _ rfl)))
      clear HB2 hb2
      refine hK _ _ ?_; clear hK K
      try simp only [Act.put, List.setIfInBounds_toArray, List.set_cons_zero, List.set_cons_succ]
      generalize V1.heap.size = q at *
      generalize V1.alloc (.cells (cellsAll [em J]).toArray 29) = V2 at *
      refine wpS_e rfl (by rfl) (fun K hK => ?_)
      refine wp_append_sums _ _ (by rfl) w.heap.size (.slice (some ⟨g, 0, none⟩) J cap) (ems J) [em J] J 1 (length_ems J) rfl (by rfl) HB3.out.2.1 q 0 1 (by rfl) HB3.out.2.2 (by omega) (by have := HJ.out; omega) HB3.out.1.size ?_
      intro g3 cap3 V3 ho3 hg3 _ _
      rw [← ems_succ] at ho3
      have HE3 := Lib.hid (show EW w V3 g3 J cap3 from ⟨HB3.out.1.grown hg3 HB3.out.1.size (fun k hk => own_base HB3.out.2.1 k hk), ho3⟩)
      clear ho3 hg3 HB3
      refine hK _ _ ?_; clear hK K
      try simp only [Act.put, List.setIfInBounds_toArray, List.set_cons_zero, List.set_cons_succ]
      iterate 1
        refine wpS_t rfl (v := ?_) (by rfl) (fun W => ?_) ?_
        rotate_left
        · go_simp
          try rfl
        try simp only [Act.put, List.setIfInBounds_toArray, List.set_cons_zero, List.set_cons_succ]
      refine wpS_done ?_
      go_wp2_with fail
      refine ⟨⟨J, g3, cap3, by have := HJ.out; omega, rfl, congrArg _ (by have := HJ.out; omega), HE3.out⟩, ?_⟩
      simp only [intOf]
      have := HJ.out
      omega
    · have hj6 : j = 256 := by omega
      subst hj6
      have hne : ems 257 ≠ [] := fun e => by have := length_ems 257; rw [e] at this; cases this
      have hn := own_new (l := ems 257) (by rw [length_ems]; exact HE.out.own) hne
      have HN := Lib.hid hn
      have HB := Lib.hid HE.out.bw
      clear hn hne HE hj hlt
      go_wp2_with fail
      refine (reverse_sums wr w.heap.size _ (ems 257) HN.out (by rw [length_ems]; omega)).mono ?_
      rintro e w2 ⟨rfl, hn2, hk2⟩
      have HN2 := Lib.hid (And.intro hn2.sums (HB.out.trans (hk2.below HB.out.size (fun k hk => HN.out.own k hk))))
      clear hn2 hk2 HN HB
      go_wp2_with fail
      exact bodyPost_ret (results_tmp rfl _ _ _) rfl ⟨.slice (some ⟨g, 0, none⟩) 257 cap, rfl, HN2.out.1, ⟨_, _, rfl⟩, HN2.out.2⟩
/-- One of what is empty. -/
theorem nones_at {w : World} {v : Value} (h : SumsAt w v nones) : ∃ b o c, v = .slice (some ⟨b, o, none⟩) 257 c ∧ 257 ≤ c ∧ ∀ W, Below w.heap.size w W → ∀ n, n ≤ 256 → W.rangeAt b (o + (256 - n) * 32) (cellsOf (em n)) := by
  obtain ⟨a, c, rfl, h1, h2, h3⟩ := h
  have hne : nones ≠ [] := fun e => by have := length_nones; rw [e] at this; cases this
  obtain ⟨b, o, rfl, hr⟩ := h3.resolve_left hne
  rw [length_nones] at h1
  refine ⟨b, o, c, by rw [length_nones], h1, fun W hb n hn => ?_⟩
  have hl : 256 - n < nones.length := by rw [length_nones]; omega
  have h4 := range_at hr (i := 256 - n) hl
  have h5 := nones_get (d := 256 - n) (by omega)
  rw [List.getElem?_eq_getElem hl, Option.some.injEq, show 256 - (256 - n) = n by omega] at h5
  rw [h5] at h4
  exact (Keeps.of_below (X := fun _ => False) hb).range h4 (fun h => h)
set_option maxRecDepth 100000 in
set_option maxHeartbeats 2000000 in
theorem sat_nil (n : Nat) (a : Option Addr) (cap : Nat) (vn : Value) (w : World) (hn : n ≤ 256) (hN : SumsAt w vn nones) :
    Calls Try.prog 63 #[.slice a 0 cap, .int .i64 ((256 - n : Nat) : Int), vn] w fun e w' => e = .returned (sv (atH n [])) ∧ Below w.heap.size w w' := by
  obtain ⟨bn, on, cn, rfl, hcn, hr⟩ := nones_at hN
  have hb0 := al (Below.refl _ w) (.cells (cells8 (List.replicate 32 0)).toArray 29)
  have ht0 := there_new w (cells8 (List.replicate 32 0)).toArray 29
  have HB0 := Lib.hid (And.intro hb0 (And.intro ht0 (hr _ hb0 n hn)))
  obtain ⟨A, hA⟩ : ∃ A, A = em n := ⟨_, rfl⟩
  rw [atH_nil, ← hA]
  rw [← hA] at HB0
  obtain ⟨D, hD⟩ : ∃ D, D = 256 - n := ⟨_, rfl⟩
  rw [← hD] at HB0 ⊢
  have hD0 : (0 : Int) ≤ (D : Int) := by omega
  have hD1 : (D : Int) < 257 := by omega
  clear hb0 ht0 hr hA hD hN
  go_enter Try.func63, Try.ntmps63
  go_wp2_with (first
    | (refine wpList_load_sum rfl _ rfl bn (on + D * 32) rfl A HB0.out.2.2 ?_)
    | (refine wpList_store_sum rfl _ _ rfl w.heap.size 0 A rfl rfl HB0.out.2.1 ?_))
  try rw [Exit.noGoto_ret]
  exact bodyPost_ret (results_sum Try.results63 _ _ _ _ rfl (World.there_setCells HB0.out.2.1 _ _ _)) rfl ⟨rfl, setCells_below _ (Nat.le_refl _) _ _ _ _ HB0.out.1⟩
theorem same_zero {n : Nat} {P : List Keys.Pr} (h : Keys.Same (n + 1) P) : Keys.Same n (P.filter fun p => !(Keys.kn p.1).testBit n) := fun p hp q hq => by
  obtain ⟨h1, h2⟩ := List.mem_filter.1 hp
  obtain ⟨h3, h4⟩ := List.mem_filter.1 hq
  have a1 : (Keys.kn p.1).testBit n = false := by simpa using h2
  have a2 : (Keys.kn q.1).testBit n = false := by simpa using h4
  rw [Keys.shr_succ (Keys.kn p.1), Keys.shr_succ (Keys.kn q.1), h p h1 q h3, a1, a2]
theorem same_one {n : Nat} {P : List Keys.Pr} (h : Keys.Same (n + 1) P) : Keys.Same n (P.filter fun p => (Keys.kn p.1).testBit n) := fun p hp q hq => by
  obtain ⟨h1, h2⟩ := List.mem_filter.1 hp
  obtain ⟨h3, h4⟩ := List.mem_filter.1 hq
  rw [Keys.shr_succ (Keys.kn p.1), Keys.shr_succ (Keys.kn q.1), h p h1 q h3, h2, h4]
theorem PairsAt.drop' {w : World} {b o cap i : Nat} {P : List Keys.Pr} (h : PairsAt w (.slice (some ⟨b, o, none⟩) P.length cap) P) (hi : i ≤ P.length) : PairsAt w (.slice (if cap = i then some ⟨b, o, none⟩ else some ⟨b, o + i * 33, none⟩) (P.length - i) (cap - i)) (P.drop i) := by
  by_cases hc : cap = i
  · rw [if_pos hc]
    obtain ⟨a, cap', cs, he, h1, h2, _⟩ := h
    simp only [Value.slice.injEq, true_and] at he
    obtain ⟨-, rfl⟩ := he
    have e : P.drop i = [] := List.drop_eq_nil_of_le (by omega)
    rw [e]
    exact ⟨some ⟨b, o, none⟩, cap - i, [], by rw [show P.length - i = 0 by omega]; rfl, Nat.zero_le _, by omega, rfl, fun c hc => (List.not_mem_nil hc).elim, .inl rfl⟩
  · rw [if_neg hc]
    exact h.drop hi
set_option maxRecDepth 100000 in
set_option maxHeartbeats 2000000 in
theorem sat_any : ∀ (n : Nat) (P : List Keys.Pr) (v vn : Value) (w : World), n ≤ 256 → PairsAt w v P → SumsAt w vn nones → Keys.Rise P → Keys.Same n P → Full P → P.length < 100000 →
    Calls Try.prog 63 #[v, .int .i64 ((256 - n : Nat) : Int), vn] w fun e w' => e = .returned (sv (atH n P)) ∧ Below w.heap.size w w' := by
  intro n
  induction n with
  | zero =>
    intro P v vn w hn hv hN hR hS hF hl
    by_cases hP : P = []
    · subst hP
      obtain ⟨a, cap, rfl, h1, h2⟩ := pairs_form hv
      exact sat_nil 0 a cap vn w hn hN
    · obtain ⟨ba, oa, ca, y, xs, rfl, hr1, hy1, hg1⟩ := pairs_one hv (i := 0) (List.length_pos_iff.2 hP)
      rw [Nat.zero_mul, Nat.add_zero] at hr1
      obtain ⟨bn, on, cn, rfl, hcn, _⟩ := nones_at hN
      have hxs : xs.length ≤ 256 := (hF (y.1, xs) (List.mem_iff_getElem?.2 ⟨0, hg1⟩)).2
      have hat : atH 0 P = vl y.1 xs := by
        rw [atH_zero]
        cases P with
        | nil => cases hg1
        | cons p r =>
          simp only [List.getElem?_cons_zero, Option.some.injEq] at hg1
          rw [hg1]
      obtain ⟨N, hNN⟩ : ∃ N, N = P.length := ⟨_, rfl⟩
      have h0 : N ≠ 0 := fun e => hP (List.length_eq_zero_iff.1 (by rw [← hNN, e]))
      rw [← hNN] at hv ⊢
      have hb0 := al (Below.refl _ w) (.cells (cells8 (List.replicate 32 0)).toArray 29)
      have ht0 := there_new w (cells8 (List.replicate 32 0)).toArray 29
      have kk := Keeps.of_below (X := fun _ => False) hb0
      obtain ⟨A, hA⟩ : ∃ A, A = vl y.1 xs := ⟨_, rfl⟩
      rw [hat, ← hA]
      have HB0 := Lib.hid (And.intro hb0 (And.intro ht0 (And.intro (kk.range hr1 (fun h => h)) (And.intro (bytes_below hy1 hb0 (Nat.le_refl _)) (And.intro hxs hA)))))
      clear hb0 ht0 kk hr1 hy1 hg1 hxs hA hat hv hNN hN hR hS hF hl hn
      have f1 : decide (N = 0) = false := by simpa using h0
      have f2 : decide ((N : Int) = 0) = false := by simp; omega
      have f3 : ((N : Int) == 0) = false := by rw [beq_eq_false_iff_ne]; omega
      have f4 : (0 : Int) < (N : Int) := by omega
      have f5 : 0 < N := by omega
      obtain ⟨q, hq⟩ : ∃ q, q = w.heap.size := ⟨_, rfl⟩
      have HQ := Lib.hid hq
      clear hq
      go_enter Try.func63, Try.ntmps63
      go_wp2_with fail
      have hcell : (World.drew (w.alloc (.cells (cells8 (List.replicate 32 0)).toArray 29))).cell? ⟨ba, oa + 32, none⟩ = some (peV y) := HB0.out.2.2.1 32 (peV y) (by rw [encP, List.getElem?_append_right (by rw [length_cellsOf]; omega), length_cellsOf]; rfl)
      have HC := Lib.hid (show (World.drew (w.alloc (.cells (cells8 (List.replicate 32 0)).toArray 29))).rangeAt ba oa (cellsOf y.1) ∧ _ from And.intro (encP_key HB0.out.2.2.1) hcell)
      have HD := Lib.hid (show Below w.heap.size w (World.drew (w.alloc (.cells (cells8 (List.replicate 32 0)).toArray 29))) ∧ (World.drew (w.alloc (.cells (cells8 (List.replicate 32 0)).toArray 29))).there w.heap.size 0 32 ∧ BytesAt (World.drew (w.alloc (.cells (cells8 (List.replicate 32 0)).toArray 29))) (peV y) xs from ⟨HB0.out.1.drew, HB0.out.2.1, bytes_below HB0.out.2.2.2.1 (Below.refl _ _).drew (Nat.le_refl _)⟩)
      have HXA := Lib.hid HB0.out.2.2.2.2
      clear hcell HB0
      refine wp_region_sched (fun W => W.rangeAt ba oa (cellsOf y.1) ∧ W.cell? ⟨ba, oa + 32, none⟩ = some (peV y)) [.t 0, .t 1, .t 2, .t 4, .t 5, .t 6, .s 3, .e 7 true, .e 8 false, .e 9 false] (by kernel_rfl) (by kernel_rfl) (by intro c a d v w h; cases d <;> exact h) ?_
      change wpS _ _ _ _ _ _ _ (World.drew (w.alloc (.cells (cells8 (List.replicate 32 0)).toArray 29)))
      rw [← HQ.out] at HD ⊢
      generalize World.drew (w.alloc (.cells (cells8 (List.replicate 32 0)).toArray 29)) = V at *
      iterate 6
        refine wpS_t rfl (v := ?_) (by rfl) (fun W => ?_) ?_
        rotate_left
        · go_simp
          try rfl
        try simp only [Act.put, List.setIfInBounds_toArray, List.set_cons_zero, List.set_cons_succ]
      refine wpS_load_sum (by exact HC.out) rfl (by rfl) _ (by rfl) ba oa (by rfl) y.1 (fun V hV => hV.1) ?_
      try simp only [Act.put, List.setIfInBounds_toArray, List.set_cons_zero, List.set_cons_succ]
      refine wpS_k rfl (by rfl) (fun K hK => ?_)
      have g := HC.out.2
      go_simp
      refine hK _ _ ⟨by exact HC.out, ?_⟩; clear hK K
      try simp only [Act.put, List.setIfInBounds_toArray, List.set_cons_zero, List.set_cons_succ]
      clear g
      refine wpS_e rfl (by rfl) (fun K hK => ?_)
      go_simp
      have HX := Lib.hid (vl_any y.1 xs (peV y) V HD.out.2.2 (by have := HXA.out.1; omega))
      rw [← HXA.out.2] at HX
      refine HX.out.mono ?_
      rintro e V1 ⟨rfl, hb⟩
      have H1 := Lib.hid (And.intro (HD.out.1.trans (hb.mono (by rw [HQ.out]; exact HD.out.1.size))) ((Keeps.of_below (X := fun _ => False) hb).there HD.out.2.1 (by decide) (fun h => h)))
      clear hb HX HD
      refine hK _ _ ?_; clear hK K
      try simp only [Act.put, List.setIfInBounds_toArray, List.set_cons_zero, List.set_cons_succ]
      refine wpS_e rfl (by rfl) (fun K hK => ?_)
      refine wp_store_sum _ _ (by rfl) q 0 A (by rfl) (by rfl) H1.out.2 ?_
      refine hK _ _ ?_; clear hK K
      try simp only [Act.put]
      refine wpS_done ?_
      go_wp2_with fail
      try rw [Exit.noGoto_ret]
      exact bodyPost_ret (results_sum Try.results63 _ _ _ _ rfl (World.there_setCells H1.out.2 _ _ _)) rfl ⟨rfl, setCells_below _ (by rw [HQ.out]; exact Nat.le_refl _) _ _ _ _ (by rw [← HQ.out]; exact H1.out.1)⟩
  | succ n ih =>
    intro P v vn w hn hv hN hR hS hF hl
    by_cases hP : P = []
    · subst hP
      obtain ⟨a, cap, rfl, h1, h2⟩ := pairs_form hv
      exact sat_nil (n + 1) a cap vn w hn hN
    · obtain ⟨ba, oa, ca, _, _, rfl, _, _, _⟩ := pairs_one hv (i := 0) (List.length_pos_iff.2 hP)
      obtain ⟨bn, on, cn, rfl, hcn, _⟩ := nones_at hN
      obtain ⟨c, hc⟩ : ∃ c, c = cutH n P := ⟨_, rfl⟩
      obtain ⟨s1, s2⟩ := cut_split hR hS
      have hcl : c ≤ P.length := by rw [hc]; exact List.length_filter_le _ _
      rw [← hc] at s1 s2
      have hat : atH (n + 1) P = sd (atH n (P.take c)) (atH n (P.drop c)) := by
        rw [s1, s2]
        unfold atH
        rw [Keys.at']
      obtain ⟨A, hA⟩ : ∃ A, A = atH n (P.take c) := ⟨_, rfl⟩
      obtain ⟨B, hB⟩ : ∃ B, B = atH n (P.drop c) := ⟨_, rfl⟩
      rw [hat, ← hA, ← hB]
      have hF1 : Full (P.take c) := fun p hp => hF p (List.mem_of_mem_take hp)
      have hF2 : Full (P.drop c) := fun p hp => hF p (List.mem_of_mem_drop hp)
      have hS1 : Keys.Same n (P.take c) := by rw [s1]; exact same_zero hS
      have hS2 : Keys.Same n (P.drop c) := by rw [s2]; exact same_one hS
      have hR1 : Keys.Rise (P.take c) := hR.sublist (List.take_sublist _ _)
      have hR2 : Keys.Rise (P.drop c) := hR.sublist (List.drop_sublist _ _)
      have i1 := fun (v vn : Value) (w : World) h1 h2 => ih (P.take c) v vn w (by omega) h1 h2 hR1 hS1 hF1 (by rw [List.length_take]; omega)
      have i2 := fun (v vn : Value) (w : World) h1 h2 => ih (P.drop c) v vn w (by omega) h1 h2 hR2 hS2 hF2 (by rw [List.length_drop]; omega)
      rw [← hA] at i1
      rw [← hB] at i2
      obtain ⟨D, hD⟩ : ∃ D, D = 256 - (n + 1) := ⟨_, rfl⟩
      obtain ⟨E, hE⟩ : ∃ E, E = 256 - n := ⟨_, rfl⟩
      have hcut := fun (v : Value) (w : World) (hv : PairsAt w v P) => cut_any P v D w hv (by omega) hl hR (by rw [show 255 - D + 1 = n + 1 by omega]; exact hS)
      rw [show 255 - D = n by omega, ← hc] at hcut
      have hDE : D + 1 = E ∧ D ≤ 255 := by omega
      rw [← hE] at i1 i2
      rw [← hD]
      have HI := Lib.hid (And.intro i1 (And.intro i2 hcut))
      have hb0 := al (Below.refl _ w) (.cells (cells8 (List.replicate 32 0)).toArray 29)
      have ht0 := there_new w (cells8 (List.replicate 32 0)).toArray 29
      have HB0 := Lib.hid (And.intro hb0 (And.intro ht0 (And.intro (hv.below hb0) (hN.below hb0 (Nat.le_refl _)))))
      obtain ⟨N, hNN⟩ : ∃ N, N = P.length := ⟨_, rfl⟩
      have h0 : N ≠ 0 := fun e => hP (List.length_eq_zero_iff.1 (by rw [← hNN, e]))
      rw [← hNN] at HB0 hcl ⊢
      obtain ⟨_, _, he, hca, _⟩ := pairs_form (HB0.out.2.2.1)
      simp only [Value.slice.injEq] at he
      obtain ⟨-, -, rfl⟩ := he
      rw [← hNN] at hca
      have HNN := Lib.hid hNN
      clear hb0 ht0 hv hNN hN hR hS hF hl hn i1 i2 hcut hA hB hat s1 s2 hF1 hF2 hS1 hS2 hR1 hR2 hc ih
      have f1 : decide (N = 0) = false := by simpa using h0
      have f2 : decide ((N : Int) = 0) = false := by simp; omega
      have f3 : ((N : Int) == 0) = false := by rw [beq_eq_false_iff_ne]; omega
      have f4 : decide (D = 256) = false := by simp; omega
      have f5 : decide ((D : Int) = 256) = false := by simp; omega
      have f6 : ((D : Int) == 256) = false := by rw [beq_eq_false_iff_ne]; omega
      have q1 : (0 : Int) ≤ (c : Int) := by omega
      have q2 : (c : Int) ≤ (N : Int) := by omega
      have q3 : (N : Int) ≤ (ca : Int) := by omega
      have q4 : (c : Int) ≤ (ca : Int) := by omega
      have hw : IntKind.i64.wrap ((D : Int) + 1) = (E : Int) := by rw [IntKind.wrap_i64]; omega
      obtain ⟨q, hq⟩ : ∃ q, q = w.heap.size := ⟨_, rfl⟩
      have HQ := Lib.hid hq
      clear hq hD hE
      go_enter Try.func63, Try.ntmps63
      go_wp2_with fail
      refine (HI.out.2.2 _ (w.alloc (.cells (cells8 (List.replicate 32 0)).toArray 29)) HB0.out.2.2.1).mono ?_
      rintro e W1 ⟨rfl, hb⟩
      have H1 := Lib.hid (And.intro (HB0.out.1.trans (hb.mono HB0.out.1.size)) (And.intro ((Keeps.of_below (X := fun _ => False) hb).there HB0.out.2.1 (by decide) (fun h => h)) (And.intro (HB0.out.2.2.1.below hb) (HB0.out.2.2.2.below hb (Nat.le_refl _)))))
      rw [← HQ.out] at H1 ⊢
      clear hb HB0
      go_wp2_with fail
      refine wp_region_sched (fun W => True) [.t 0, .t 1, .t 2, .t 3, .t 4, .t 5, .t 7, .t 8, .t 9, .t 10, .t 11, .t 12, .e 6 false, .e 13 false, .e 14 false, .e 15 false] (by kernel_rfl) (by kernel_rfl) (by intro c a d v w h; cases d <;> exact h) ?_
      have H2 := Lib.hid (show Below w.heap.size w W1.drew ∧ W1.drew.there q 0 32 ∧ PairsAt W1.drew (.slice (some ⟨ba, oa, none⟩) N ca) P ∧ SumsAt W1.drew (.slice (some ⟨bn, on, none⟩) 257 cn) nones from ⟨by rw [← HQ.out]; exact H1.out.1.drew, H1.out.2.1, H1.out.2.2.1.below (Below.refl _ _).drew, H1.out.2.2.2.below (Below.refl _ _).drew (Nat.le_refl _)⟩)
      clear H1
      generalize W1.drew = V at *
      iterate 12
        refine wpS_t rfl (v := ?_) (by rfl) (fun W => ?_) ?_
        rotate_left
        · go_simp
          try rfl
        try simp only [Act.put, List.setIfInBounds_toArray, List.set_cons_zero, List.set_cons_succ]
      have hPt : PairsAt V (.slice (some ⟨ba, oa, none⟩) c ca) (P.take c) := by
        have h := H2.out.2.2.1
        rw [HNN.out] at h
        exact h.take (by rw [← HNN.out]; exact hcl)
      have hPd : PairsAt V (.slice (if ca = c then some ⟨ba, oa, none⟩ else some ⟨ba, oa + c * 33, none⟩) (N - c) (ca - c)) (P.drop c) := by
        have h := H2.out.2.2.1
        rw [HNN.out] at h
        have h2 := h.drop' (i := c) (by rw [← HNN.out]; exact hcl)
        rw [← HNN.out] at h2
        exact h2
      have HPP := Lib.hid (And.intro hPt hPd)
      clear hPt hPd
      refine wpS_e rfl (by rfl) (fun K hK => ?_)
      go_simp
      refine (HI.out.1 _ _ V HPP.out.1 H2.out.2.2.2).mono ?_
      rintro e V1 ⟨rfl, hb⟩
      have H3 := Lib.hid (And.intro (H2.out.1.trans (hb.mono H2.out.1.size)) (And.intro ((Keeps.of_below (X := fun _ => False) hb).there H2.out.2.1 (by decide) (fun h => h)) (And.intro (HPP.out.2.below hb) (H2.out.2.2.2.below hb (Nat.le_refl _)))))
      clear hb H2 HPP
      refine hK _ _ ?_; clear hK K
      try simp only [Act.put, List.setIfInBounds_toArray, List.set_cons_zero, List.set_cons_succ]
      refine wpS_e rfl (by rfl) (fun K hK => ?_)
      go_simp
      refine (HI.out.2.1 _ _ V1 H3.out.2.2.1 H3.out.2.2.2).mono ?_
      rintro e V2 ⟨rfl, hb⟩
      have H4 := Lib.hid (And.intro (H3.out.1.trans (hb.mono H3.out.1.size)) ((Keeps.of_below (X := fun _ => False) hb).there H3.out.2.1 (by decide) (fun h => h)))
      clear hb H3
      refine hK _ _ ?_; clear hK K
      try simp only [Act.put, List.setIfInBounds_toArray, List.set_cons_zero, List.set_cons_succ]
      refine wpS_e rfl (by rfl) (fun K hK => ?_)
      go_simp
      refine (sd_any A B V2).mono ?_
      rintro e V3 ⟨rfl, hb⟩
      have H5 := Lib.hid (And.intro (H4.out.1.trans (hb.mono H4.out.1.size)) ((Keeps.of_below (X := fun _ => False) hb).there H4.out.2 (by decide) (fun h => h)))
      clear hb H4
      refine hK _ _ ?_; clear hK K
      try simp only [Act.put, List.setIfInBounds_toArray, List.set_cons_zero, List.set_cons_succ]
      refine wpS_e rfl (by rfl) (fun K hK => ?_)
      refine wp_store_sum _ _ (by rfl) q 0 (sd A B) (by rfl) (by rfl) H5.out.2 ?_
      refine hK _ _ ?_; clear hK K
      try simp only [Act.put]
      refine wpS_done ?_
      go_wp2_with fail
      all_goals exact bodyPost_ret (results_sum Try.results63 _ _ _ _ rfl (World.there_setCells H5.out.2 _ _ _)) rfl ⟨rfl, setCells_below _ (by rw [HQ.out]; exact Nat.le_refl _) _ _ _ _ H5.out.1⟩
end Go.Proofs.Ytfmgoehnbaiamaa
-- Walk: shows.told.tell.
namespace Go.Proofs.Ytfmgoehnbaiamaa
/-- A sum with one bit more. -/
def setBit (k : Sum) (d : Nat) : Sum := Vector.ofFn fun i : Fin 32 => if i.1 = d / 8 then k[i] ||| UInt8.ofNat (2 ^ (7 - d % 8)) else k[i]
theorem setBit_get (k : Sum) (d j : Nat) (hj : j < 32) : (setBit k d).toList.getD j 0 = if j = d / 8 then k.toList.getD j 0 ||| UInt8.ofNat (2 ^ (7 - d % 8)) else k.toList.getD j 0 := by
  have e1 : (setBit k d).toList.getD j 0 = (setBit k d)[j] := by simp [List.getD_eq_getElem?_getD, hj]
  have e2 : k.toList.getD j 0 = k[j] := by simp [List.getD_eq_getElem?_getD, hj]
  rw [e1, e2]
  simp [setBit]
theorem or_bit : ∀ (x : Fin 256) (a b : Fin 8), ((UInt8.ofNat x.val ||| UInt8.ofNat (2 ^ (7 - a.val))).toNat >>> (7 - b.val)) % 2 = if a = b then 1 else (x.val >>> (7 - b.val)) % 2 := by decide +kernel
theorem bit_set (k : Sum) (d j : Nat) (hd : d < 256) (hj : j < 256) : (Keys.kn (setBit k d)).testBit (255 - j) = if j = d then true else (Keys.kn k).testBit (255 - j) := by
  rw [Keys.bit_odd, Keys.bit_odd, key_bit (setBit k d) j hj, key_bit k j hj, setBit_get k d (j / 8) (by omega)]
  by_cases h8 : j / 8 = d / 8
  · rw [if_pos h8]
    have h := or_bit ⟨(k.toList.getD (j / 8) 0).toNat, (k.toList.getD (j / 8) 0).toNat_lt⟩ ⟨d % 8, Nat.mod_lt _ (by decide)⟩ ⟨j % 8, Nat.mod_lt _ (by decide)⟩
    simp only [UInt8.ofNat_toNat, Fin.mk.injEq] at h
    rw [h]
    by_cases hjd : j = d
    · subst hjd; simp
    · have : ¬ d % 8 = j % 8 := by omega
      rw [if_neg this, if_neg hjd]
  · have hjd : ¬ j = d := fun e => h8 (by rw [e])
    rw [if_neg h8, if_neg hjd]
/-- What has been told so far. -/
structure ToldAt (W : World) (t : Nat) (which : Sum) (v : Value) (S : List Sum) (base : Nat) : Prop where
  row : W.rangeAt t 0 (cellsOf which ++ [v])
  th : W.there t 0 33
  own : W.ownsRow base 29 32 v S.length (cellsAll S)
  ne : ∀ g, v.ownBlock = some g → g ≠ t
theorem ToldAt.below {W W' : World} {t : Nat} {which : Sum} {v : Value} {S : List Sum} {base : Nat} (h : ToldAt W t which v S base) (hb : Below W.heap.size W W') : ToldAt W' t which v S base :=
  have kk := Keeps.of_below (X := fun _ => False) hb
  ⟨kk.range h.row (fun h => h), kk.there h.th (by decide) (fun h => h), kk.owns h.own (fun _ _ h => h), h.ne⟩
theorem ToldAt.byte {W : World} {t : Nat} {which : Sum} {v : Value} {S : List Sum} {base : Nat} (h : ToldAt W t which v S base) {i : Nat} (hi : i < 32) : W.cell? ⟨t, i, none⟩ = some (.int .u8 (((which.toList.getD i 0).toNat : Nat) : Int)) := by
  have := h.row i (u8v (which.toList.getD i 0)) (by rw [List.getElem?_append_left (by rw [length_cellsOf]; exact hi)]; exact cell_key which hi)
  rwa [Nat.zero_add] at this
theorem ToldAt.slice {W : World} {t : Nat} {which : Sum} {v : Value} {S : List Sum} {base : Nat} (h : ToldAt W t which v S base) : W.cell? ⟨t, 32, none⟩ = some v := by
  have := h.row 32 v (by rw [List.getElem?_append_right (by rw [length_cellsOf]; omega), length_cellsOf]; rfl)
  rwa [Nat.zero_add] at this
theorem there_setCell {W : World} {b o n : Nat} (h : W.there b o n) (c p : Nat) (x : Value) : (W.setCell ⟨c, p, none⟩ x).there b o n := by
  have := World.there_setCells h c p [x]
  exact this
theorem ToldAt.lt {W : World} {t : Nat} {which : Sum} {v : Value} {S : List Sum} {base : Nat} (h : ToldAt W t which v S base) : t < W.heap.size := there_lt h.th (by decide)
theorem ToldAt.mark {W : World} {t : Nat} {which : Sum} {v : Value} {S : List Sum} {base d C R : Nat} (h : ToldAt W t which v S base) (hd : d < 256) (hC : C = (which.toList.getD (d / 8) 0).toNat) (hR : R = (UInt8.ofNat C ||| UInt8.ofNat (2 ^ (7 - d % 8))).toNat) :
    ToldAt (W.setCell ⟨t, d / 8, none⟩ (.int .u8 (R : Int))) t (setBit which d) v S base := by
  have kk : Keeps (· = t) W (W.setCell ⟨t, d / 8, none⟩ (.int .u8 (R : Int))) := (Keeps.refl (· = t) W).setCell (p := ⟨t, d / 8, none⟩) (.inl rfl) _
  refine ⟨fun j u hj => ?_, there_setCell h.th _ _ _, kk.owns h.own (fun k hk e => h.ne k hk e), h.ne⟩
  have hl : (cellsOf (setBit which d)).length = 32 := length_cellsOf _
  by_cases hjd : j = d / 8
  · subst hjd
    rw [List.getElem?_append_left (by rw [hl]; omega), cell_key _ (by omega), Option.some.injEq] at hj
    rw [Nat.zero_add, World.cell?_setCell_same _ _ _ (h.byte (i := d / 8) (by omega)), ← hj, setBit_get which d (d / 8) (by omega), if_pos rfl, hR, hC, UInt8.ofNat_toNat]
    rfl
  · have hne : (⟨t, d / 8, none⟩ : Addr) ≠ ⟨t, 0 + j, none⟩ := fun e => hjd (by have := congrArg Addr.off e; simp at this; exact this.symm)
    rw [World.cell?_setCell_other _ _ _ _ hne]
    refine h.row j u ?_
    by_cases hj32 : j < 32
    · rw [List.getElem?_append_left (by rw [hl]; exact hj32), cell_key _ hj32, setBit_get which d j hj32, if_neg hjd] at hj
      rw [List.getElem?_append_left (by rw [length_cellsOf]; exact hj32), cell_key _ hj32]
      exact hj
    · rw [List.getElem?_append_right (by rw [hl]; omega), hl] at hj
      rw [List.getElem?_append_right (by rw [length_cellsOf]; omega), length_cellsOf]
      exact hj
/-- A list of sides, laid anew. -/
theorem ToldAt.lay {W : World} {t : Nat} {which : Sum} {v v' : Value} {S' : List Sum} {base : Nat} (h : W.rangeAt t 0 (cellsOf which ++ [v])) (ht : W.there t 0 33) (ho : W.ownsRow base 29 32 v' S'.length (cellsAll S')) (hne : ∀ g, v'.ownBlock = some g → g ≠ t) :
    ToldAt (W.setCell ⟨t, 32, none⟩ v') t which v' S' base := by
  have kk : Keeps (· = t) W (W.setCell ⟨t, 32, none⟩ v') := (Keeps.refl (· = t) W).setCell (p := ⟨t, 32, none⟩) (.inl rfl) _
  refine ⟨fun j u hj => ?_, there_setCell ht _ _ _, kk.owns ho (fun k hk e => hne k hk e), hne⟩
  have hl : (cellsOf which).length = 32 := length_cellsOf _
  by_cases hj32 : j = 32
  · subst hj32
    rw [List.getElem?_append_right (by rw [hl]; omega), hl] at hj
    simp only [Nat.sub_self, List.getElem?_cons_zero, Option.some.injEq] at hj
    have h0 := h 32 v (by rw [List.getElem?_append_right (by rw [hl]; omega), hl]; rfl)
    rw [Nat.zero_add] at h0 ⊢
    rw [World.cell?_setCell_same _ _ _ h0, hj]
  · have hne2 : (⟨t, 32, none⟩ : Addr) ≠ ⟨t, 0 + j, none⟩ := fun e => hj32 (by have := congrArg Addr.off e; simp at this; exact this.symm)
    rw [World.cell?_setCell_other _ _ _ _ hne2]
    refine h j u ?_
    have hjl : j < 32 := by
      have := (List.getElem?_eq_some_iff.1 hj).1
      rw [List.length_append, hl] at this
      simp at this
      omega
    rw [List.getElem?_append_left (by rw [hl]; exact hjl)] at hj ⊢
    exact hj
theorem shl_wrap (m : Nat) (hm : m ≤ 7) : IntKind.u8.wrap ((2 : Int) ^ min m 8) = ((2 ^ m : Nat) : Int) := by
  match m, hm with
  | 0, _ => decide +kernel
  | 1, _ => decide +kernel
  | 2, _ => decide +kernel
  | 3, _ => decide +kernel
  | 4, _ => decide +kernel
  | 5, _ => decide +kernel
  | 6, _ => decide +kernel
  | 7, _ => decide +kernel
theorem or_all : ∀ (x : Fin 256) (a : Fin 8), bits .or .u8 ((x.val : Nat) : Int) ((2 ^ a.val : Nat) : Int) = (((UInt8.ofNat x.val ||| UInt8.ofNat (2 ^ a.val)).toNat : Nat) : Int) := by decide +kernel
noncomputable def tellCode : Code := (Try.f61.body).getD .skip
set_option maxRecDepth 100000 in
set_option maxHeartbeats 2000000 in
theorem tell_any (t d : Nat) (s which : Sum) (v : Value) (S : List Sum) (base : Nat) (w : World) (hd : d < 256) (h : ToldAt w t which v S base) (hbt : base ≤ t) (hS : S.length < 1000000) :
    Calls Try.prog 61 #[.pointer (some ⟨t, 0, none⟩), .int .i64 (d : Int), sv s] w fun e w' => e = .returned (.tuple #[]) ∧ (∃ v', ToldAt w' t (setBit which d) v' (S ++ [s]) base) ∧ Below base w w' := by
  have hb0 := al (Below.refl _ w) (.cells (cellsOf s).toArray 29)
  have H0 := Lib.hid (And.intro hb0 (And.intro (range_new w (cellsOf s).toArray 29 _ rfl) (h.below hb0)))
  have H0z := Lib.hid h.lt
  have hbw := Lib.hid (show base ≤ w.heap.size by have := h.lt; omega)
  have hc := (h.below hb0).byte (i := d / 8) (by omega)
  obtain ⟨C, hC⟩ : ∃ C, C = (which.toList.getD (d / 8) 0).toNat := ⟨_, rfl⟩
  rw [← hC] at hc
  obtain ⟨z, hz⟩ : ∃ z, z = w.heap.size := ⟨_, rfl⟩
  have HZ := Lib.hid (And.intro hz hC)
  rw [← hz] at H0z
  obtain ⟨D, hD⟩ : ∃ D, D = d / 8 := ⟨_, rfl⟩
  obtain ⟨m, hm⟩ : ∃ m, m = 7 - d % 8 := ⟨_, rfl⟩
  have w8 : IntKind.i64.wrap ((d : Int) / 8) = (D : Int) := by rw [IntKind.wrap_i64]; omega
  have wm : IntKind.i64.wrap (7 - (d : Int).tmod 8) = (m : Int) := by rw [Int.tmod_eq_emod_of_nonneg (by omega), IntKind.wrap_i64]; omega
  have hm7 : m ≤ 7 := by omega
  have hsh := shl_wrap m hm7
  have hor := or_all ⟨C, by rw [hC]; exact UInt8.toNat_lt _⟩ ⟨m, by omega⟩
  obtain ⟨B, hB⟩ : ∃ B, B = 2 ^ m := ⟨_, rfl⟩
  obtain ⟨R, hR⟩ : ∃ R, R = (UInt8.ofNat C ||| UInt8.ofNat B).toNat := ⟨_, rfl⟩
  simp only at hor
  rw [← hB] at hsh hor
  rw [← hR] at hor
  rw [← hD] at hc
  have d0 : (0 : Int) ≤ (D : Int) := by omega
  have d1 : (D : Int) < 32 := by omega
  have d2 : D < 32 := by omega
  have HD := Lib.hid (And.intro hD (And.intro hm (And.intro hB (And.intro hR hd))))
  clear hz hC hb0 h hD hm hB hR hd hm7
  go_enter Try.func61, Try.ntmps61
  go_wp2_with fail
  rw [← HZ.out.1] at H0 ⊢
  have H1 := Lib.hid (show Below w.heap.size w (w.alloc (.cells (cellsOf s).toArray 29)).drew ∧ (w.alloc (.cells (cellsOf s).toArray 29)).drew.rangeAt z 0 (cellsOf s) ∧ ToldAt (w.alloc (.cells (cellsOf s).toArray 29)).drew t which v S base from ⟨by rw [← HZ.out.1]; exact H0.out.1.drew, H0.out.2.1, H0.out.2.2.below (Below.refl _ _).drew⟩)
  have hcd : (World.drew (w.alloc (.cells (cellsOf s).toArray 29))).cell? ⟨t, D, none⟩ = some (.int .u8 (C : Int)) := hc
  clear H0 hc
  refine wp_region_sched (fun W => True) [.t 0, .t 1, .t 2, .t 3, .t 4, .t 5, .t 6, .t 8, .t 9, .t 10, .t 11, .t 13, .t 14, .t 15, .e 7 false, .t 12, .t 16, .e 17 false] (by kernel_rfl) (by kernel_rfl) (by intro c a d v w h; cases d <;> exact h) ?_
  generalize World.drew (w.alloc (.cells (cellsOf s).toArray 29)) = V at *
  iterate 14
    refine wpS_t rfl (v := ?_) (by rfl) (fun W => ?_) ?_
    rotate_left
    · go_simp
      try rfl
    try simp only [Act.put, List.setIfInBounds_toArray, List.set_cons_zero, List.set_cons_succ]
  refine wpS_e rfl (by rfl) (fun K hK => ?_)
  go_simp
  refine hK _ _ ?_; clear hK K
  try simp only [Act.put, List.setIfInBounds_toArray, List.set_cons_zero, List.set_cons_succ]
  iterate 2
    refine wpS_t rfl (v := ?_) (by rfl) (fun W => ?_) ?_
    rotate_left
    · go_simp
      try rfl
    try simp only [Act.put, List.setIfInBounds_toArray, List.set_cons_zero, List.set_cons_succ]
  have f1 : V.frozen? ⟨t, D, none⟩ = false := by have := (H1.out.2.2.th D (by omega)).2; rwa [Nat.zero_add] at this
  refine wpS_e rfl (by rfl) (fun K hK => ?_)
  go_simp
  refine hK _ _ ?_; clear hK K
  try simp only [Act.put, List.setIfInBounds_toArray, List.set_cons_zero, List.set_cons_succ]
  refine wpS_done ?_
  have hmk := H1.out.2.2.mark HD.out.2.2.2.2 HZ.out.2 (R := R) (by rw [HD.out.2.2.2.1, HD.out.2.2.1, HD.out.2.1])
  rw [← HD.out.1] at hmk
  have kk : Keeps (· = t) V (V.setCell ⟨t, D, none⟩ (.int .u8 (R : Int))) := (Keeps.refl (· = t) V).setCell (p := ⟨t, D, none⟩) (.inl rfl) _
  have hzt : z ≠ t := by
    have := H1.out.2.2.lt
    have h2 := H0z.out
    omega
  have H2 := Lib.hid (And.intro ((H1.out.1.mono hbw.out).trans (kk.below (Nat.le_trans hbw.out H1.out.1.size) (fun k hk => by rw [hk]; exact hbt))) (And.intro (kk.range H1.out.2.1 hzt) hmk))
  clear hmk kk hzt H1 f1 hcd w8 wm hsh hor d0 d1 d2
  generalize V.setCell ⟨t, D, none⟩ (.int .u8 (R : Int)) = V1 at *
  go_wp2_with fail
  refine wp_region_sched (fun W => W.cell? ⟨t, 32, none⟩ = some v) [.t 0, .t 1, .t 2, .t 3, .t 4, .s 5, .e 6 true, .e 7 true, .e 8 false, .t 9, .t 10, .t 11, .e 12 false] (by kernel_rfl) (by kernel_rfl) (by intro c a d v w h; cases d <;> exact h) ?_
  have H3 := Lib.hid (And.intro H2.out.1.drew (And.intro (show V1.drew.rangeAt z 0 (cellsOf s) from H2.out.2.1) (H2.out.2.2.below (Below.refl _ _).drew)))
  clear H2
  generalize V1.drew = V2 at *
  iterate 5
    refine wpS_t rfl (v := ?_) (by rfl) (fun W => ?_) ?_
    rotate_left
    · go_simp
      try rfl
    try simp only [Act.put, List.setIfInBounds_toArray, List.set_cons_zero, List.set_cons_succ]
  refine wpS_s (by exact H3.out.2.2.slice) rfl (v := ?_) (by rfl) (fun W hSW => ?_) ?_
  rotate_left
  · go_simp
    try rfl
  try simp only [Act.put, List.setIfInBounds_toArray, List.set_cons_zero, List.set_cons_succ]
  refine wpS_k rfl (by rfl) (fun K hK => ?_)
  refine wp_load_sum _ (by rfl) z 0 (by rfl) s H3.out.2.1 ?_
  refine hK _ _ ⟨by exact H3.out.2.2.slice, ?_⟩; clear hK K
  try simp only [Act.put, List.setIfInBounds_toArray, List.set_cons_zero, List.set_cons_succ]
  refine wpS_k rfl (by rfl) (fun K hK => ?_)
  refine wp_build_sums 1 _ (by rfl) [s] rfl (by omega) (by omega) (by rfl) ?_
  have hb2 := al (Below.refl V2.heap.size V2) (.cells (cellsAll [s]).toArray 29)
  have H4 := Lib.hid (And.intro (H3.out.1.trans (hb2.mono (Nat.le_trans hbw.out H3.out.1.size))) (And.intro (range_new V2 (cellsAll [s]).toArray 29 _ rfl) (H3.out.2.2.below hb2)))
  clear H3 hb2
  generalize V2.heap.size = y at *
  generalize V2.alloc (.cells (cellsAll [s]).toArray 29) = V3 at *
  refine hK _ _ ⟨by exact H4.out.2.2.slice, ?_⟩; clear hK K
  try simp only [Act.put, List.setIfInBounds_toArray, List.set_cons_zero, List.set_cons_succ]
  refine wpS_e rfl (by rfl) (fun K hK => ?_)
  refine wp_append_sums _ _ (by rfl) base v S [s] S.length 1 rfl rfl (by rfl) H4.out.2.2.own y 0 1 (by rfl) H4.out.2.1 (by omega) (by omega) (Nat.le_trans hbw.out H4.out.1.size) ?_
  intro g cap V4 ho4 hg4 hat4 hlt4
  have kk : Keeps (fun k => v.ownBlock = some k) V3 V4 := Keeps.of_grown hg4 (fun k hk => hk)
  have hgt : g ≠ t := by
    rcases hat4 with h | h
    · exact H4.out.2.2.ne g h
    · have := H4.out.2.2.lt; omega
  have H5 := Lib.hid (And.intro (H4.out.1.trans (kk.below (Nat.le_trans hbw.out H4.out.1.size) (fun k hk => own_base H4.out.2.2.own k hk))) (And.intro (kk.range H4.out.2.2.row (fun h => H4.out.2.2.ne t h rfl)) (And.intro (kk.there H4.out.2.2.th (by decide) (fun h => H4.out.2.2.ne t h rfl)) (And.intro ho4 hgt))))
  clear kk hgt hat4 hlt4 hg4 ho4 H4
  refine hK _ _ ?_; clear hK K
  try simp only [Act.put, List.setIfInBounds_toArray, List.set_cons_zero, List.set_cons_succ]
  iterate 3
    refine wpS_t rfl (v := ?_) (by rfl) (fun W => ?_) ?_
    rotate_left
    · go_simp
      try rfl
    try simp only [Act.put, List.setIfInBounds_toArray, List.set_cons_zero, List.set_cons_succ]
  have h32 : V4.cell? ⟨t, 32, none⟩ = some v := by
    have := H5.out.2.1 32 v (by rw [List.getElem?_append_right (by rw [length_cellsOf]; omega), length_cellsOf]; rfl)
    rwa [Nat.zero_add] at this
  have f32 : V4.frozen? ⟨t, 32, none⟩ = false := by have := (H5.out.2.2.1 32 (by omega)).2; rwa [Nat.zero_add] at this
  refine wpS_e rfl (by rfl) (fun K hK => ?_)
  go_simp
  refine hK _ _ ?_; clear hK K
  try simp only [Act.put, List.setIfInBounds_toArray, List.set_cons_zero, List.set_cons_succ]
  refine wpS_done ?_
  clear h32 f32
  have hfin : ToldAt (V4.setCell ⟨t, 32, none⟩ (.slice (some ⟨g, 0, none⟩) (S.length + 1) cap)) t (setBit which d) (.slice (some ⟨g, 0, none⟩) (S.length + 1) cap) (S ++ [s]) base :=
    ToldAt.lay H5.out.2.1 H5.out.2.2.1 (by rw [List.length_append]; exact H5.out.2.2.2.1) (fun k hk => by
      simp only [Value.ownBlock, Option.some.injEq] at hk
      rw [← hk]; exact H5.out.2.2.2.2)
  have hk5 : Keeps (· = t) V4 (V4.setCell ⟨t, 32, none⟩ (.slice (some ⟨g, 0, none⟩) (S.length + 1) cap)) := (Keeps.refl (· = t) V4).setCell (p := ⟨t, 32, none⟩) (.inl rfl) _
  have H6 := Lib.hid (And.intro hfin (H5.out.1.trans (hk5.below (Nat.le_trans hbw.out H5.out.1.size) (fun k hk => by rw [hk]; exact hbt))))
  clear hfin hk5
  exact bodyPost_end (results_none rfl _ _ _) rfl ⟨rfl, ⟨_, H6.out.1⟩, H6.out.2⟩
end Go.Proofs.Ytfmgoehnbaiamaa
-- Walk: maps: Pairs, and that they stand in a row of their own.
namespace Go.Proofs.Ytfmgoehnbaiamaa
open Go.Maps (Keyed)
set_option maxRecDepth 100000 in
theorem clip_pairs_at (w : World) (b o cap : Nat) (P : List Keys.Pr) (h : PairsAt w (.slice (some ⟨b, o, none⟩) P.length cap) P) : Calls Try.prog 55 #[.slice (some ⟨b, o, none⟩) P.length cap] w fun e w' => e = .returned (.slice (some ⟨b, o, none⟩) P.length P.length) ∧ PairsAt w (.slice (some ⟨b, o, none⟩) P.length P.length) P ∧ w = w' := by
  obtain ⟨a, cap', cs, he, h1, h2, h3, h4, h5⟩ := h
  simp only [Value.slice.injEq, true_and] at he
  obtain ⟨rfl, rfl⟩ := he
  have hn : PairsAt w (.slice (some ⟨b, o, none⟩) P.length P.length) P := ⟨_, P.length, cs, rfl, Nat.le_refl _, by omega, h3, h4, h5⟩
  have HN := Lib.hid hn; clear hn h3 h4 h5
  obtain ⟨n, hn⟩ : ∃ n, n = P.length := ⟨_, rfl⟩
  rw [← hn] at HN h1 ⊢
  clear hn
  have k1 : (n : Int) ≤ (cap : Int) := by omega
  unfold maxLen at h2
  go_enter Try.func55, Try.ntmps55
  go_wp2_with fail
  exact bodyPost_ret (results_tmp rfl _ _ _) rfl ⟨rfl, HN.out, rfl⟩
set_option maxRecDepth 100000 in
set_option maxHeartbeats 2000000 in
theorem mpairs_at (w : World) (p b n : Nat) (l : List Ent) (h : MapIn w p b n l) (hn : l.length < 100000) : Calls Try.prog 22 #[.pointer (some ⟨p, 0, none⟩)] w fun e w' => ∃ b cap, e = .returned (.slice (some ⟨b, 0, none⟩) (prs l).length cap) ∧ PairsAt w' (.slice (some ⟨b, 0, none⟩) (prs l).length cap) (prs l) ∧ Below w.heap.size w w' := by
  obtain ⟨i0, z0p, hi0, hz0, hs0, hb0, hzs0⟩ := info_pair
  have hc := h.cell
  have hsize : Maps.size (encD l) = l.length := by simp [Maps.size, encD]
  have HI := Lib.hid (And.intro hi0 (And.intro hz0 (And.intro hs0 (And.intro hb0 hzs0))))
  have HM := Lib.hid h
  have HZ := Lib.hid hsize
  have HL := Lib.hid hn
  clear hi0 hz0 hs0 hb0 hzs0 h hsize hn
  obtain ⟨N, hN⟩ : ∃ N, N = l.length := ⟨_, rfl⟩
  rw [← hN] at HZ HL
  have HN := Lib.hid hN
  clear hN
  go_enter Try.func22, Try.ntmps22
  go_wp2_with (first
    | (go_at_call 49; refine (mnone_live _ p b hc).mono ?_; rintro e w1 ⟨rfl, rfl⟩)
    | (at_len; refine wpList_len_own _ rfl _ 50 rfl 29 34 Try.underlying50 rEl b n (encD l) rfl HM.out.map ?_; rw [HZ.out])
    | (at_make; refine wpList_make_own _ rfl _ _ _ rfl w.heap.size 36 i0 z0p 33 Try.underlying22 HI.out.1 HI.out.2.1 HI.out.2.2.1 .i64 .i64 (N : Int) N rfl rfl rfl (by rw [HI.out.2.2.2.1]; have := HL.out; omega) (by unfold maxLen; have := HL.out; omega) (Nat.le_refl _) ?_; intro w2 ho2 hg2; have HM2 := Lib.hid (HM.out.keep (X := fun _ => False) (Keeps.of_grown hg2 (fun k hk => by cases hk)) (fun h => h) (fun h => h) (fun _ _ _ _ h => h)); have hc2 := HM2.out.cell; have HB2 := Lib.hid (Keeps.below (B := w.heap.size) (Keeps.of_grown (X := fun _ => False) hg2 (fun k hk => by cases hk)) (Nat.le_refl _) (fun _ h => h.elim)); have HO2 := Lib.hid ho2; clear hg2 hc ho2)
    | (at_range; refine wpList_range_own _ rfl _ 50 rfl 29 34 keyLaw Try.underlying50 rEl b n (encD l) rfl HM2.out.map ?_; intro w3 hrg3 hg3 hs3))
  have k3 : Keeps (fun _ => False) w2 w3 := Keeps.of_grown hg3 (fun k hk => by cases hk)
  have hM3 : MapIn w3 p b n l := HM2.out.keep k3 (fun h => h) (fun h => h) (fun _ _ _ _ h => h)
  have hB3 : Below w.heap.size w w3 := HB2.out.trans (k3.below HB2.out.size (fun _ h => h.elim))
  have hO3 := k3.owns HO2.out (fun _ _ h => h)
  rw [HZ.out] at hrg3
  have hq : w.heap.size < w2.heap.size := own_lt HO2.out rfl
  have hbq : b < w2.heap.size := HM2.out.lt.2
  have hbw : b < w.heap.size := HM.out.lt.2
  have H3 := Lib.hid (And.intro hM3 (And.intro hB3 (And.intro hO3 hrg3)))
  have HQ := Lib.hid (And.intro hq (And.intro hbq hbw))
  clear hrg3 hg3 hs3 k3 hM3 hB3 hO3 hq hbq hbw HM2 hc2 HB2 HO2
  generalize w2.heap.size = q at *
  go_frame
  go_loopw [3] (fun s W => ∃ (left : Lit → Bool) (cnt k : Nat) (cs : List (PE × List UInt8)), s = .slice (some ⟨w.heap.size, 0, none⟩) k N ∧ cs.length = k ∧ k + cnt ≤ N ∧ Coll l left cs ∧ (∀ c ∈ cs, BytesAt W (peV c.1) c.2 ∧ ∀ i, (peV c.1).ownBlock = some i → w.heap.size < i) ∧ MapIn W p b n l ∧ Below w.heap.size w W ∧
    W.ownsRow w.heap.size 36 33 (.slice (some ⟨w.heap.size, 0, none⟩) k N) k (cellsP (cs.map Prod.fst)) ∧ W.ranges Try.prog 29 rEl b q n (encD l) left cnt) (fun _ W => W.rangeLeft b q)
  case atStart => exact ⟨_, N, 0, [], rfl, rfl, by omega, Coll.start l, (fun _ h => (List.not_mem_nil h).elim), H3.out.1, H3.out.2.1, H3.out.2.2.1, H3.out.2.2.2⟩
  case round =>
    clear H3
    obtain ⟨left, cnt, k, cs, rfl, hk, hkc, hcoll, hbs, hM, hB, hO, hrg⟩ := hrel
    have HK := Lib.hid (And.intro hk (And.intro hkc hcoll))
    have HR := Lib.hid (And.intro hbs (And.intro hM (And.intro hB (And.intro hO hrg))))
    clear hk hkc hcoll hbs hM hB hO hrg
    go_wp2_with (at_next; refine wpList_next_ranges _ rfl _ rfl 29 keyLaw rEl (fun x : Sum => sv x) (fun c : Option Addr × Nat × Nat => Value.slice c.1 c.2.1 c.2.2) (fun key kl h => by obtain ⟨x, hx, _⟩ := keyOf_inv h; exact ⟨x, hx⟩) (fun v y h => rEl_inv h) b q n _ left cnt rfl HR.out.2.2.2.2 ?_ ?_)
    case refine_1 =>
      intro h0 hl0
      obtain ⟨hbs, hM, hB, hO, hrg⟩ := HR.out
      obtain ⟨hk, hkc, hcoll⟩ := HK.out
      rcases hO.2 with ⟨hv, _⟩ | ⟨g', cap', cur, hv, hbase, hg, hnc, hcm, hsz, htk⟩
      · cases hv
      simp only [Value.slice.injEq, Option.some.injEq, Addr.mk.injEq, and_true, true_and] at hv
      obtain ⟨rfl, rfl⟩ := hv
      have hlen : (cs.map Prod.fst).length = k := by rw [List.length_map, hk]
      have hsort := sort_any wr w.heap.size N (cs.map Prod.fst) cur _ hg (by rw [hlen, Nat.mul_comm]; exact htk) (by rw [hlen]; exact hnc) hcm (by rw [hsz, Nat.mul_comm]) (by rw [hlen]; have := HL.out; omega)
      rw [hlen] at hsort
      have HSO := Lib.hid hsort
      have HX := Lib.hid (And.intro hl0 (And.intro hnc hcm))
      clear h0 hl0 hbs hM hB hO hrg hk hkc hcoll hbase hg hnc hcm hsz htk hlen hsort
      go_wp2_with fail
      refine HSO.out.mono ?_
      rintro e w5 ⟨rfl, l', hperm, hsorted, hr5, hk5, hlt5⟩
      obtain ⟨hbs, hM, hB, hO, hrg⟩ := HR.out
      obtain ⟨hk, hkc, hcoll⟩ := HK.out
      obtain ⟨cs', hp', rfl⟩ := perm_of_map Prod.fst hperm cs rfl
      have hdone := hcoll.done HX.out.1 hM.rise hp' (by
        have := hsorted
        rw [List.pairwise_map] at this
        exact this)
      have hlen : (prs l).length = k := by rw [← hdone, List.length_map, hp'.length_eq, hk]
      have hk5' : Keeps (fun i => i = w.heap.size) w5 w5 := Keeps.refl _ _
      have hbs5 : ∀ c ∈ cs', BytesAt w5 (peV c.1) c.2 := fun c hc => by
        have hc0 := hp'.mem_iff.1 hc
        obtain ⟨hb0, hb1⟩ := hbs c hc0
        exact bytes_keep hk5 hb0 (fun i hi hx => by have := hb1 i hi; omega)
      have hP : PairsAt w5 (.slice (some ⟨w.heap.size, 0, none⟩) (prs l).length N) (prs l) := ⟨_, N, cs', rfl, by rw [hlen]; exact HX.out.2.1, HX.out.2.2, hdone, hbs5, .inr ⟨_, 0, rfl, hr5⟩⟩
      have hB5 : Below w.heap.size w w5 := hB.trans (hk5.below hB.size (fun k hk => by rw [hk]; exact Nat.le_refl _))
      have H5 := Lib.hid (And.intro hP (And.intro hB5 hlen.symm))
      clear hP hB5 hbs5 hk5' hlen hdone hp' hbs hM hB hO hrg hk hkc hcoll hperm hsorted hr5 hk5 hlt5 HSO HX HK HR
      have hkl := H5.out.2.2
      rw [hkl]
      go_wp2_with (go_at_call 55; refine (clip_pairs_at w5 _ _ _ (prs l) H5.out.1).mono ?_; rintro e w6 ⟨rfl, hP6, rfl⟩; have H6 := Lib.hid hP6; clear hP6)
      refine bodyPost_ret (results_tmp rfl _ _ _) rfl ?_
      exact ⟨_, _, rfl, H6.out, H5.out.2.1⟩
    case refine_2 =>
      intro x ad m c kl y ps w4 cnt4 hkey hleft hR hat hrg4 hlt4 hg4 hs4 hen
      obtain ⟨x', hx', rfl⟩ := keyOf_inv hkey
      obtain rfl : x = x' := sv_inj hx'
      have hy : y = .held (.slice ad m c) := by
        simp only [rEl, Option.some.injEq, Prod.mk.injEq] at hR
        exact hR.1.symm
      subst hy
      obtain ⟨e0, he0, rfl, hev⟩ := at_found hat
      obtain ⟨hbs, hM, hB, hO, hrg⟩ := HR.out
      obtain ⟨hk, hkc, hcoll⟩ := HK.out
      have kk : Keeps (fun i => i = q) wr w4 := Keeps.of_grown hg4 (fun k hk => by cases hk; rfl)
      have hon := on_iter hrg
      have hM4 := hM.maps hon kk (by have := HQ.out; omega)
      have hv4 : BytesAt w4 (.slice ad m c) e0.2.2 := by rw [← hev]; exact (hM4.vals e0 he0).1
      have hlen4 : e0.2.2.length ≤ 256 := (hM4.vals e0 he0).2.2
      have hbs4 : ∀ c ∈ cs, BytesAt w4 (peV c.1) c.2 ∧ ∀ i, (peV c.1).ownBlock = some i → w.heap.size < i := fun c hc => ⟨bytes_maps hon kk (hbs c hc).1, (hbs c hc).2⟩
      have hB4 : Below w.heap.size w w4 := hB.trans (kk.below hB.size (fun k hk => by rw [hk]; exact Nat.le_of_lt HQ.out.1))
      have hO4 := kk.owns hO (fun k hk hx => by simp only [Value.ownBlock, Option.some.injEq] at hk; have := HQ.out; omega)
      have hmem : (e0.1, e0.2.2) ∈ prs l := List.mem_map.2 ⟨e0, he0, rfl⟩
      have hle := hrg4.left_eq
      have H4 := Lib.hid (And.intro hM4 (And.intro hv4 (And.intro hlen4 (And.intro hbs4 (And.intro hB4 (And.intro hO4 hrg4))))))
      have HY := Lib.hid (And.intro hleft (And.intro hmem (And.intro hlt4 (And.intro hrg.left_eq hs4))))
      have hsz4 : w.heap.size < w4.heap.size := own_lt hO4 rfl
      have HS4 := Lib.hid hsz4
      clear hkey hleft hR hat hrg4 hlt4 hg4 hs4 hev hx' hbs hM hB hO hrg hk hkc hcoll kk hon hM4 hv4 hlen4 hbs4 hB4 hO4 hmem hle HR hsz4
      generalize e0.2.2 = bs at *
      generalize e0.1 = x at *
      clear he0 e0
      go_wp2_with (refine wpList_var_sum (by rfl) rfl _ _ rfl x rfl rfl ?_; intro W6 hb6 hr6 _; have H6 := Lib.hid (And.intro hb6 hr6); clear hb6 hr6 hen)
      obtain ⟨z, hz⟩ : ∃ z, z = w4.heap.size := ⟨_, rfl⟩
      have hP : PR w p b n q z l N k cs (fun z => left z && !z.sameKey (.string x.toList)) cnt4 x (.slice ad m c) bs W6 := by
        obtain ⟨h1, h2, h3, h4, h5, h6, h7⟩ := H4.out
        have hb := H6.out.1
        have kk : Keeps (fun _ => False) w4 W6 := Keeps.of_below hb
        exact ⟨h1.below hb, bytes_below h2 hb (Nat.le_refl _), fun c hc => ⟨bytes_below (h4 c hc).1 hb (Nat.le_refl _), (h4 c hc).2⟩, h5.trans (hb.mono h5.size), kk.owns h6 (fun _ _ h => h), h7.kept (grown_below hb) (by simp) (by simp), by rw [hz]; exact H6.out.2, Nat.lt_of_lt_of_le HS4.out hb.size⟩
      have HP := Lib.hid hP.drew
      have HBL := Lib.hid H4.out.2.2.1
      rw [← hz]
      clear hP H4 H6 hz
      obtain ⟨lf, hlf⟩ : ∃ f : Lit → Bool, f = fun z => left z && !z.sameKey (.string x.toList) := ⟨_, rfl⟩
      rw [← hlf] at HP
      have HLF := Lib.hid hlf
      clear hlf
      refine wp_region_sched (fun V => PR w p b n q z l N k cs lf cnt4 x (.slice ad m c) bs V) [.t 0, .t 2, .s 1, .e 3 true, .e 4 true, .t 5, .e 6 false, .e 7 false, .t 8] (by kernel_rfl) (by kernel_rfl) (by intro c a d v w h; cases d <;> exact h) ?_
      change wpS _ _ _ _ _ _ _ (World.drew _)
      generalize W6.drew = V at *
      iterate 2
        refine wpS_t rfl (v := ?_) (by rfl) (fun W => ?_) ?_
        rotate_left
        · go_simp
          try rfl
        try simp only [Act.put, List.setIfInBounds_toArray, List.set_cons_zero, List.set_cons_succ]
      refine wpS_load_sum HP.out rfl (by rfl) _ (by rfl) z 0 (by rfl) x (fun W hW => hW.key) ?_
      try simp only [Act.put, List.setIfInBounds_toArray, List.set_cons_zero, List.set_cons_succ]
      refine wpS_k rfl (by rfl) (fun K hK => ?_)
      go_simp
      refine (clone_bytes V _ bs HP.out.val (by have := HBL.out; omega)).mono ?_
      rintro e V1 ⟨v1, rfl, hn1, hb1⟩
      have HP1 := Lib.hid (HP.out.next hb1)
      have HN1 := Lib.hid (show BytesNew V1 V.heap.size v1 bs from hn1)
      have hlv := HP.out.lt
      have HLV := Lib.hid hlv
      clear hn1 hb1 HP hlv
      refine hK _ _ ⟨by exact HP1.out, ?_⟩; clear hK K
      try simp only [Act.put, List.setIfInBounds_toArray, List.set_cons_zero, List.set_cons_succ]
      refine wpS_k rfl (by rfl) (fun K hK => ?_)
      go_simp
      refine (clip_bytes V1 V.heap.size v1 bs HN1.out).mono ?_
      rintro e V2 ⟨v2, rfl, hn2, rfl⟩
      obtain ⟨⟨ad2, cap2, rfl, h21, h22, h23⟩, h24⟩ := hn2
      have HN2 := Lib.hid (And.intro (show BytesAt V1 (peV (x, ad2, bs.length, cap2)) bs from ⟨ad2, cap2, rfl, h21, h22, h23⟩) (show ∀ i, (peV (x, ad2, bs.length, cap2)).ownBlock = some i → w.heap.size < i from fun i hi => Nat.lt_of_lt_of_le HLV.out (h24 i hi).1))
      clear h21 h22 h23 h24 HN1 HLV
      refine hK _ _ ⟨by exact HP1.out, ?_⟩; clear hK K
      try simp only [Act.put, List.setIfInBounds_toArray, List.set_cons_zero, List.set_cons_succ]
      refine wpS_t rfl (v := .agg (encP (x, ad2, bs.length, cap2)).toArray) (by rfl) (fun W => exec_build_pair _ rfl (x, ad2, bs.length, cap2) (by rfl) W) ?_
      try simp only [Act.put, List.setIfInBounds_toArray, List.set_cons_zero, List.set_cons_succ]
      obtain ⟨y, hy⟩ : ∃ y : PE, y = (x, ad2, bs.length, cap2) := ⟨_, rfl⟩
      have hyx : y.1 = x := by rw [hy]
      rw [← hy] at HN2 ⊢
      refine wpS_e rfl (by rfl) (fun K hK => ?_)
      refine wp_build_pairs 1 _ (by rfl) [y] rfl (by omega) (by omega) (by rfl) ?_
      have HP2 := Lib.hid (And.intro (HP1.out.next (al (Below.refl _ _) (.cells (cellsP [y]).toArray 36))) (And.intro (bytes_below HN2.out.1 (al (Below.refl _ _) (.cells (cellsP [y]).toArray 36)) (Nat.le_refl _)) (show (V1.alloc (.cells (cellsP [y]).toArray 36)).rangeAt V1.heap.size 0 (encP y) by rw [← cellsP_one]; exact range_new _ _ _ _ rfl)))
      have HYX := Lib.hid (And.intro hy hyx)
      have HN3 := Lib.hid HN2.out.2
      have hlt1 := HP1.out.lt
      have HLT := Lib.hid hlt1
      clear HP1 HN2 hy hyx hlt1
      refine hK _ _ ?_; clear hK K
      try simp only [Act.put, List.setIfInBounds_toArray, List.set_cons_zero, List.set_cons_succ]
      generalize V1.alloc (.cells (cellsP [y]).toArray 36) = V3 at *
      refine wpS_e rfl (by rfl) (fun K hK => ?_)
      refine wp_append_pair_fits _ _ (by rfl) w.heap.size w.heap.size k N (cs.map Prod.fst) (by rfl) HP2.out.1.own V1.heap.size 0 1 y (by rfl) HP2.out.2.2 (by have := HK.out.2.1; have := HY.out.2.2.1; omega) ?_
      intro W7 ho7 hg7
      have kk : Keeps (fun i => i = w.heap.size) V3 W7 := Keeps.of_grown hg7 (fun k hk => by cases hk; rfl)
      have hcs7 : ∀ c ∈ cs ++ [(y, bs)], BytesAt W7 (peV c.1) c.2 ∧ ∀ i, (peV c.1).ownBlock = some i → w.heap.size < i := fun c hc => by
        rcases List.mem_append.1 hc with hc | hc
        · have := HP2.out.1.each c hc
          exact ⟨bytes_keep kk this.1 (fun i hi hx => by have := this.2 i hi; omega), this.2⟩
        · rw [List.mem_singleton] at hc
          subst hc
          exact ⟨bytes_keep kk HP2.out.2.1 (fun i hi hx => by have := HN3.out i hi; omega), HN3.out⟩
      have hM7 : MapIn W7 p b n l := HP2.out.1.map.keep kk (by have := HM.out.lt.1; omega) (by have := HQ.out.2.2; omega) (fun e he k hk hx => by
        have h := HM.out.vals e he
        have := bytes_lt h.1 h.2.1 hk
        omega)
      have hB7 : Below w.heap.size w W7 := HP2.out.1.below.trans (kk.below HP2.out.1.below.size (fun k hk => by rw [hk]; exact Nat.le_refl _))
      have hR7 := HP2.out.1.rng.kept hg7 (by simp; have := HQ.out.2.2; omega) (by simp; have := HQ.out.1; omega)
      rw [HLF.out] at hR7
      have hle := hR7.left_eq
      have H7 := Lib.hid (And.intro hcs7 (And.intro hM7 (And.intro hB7 (And.intro ho7 (And.intro hR7 hle)))))
      clear kk hcs7 hM7 hB7 hR7 hle hg7 ho7
      refine hK _ _ ?_; clear hK K
      try simp only [Act.put, List.setIfInBounds_toArray, List.set_cons_zero, List.set_cons_succ]
      iterate 1
        refine wpS_t rfl (v := ?_) (by rfl) (fun W => ?_) ?_
        rotate_left
        · go_simp
          try rfl
        try simp only [Act.put, List.setIfInBounds_toArray, List.set_cons_zero, List.set_cons_succ]
      refine wpS_done ?_
      go_wp2_with fail
      refine ⟨⟨_, cnt4, k + 1, cs ++ [(y, bs)], rfl, by rw [List.length_append, HK.out.1]; rfl, by have := HK.out.2.1; have := HY.out.2.2.1; omega, HK.out.2.2.step HY.out.1 HYX.out.2 HY.out.2.1, H7.out.1, H7.out.2.1, H7.out.2.2.1, by rw [List.map_append]; exact H7.out.2.2.2.1, H7.out.2.2.2.2.1⟩, ?_⟩
      rw [H7.out.2.2.2.2.2, HY.out.2.2.2.1]
      exact HY.out.2.2.1
end Go.Proofs.Ytfmgoehnbaiamaa
-- Walk: shows.Of.
namespace Go.Proofs.Ytfmgoehnbaiamaa
theorem infoShow : (Try.prog.info? 59).map (·.size) = some 33 := by kernel_rfl
theorem infoTold : (Try.prog.info? 95).map (·.size) = some 33 := by kernel_rfl
/-- What stands for a show. -/
def cellsShow (which : Sum) (v : Value) : List Value := cellsOf which ++ [v]
theorem length_cellsShow (which : Sum) (v : Value) : (cellsShow which v).length = 33 := by simp [cellsShow, length_cellsOf]
def shV (which : Sum) (v : Value) : Value := .agg (cellsShow which v).toArray
theorem one_cellsShow (which : Sum) {v : Value} (h : v.oneCell' = true) : (cellsShow which v).toArray.all (·.oneCell') = true := by
  rw [List.all_toArray, List.all_eq_true]
  intro x hx
  rcases List.mem_append.1 hx with hx | hx
  · exact oneCell_cellsOf which x hx
  · rw [List.mem_singleton.1 hx]; exact h
theorem results_cell_tmp {P : Program} {fn : Func} {p q : Tmp} {ty : TypeId} (h : fn.results = #[.cell p ty, .tmp q]) (tmps : Array Value) (w : World) (b o : Nat) (cs : List Value) (d : TypeDesc)
    (hp : tmps.getD p undef = .pointer (some ⟨b, o, none⟩)) (hc : w.rangeAt b o cs) (hu : P.underlying ty = some d) (hd : d.isRow = true) (hi : (P.info? ty).map (·.size) = some cs.length) : (results fn tmps).run P w = .ok (.tuple #[.agg cs.toArray, tmps.getD q undef]) w := by
  have hp' : tmps[p]?.getD undef = .pointer (some ⟨b, o, none⟩) := by simpa using hp
  simp [results, h, hp', asAddr, run_loadVar_mid w b o ty cs d hc hu hd hi]
theorem build_told (w : World) : (Instr.build 95 #[]).run Try.prog w = .ok (.agg (cellsShow zeroSum (.slice none 0 0)).toArray) w := by kernel_rfl
theorem enters_tell : ∀ args w, (callFunc 61 args).run Try.prog w = .ok (.enter 61 args) w := enters_of Try.func61 (by kernel_rfl) rfl
theorem ents_full {W : World} {p b n : Nat} {l : List Ent} (h : MapIn W p b n l) : Full (prs l) := fun q hq => by
  obtain ⟨e, he, rfl⟩ := List.mem_map.1 hq
  exact ⟨(h.vals e he).2.1, (h.vals e he).2.2⟩
theorem range_lay {W : World} {t : Nat} {which : Sum} {v : Value} (v' : Value) (h : W.rangeAt t 0 (cellsShow which v)) : (W.setCell ⟨t, 32, none⟩ v').rangeAt t 0 (cellsShow which v') := fun j u hj => by
  unfold cellsShow at h hj
  have hl : (cellsOf which).length = 32 := length_cellsOf _
  by_cases hj32 : j = 32
  · subst hj32
    rw [List.getElem?_append_right (by rw [hl]; omega), hl] at hj
    simp only [Nat.sub_self, List.getElem?_cons_zero, Option.some.injEq] at hj
    have h0 := h 32 v (by rw [List.getElem?_append_right (by rw [hl]; omega), hl]; rfl)
    rw [Nat.zero_add] at h0 ⊢
    rw [World.cell?_setCell_same _ _ _ h0, hj]
  · have hne2 : (⟨t, 32, none⟩ : Addr) ≠ ⟨t, 0 + j, none⟩ := fun e => hj32 (by have := congrArg Addr.off e; simp at this; exact this.symm)
    rw [World.cell?_setCell_other _ _ _ _ hne2]
    refine h j u ?_
    have hjl : j < 32 := by
      have := (List.getElem?_eq_some_iff.1 hj).1
      rw [List.length_append, hl] at this
      simp at this
      omega
    rw [List.getElem?_append_left (by rw [hl]; exact hjl)] at hj ⊢
    exact hj
theorem ToldAt.new {W : World} {t : Nat} {which : Sum} {v : Value} {S : List Sum} (h : ToldAt W t which v S t) (hn : S = [] → v = .slice none 0 0) : SumsNew W (t + 1) v S := by
  rcases own_new' h.own hn with h1 | ⟨g, cap, rfl, h0, h1, h2, h3, h4, h5⟩
  · exact .inl h1
  · exact .inr ⟨g, cap, rfl, h0, h1, h2, by have := h.ne g rfl; omega, h4, h5⟩
/-- What the loop of Of has in hand. -/
structure OS (W0 W : World) (t : Nat) (k : Sum) (L0 : List Keys.Pr) (D : Nat) (v : Value) (Ld : List Keys.Pr) (which : Sum) (S : List Sum) (vS : Value) : Prop where
  bw : Below W0.heap.size W0 W
  prs : PairsAt W0 v Ld
  rise : Keys.Rise Ld
  near : Near k (256 - D) Ld
  full : Full Ld
  len : Ld.length < 100000
  told : ToldAt W t which vS S t
  nil : S = [] → vS = .slice none 0 0
  sides : sidesOf (tells k 256 L0) = S ++ sidesOf (tells k (256 - D) Ld)
  tl : (tells k 256 L0).drop D = tells k (256 - D) Ld
  bits : ∀ j, j < 256 → (Keys.kn which).testBit (255 - j) = (decide (j < D) && ((tells k 256 L0).getD j none).isSome)
theorem tells_succ (k : Sum) (n : Nat) (l : List Keys.Pr) : tells k (n + 1) l = (if atH n (oth k n l) = em n then none else some (atH n (oth k n l))) :: tells k n (mine k n l) := rfl
theorem OS.pos {W0 W : World} {t : Nat} {k : Sum} {L0 : List Keys.Pr} {D : Nat} {v : Value} {Ld : List Keys.Pr} {which : Sum} {S : List Sum} {vS : Value} (h : OS W0 W t k L0 D v Ld which S vS) {n : Nat} (hn : n = 255 - D) (hD : D < 256) :
    (tells k 256 L0).drop (D + 1) = tells k n (mine k n Ld) ∧ (tells k 256 L0).getD D none = (if atH n (oth k n Ld) = em n then none else some (atH n (oth k n Ld))) ∧
      sidesOf (tells k 256 L0) = S ++ ((if atH n (oth k n Ld) = em n then none else some (atH n (oth k n Ld))).toList ++ sidesOf (tells k n (mine k n Ld))) := by
  have e : 256 - D = n + 1 := by omega
  have ht := h.tl
  have hs := h.sides
  rw [e, tells_succ k n Ld] at ht hs
  refine ⟨?_, ?_, ?_⟩
  · have : (tells k 256 L0).drop (D + 1) = ((tells k 256 L0).drop D).tail := by rw [List.tail_drop]
    rw [this, ht]; rfl
  · have h1 : ((tells k 256 L0).drop D)[0]? = (tells k 256 L0)[D]? := by rw [List.getElem?_drop, Nat.add_zero]
    rw [ht] at h1
    rw [List.getD_eq_getElem?_getD, ← h1]
    rfl
  · rw [hs, sidesOf_cons]
theorem OS.quiet {W0 W W' : World} {t : Nat} {k : Sum} {L0 : List Keys.Pr} {D : Nat} {v v' : Value} {Ld : List Keys.Pr} {which : Sum} {S : List Sum} {vS : Value} (h : OS W0 W t k L0 D v Ld which S vS) {n : Nat} (hn : n = 255 - D) (hD : D < 256)
    (he : atH n (oth k n Ld) = em n) (hb : Below W.heap.size W W') (hp : PairsAt W0 v' (mine k n Ld)) : OS W0 W' t k L0 (D + 1) v' (mine k n Ld) which S vS := by
  obtain ⟨g1, g2, g3⟩ := h.pos hn hD
  have e : 256 - (D + 1) = n := by omega
  rw [if_pos he] at g2 g3
  refine ⟨h.bw.trans (hb.mono h.bw.size), hp, rise_mine h.rise, ?_, fun p hp => h.full p (mem_mine.1 hp).1, ?_, h.told.below hb, h.nil, ?_, ?_, fun j hj => ?_⟩
  · rw [e]; have := h.near; rw [show 256 - D = n + 1 by omega] at this; exact this.mine
  · have := length_mine k n Ld; have := h.len; omega
  · rw [e, g3]; rfl
  · rw [e]; exact g1
  · rw [h.bits j hj]
    by_cases hjd : j = D
    · subst hjd
      rw [g2]; simp
    · have : decide (j < D + 1) = decide (j < D) := by rw [decide_eq_decide]; omega
      rw [this]
theorem OS.loud {W0 W W' : World} {t : Nat} {k : Sum} {L0 : List Keys.Pr} {D : Nat} {v v' : Value} {Ld : List Keys.Pr} {which : Sum} {S : List Sum} {vS vS' : Value} (h : OS W0 W t k L0 D v Ld which S vS) {n : Nat} (hn : n = 255 - D) (hD : D < 256)
    (he : atH n (oth k n Ld) ≠ em n) (hb : Below W0.heap.size W W') (ht : ToldAt W' t (setBit which D) vS' (S ++ [atH n (oth k n Ld)]) t) (hp : PairsAt W0 v' (mine k n Ld)) :
    OS W0 W' t k L0 (D + 1) v' (mine k n Ld) (setBit which D) (S ++ [atH n (oth k n Ld)]) vS' := by
  obtain ⟨g1, g2, g3⟩ := h.pos hn hD
  have e : 256 - (D + 1) = n := by omega
  rw [if_neg he] at g2 g3
  refine ⟨h.bw.trans hb, hp, rise_mine h.rise, ?_, fun p hp => h.full p (mem_mine.1 hp).1, ?_, ht, fun h0 => ?_, ?_, ?_, fun j hj => ?_⟩
  · rw [e]; have := h.near; rw [show 256 - D = n + 1 by omega] at this; exact this.mine
  · have := length_mine k n Ld; have := h.len; omega
  · simp at h0
  · rw [e, g3, List.append_assoc]; rfl
  · rw [e]; exact g1
  · rw [bit_set which D j hD hj]
    by_cases hjd : j = D
    · subst hjd
      rw [if_pos rfl, g2]; simp
    · have : decide (j < D + 1) = decide (j < D) := by rw [decide_eq_decide]; omega
      rw [if_neg hjd, h.bits j hj, this]
theorem OS.short {W0 W : World} {t : Nat} {k : Sum} {L0 : List Keys.Pr} {D : Nat} {v : Value} {Ld : List Keys.Pr} {which : Sum} {S : List Sum} {vS : Value} (h : OS W0 W t k L0 D v Ld which S vS) : S.length ≤ 256 := by
  have h1 := congrArg List.length h.sides
  rw [List.length_append] at h1
  have h2 : (sidesOf (tells k 256 L0)).length ≤ (tells k 256 L0).length := List.length_filterMap_le _ _
  rw [length_tells] at h2
  omega
theorem OS.below {W0 W W' : World} {t : Nat} {k : Sum} {L0 : List Keys.Pr} {D : Nat} {v : Value} {Ld : List Keys.Pr} {which : Sum} {S : List Sum} {vS : Value} (h : OS W0 W t k L0 D v Ld which S vS) (hb : Below W.heap.size W W') : OS W0 W' t k L0 D v Ld which S vS :=
  ⟨h.bw.trans (hb.mono h.bw.size), h.prs, h.rise, h.near, h.full, h.len, h.told.below hb, h.nil, h.sides, h.tl, h.bits⟩
/-- Pairs cut in two, where the bit changes: one's own, the other ones. -/
theorem cut_mine {k : Sum} {n : Nat} {L : List Keys.Pr} (hr : Keys.Rise L) (hs : Keys.Same (n + 1) L) : ((Keys.kn k).testBit n = false → mine k n L = L.take (cutH n L) ∧ oth k n L = L.drop (cutH n L)) ∧ ((Keys.kn k).testBit n = true → mine k n L = L.drop (cutH n L) ∧ oth k n L = L.take (cutH n L)) := by
  obtain ⟨s1, s2⟩ := cut_split hr hs
  constructor
  · intro hb
    rw [s1, s2]
    unfold mine oth
    constructor
    · congr 1; funext p; rw [hb]; cases (Keys.kn p.1).testBit n <;> rfl
    · congr 1; funext p; rw [hb]; cases (Keys.kn p.1).testBit n <;> rfl
  · intro hb
    rw [s1, s2]
    unfold mine oth
    constructor
    · congr 1; funext p; rw [hb]; cases (Keys.kn p.1).testBit n <;> rfl
    · congr 1; funext p; rw [hb]; cases (Keys.kn p.1).testBit n <;> rfl
theorem same_oth {k : Sum} {n : Nat} {L : List Keys.Pr} (h : Near k (n + 1) L) : Keys.Same n (oth k n L) := fun p hp q hq => by
  obtain ⟨h1, h2⟩ := mem_oth.1 hp
  obtain ⟨h3, h4⟩ := mem_oth.1 hq
  rw [Keys.shr_succ (Keys.kn p.1), Keys.shr_succ (Keys.kn q.1), h p h1, h q h3]
  have e : (Keys.kn p.1).testBit n = (Keys.kn q.1).testBit n := by
    revert h2 h4
    cases (Keys.kn p.1).testBit n <;> cases (Keys.kn q.1).testBit n <;> cases (Keys.kn k).testBit n <;> simp
  rw [e]
theorem near_same {k : Sum} {n : Nat} {L : List Keys.Pr} (h : Near k n L) : Keys.Same n L := fun p hp q hq => (h p hp).trans (h q hq).symm
theorem kn_zero : Keys.kn zeroSum = 0 := by
  show Fast.bnum zeroSum.toList = 0
  decide +kernel
set_option maxRecDepth 100000 in
set_option maxHeartbeats 4000000 in
theorem sof_any (k : Sum) (w : World) (p b n : Nat) (l : List Ent) (h : MapIn w p b n l) (hn : l.length < 100000) :
    Calls Try.prog 35 #[.pointer (some ⟨p, 0, none⟩), sv k] w fun e w' => ∃ which v, e = .returned (.tuple #[shV which v, .int .i64 0]) ∧ SumsNew w' w.heap.size v (sidesOf (tells k 256 (prs l))) ∧ Bits which 256 (tells k 256 (prs l)) ∧ Below w.heap.size w w' := by
  have hmf : ∀ (fn : Fn) (first cap : Array Value) (w : World), (Instr.makeFunc fn first cap).run Try.prog w = .ok (.func fn first cap) w := fun _ _ _ _ => rfl
  have hbt := build_told
  have hb0 := al (al (Below.refl _ w) (.cells (cellsOf k).toArray 29)) (.cells (cellsShow zeroSum (.slice none 0 0)).toArray 59)
  have hr0 := World.rangeAt_alloc (range_new w (cellsOf k).toArray 29 _ rfl) (.cells (cellsShow zeroSum (.slice none 0 0)).toArray 59)
  have hs1 : (w.alloc (.cells (cellsOf k).toArray 29)).heap.size = w.heap.size + 1 := Array.size_push _
  have ht0 := there_new (w.alloc (.cells (cellsOf k).toArray 29)) (cellsShow zeroSum (.slice none 0 0)).toArray 59
  have hsz : (cellsShow zeroSum (.slice none 0 0)).toArray.size = 33 := by rw [List.size_toArray, length_cellsShow]
  rw [hs1, hsz] at ht0
  have H0 := Lib.hid (And.intro hb0 (And.intro hr0 (And.intro ht0 (h.below hb0))))
  have HN := Lib.hid hn
  clear hb0 hr0 hs1 ht0 h hn hsz
  go_enter Try.func35, Try.ntmps35
  go_wp2_with (refine wpList_load_sum rfl _ rfl w.heap.size 0 rfl k H0.out.2.1 ?_)
  refine (mget_any k _ p b n l H0.out.2.2.2).mono ?_
  rintro e w1 ⟨v1, rfl, hN1, hb⟩
  obtain ⟨a1, c1, rfl, _, _, _⟩ := id hN1.1
  obtain ⟨z3, hz3⟩ : ∃ z, z = w.heap.size := ⟨_, rfl⟩
  obtain ⟨z4, hz4⟩ : ∃ z, z = w.heap.size + 1 := ⟨_, rfl⟩
  have kk := Keeps.of_below (X := fun _ => False) hb
  have HBW := Lib.hid (H0.out.1.trans (hb.mono H0.out.1.size))
  have H1 := Lib.hid (show w1.rangeAt z3 0 (cellsOf k) ∧ w1.there z4 0 33 ∧ MapIn w1 p b n l from ⟨by rw [hz3]; exact kk.range H0.out.2.1 (fun h => h), by rw [hz4]; exact kk.there H0.out.2.2.1 (by decide) (fun h => h), H0.out.2.2.2.below hb⟩)
  have HZ := Lib.hid (And.intro hz3 hz4)
  rw [← HZ.out.2, ← HZ.out.1]
  clear hb kk hN1 H0 hz3 hz4
  generalize (Keys.get (prs l) k).length = m1 at *
  go_wp2_with fail
  refine (mpairs_at w1 p b n l H1.out.2.2 HN.out).mono ?_
  rintro e w2 ⟨ba, ca, rfl, hP, hb⟩
  have kk := Keeps.of_below (X := fun _ => False) hb
  have HB2 := Lib.hid (HBW.out.trans (hb.mono HBW.out.size))
  have H2 := Lib.hid (And.intro (kk.range H1.out.1 (fun h => h)) (And.intro (kk.there H1.out.2.1 (by decide) (fun h => h)) (And.intro hP H1.out.2.2.rise)))
  have HF := Lib.hid (ents_full H1.out.2.2)
  clear hb kk hP HBW H1
  obtain ⟨L0, hL0⟩ : ∃ x, x = prs l := ⟨_, rfl⟩
  have hlen : L0.length < 100000 := by rw [hL0]; have := HN.out; simpa [prs] using this
  have hrise : Keys.Rise L0 := by rw [hL0]; exact prs_rise H2.out.2.2.2
  rw [← hL0] at H2 HF ⊢
  have HL := Lib.hid (And.intro hL0 (And.intro hlen hrise))
  clear hL0 hlen hrise
  obtain ⟨N0, hN0⟩ : ∃ x, x = L0.length := ⟨_, rfl⟩
  rw [← hN0] at H2 ⊢
  have HN0 := Lib.hid hN0
  clear hN0
  go_wp2_with fail
  refine (sempty_any w2).mono ?_
  rintro e w3 ⟨vn, rfl, hvn, _, hb⟩
  obtain ⟨bn, on, cn, rfl, hcn, hnr⟩ := nones_at hvn
  have HNR := Lib.hid (And.intro hcn hnr)
  clear hcn hnr
  have kk := Keeps.of_below (X := fun _ => False) hb
  have HB3 := Lib.hid (HB2.out.trans (hb.mono HB2.out.size))
  have H3 := Lib.hid (And.intro (kk.range H2.out.1 (fun h => h)) (And.intro (kk.there H2.out.2.1 (by decide) (fun h => h)) (And.intro (H2.out.2.2.1.below hb) hvn)))
  clear hb kk hvn HB2 H2
  go_wp2_with fail
  change Code.wp _ _ _ _ (w3.alloc (.cells (cellsShow zeroSum (.slice none 0 0)).toArray 95))
  have hb4 := al (Below.refl w3.heap.size w3) (.cells (cellsShow zeroSum (.slice none 0 0)).toArray 95)
  have ht4 := there_new w3 (cellsShow zeroSum (.slice none 0 0)).toArray 95
  have hsz : (cellsShow zeroSum (.slice none 0 0)).toArray.size = 33 := by rw [List.size_toArray, length_cellsShow]
  rw [hsz] at ht4
  have hst : OS w3 (w3.alloc (.cells (cellsShow zeroSum (.slice none 0 0)).toArray 95)) w3.heap.size k L0 0 (.slice (some ⟨ba, 0, none⟩) N0 ca) L0 zeroSum [] (.slice none 0 0) := by
    refine ⟨hb4, H3.out.2.2.1, HL.out.2.2, near_top k L0, HF.out, HL.out.2.1, ⟨range_new w3 (cellsShow zeroSum (.slice none 0 0)).toArray 95 _ rfl, ht4, World.ownsRow_nil _ _ _ _, fun g hg => by cases hg⟩, fun _ => rfl, rfl, rfl, fun j hj => ?_⟩
    rw [kn_zero, Nat.zero_testBit]; simp
  have H4 := Lib.hid hst
  obtain ⟨t, ht⟩ : ∃ x, x = w3.heap.size := ⟨_, rfl⟩
  rw [← ht] at H4 ⊢
  have HT := Lib.hid ht
  clear ht hst hb4 ht4 hsz hbt
  generalize w3.alloc (.cells (cellsShow zeroSum (.slice none 0 0)).toArray 95) = W4 at *
  have eg := enters_tell
  go_loopw [8, 12, 13, 14, 15, 16, 34] (fun v _ _ _ _ _ iv W => ∃ (D : Nat) (Ld : List Keys.Pr) (which : Sum) (S : List Sum) (vS : Value) (oL cL : Nat), D ≤ 256 ∧ iv = .int .i64 (D : Int) ∧ v = .slice (some ⟨ba, oL, none⟩) Ld.length cL ∧ OS w3 W t k L0 D v Ld which S vS) (fun _ _ _ _ _ _ iv _ => 256 - (intOf iv).toNat)
  case atStart => exact ⟨0, L0, zeroSum, [], _, 0, ca, by omega, rfl, by rw [← HN0.out], H4.out⟩
  case round =>
    clear H4
    obtain ⟨D, Ld, which, S, vS, oL, cL, hD, rfl, rfl, hO⟩ := hrel
    have HO := Lib.hid hO
    clear hO
    by_cases hlt : D < 256
    · have c1 : decide (D < 256) = true := by simpa using hlt
      have c1' : decide ((D : Int) < 256) = true := by simp; omega
      obtain ⟨n, hn⟩ : ∃ n, n = 255 - D := ⟨_, rfl⟩
      have hnear := HO.out.near
      rw [show 256 - D = n + 1 by omega] at hnear
      have hsame := near_same hnear
      have hcut := cut_any Ld (.slice (some ⟨ba, oL, none⟩) Ld.length cL) D wr (HO.out.prs.below HO.out.bw) hlt HO.out.len HO.out.rise (by rw [← hn]; exact hsame)
      rw [← hn] at hcut
      have hmi := cut_mine (k := k) HO.out.rise hsame
      have hcl : cutH n Ld ≤ Ld.length := List.length_filter_le _ _
      obtain ⟨c, hc⟩ : ∃ c, c = cutH n Ld := ⟨_, rfl⟩
      rw [← hc] at hcut hmi hcl
      have HC := Lib.hid hcut
      have HM := Lib.hid hmi
      have HNN := Lib.hid (And.intro hn hlt)
      obtain ⟨N, hN⟩ : ∃ N, N = Ld.length := ⟨_, rfl⟩
      have hpd := (HO.out.prs).drop' (i := c) hcl
      have hpt := (HO.out.prs).take (i := c) hcl
      obtain ⟨_, _, he, hca, _⟩ := pairs_form HO.out.prs
      simp only [Value.slice.injEq] at he
      obtain ⟨-, -, rfl⟩ := he
      obtain ⟨o2, ho2⟩ : ∃ o2, (if cL = c then some (⟨ba, oL, none⟩ : Addr) else some ⟨ba, oL + c * 33, none⟩) = some ⟨ba, o2, none⟩ := by
        by_cases h : cL = c
        · exact ⟨oL, by rw [if_pos h]⟩
        · exact ⟨_, by rw [if_neg h]⟩
      rw [ho2] at hpd
      rw [← hN] at HC hcl hca hpd HO ⊢
      have HP := Lib.hid (And.intro hpt (And.intro hpd hN))
      have HO2 := Lib.hid ho2
      have q1 : (0 : Int) ≤ (c : Int) := by omega
      have q2 : (c : Int) ≤ (N : Int) := by omega
      have q3 : (N : Int) ≤ (cL : Int) := by omega
      have q4 : (c : Int) ≤ (cL : Int) := by omega
      clear hcut hmi hn hnear hsame hc hN hpd hpt hlt ho2
      go_wp2_with fail
      refine HC.out.mono ?_
      rintro e W5 ⟨rfl, hb⟩
      have H5 := Lib.hid (HO.out.below hb)
      clear hb HO HC
      go_wp2_with fail
      refine wp_region_sched (fun W => True) [.t 0, .t 1, .t 2, .t 3, .t 4, .t 5, .t 6, .t 7] (by kernel_rfl) (by kernel_rfl) (by intro c a d v w h; cases d <;> exact h) ?_
      have H6 := Lib.hid (H5.out.below (Below.refl _ _).drew)
      clear H5
      generalize W5.drew = V at *
      iterate 8
        refine wpS_t rfl (v := ?_) (by rfl) (fun W => ?_) ?_
        rotate_left
        · go_simp
          try rfl
        try simp only [Act.put, List.setIfInBounds_toArray, List.set_cons_zero, List.set_cons_succ]
      rw [HO2.out]
      refine wpS_done ?_
      obtain ⟨q, hq⟩ : ∃ q, q = (Keys.kn k >>> n) % 2 := ⟨_, rfl⟩
      have HQB := Lib.hid (bit_any k D V HNN.out.2)
      rw [← HNN.out.1, ← hq] at HQB
      have hk3 := (Keeps.of_below (X := fun _ => False) H6.out.bw).range H3.out.1 (fun h => h)
      have HK3 := Lib.hid hk3
      have hqb : (Keys.kn k).testBit n = decide (q = 1) := by rw [Keys.bit_odd, hq]
      have hq2 : q < 2 := by rw [hq]; exact Nat.mod_lt _ (by decide)
      have HQ := Lib.hid (And.intro hqb hq2)
      clear hq hqb hq2 hk3 HO2 q1 q2 q3 q4
      go_wp2_with (refine wpList_load_sum rfl _ rfl z3 0 rfl k HK3.out ?_)
      refine HQB.out.mono ?_
      rintro e V1 ⟨rfl, hb⟩
      have H7 := Lib.hid (H6.out.below hb)
      clear hb H6 HQB HK3
      by_cases hq1 : q = 1
      · subst hq1
        have hbt : (Keys.kn k).testBit n = true := HQ.out.1
        obtain ⟨m1', m2'⟩ := HM.out.2 hbt
        have HMO := Lib.hid (And.intro m1' m2')
        clear hbt m1' m2'
        have hA := sat_any n (oth k n Ld) (.slice (some ⟨ba, oL, none⟩) c cL) (.slice (some ⟨bn, on, none⟩) 257 cn) V1 (by have := HNN.out; omega) (by rw [HMO.out.2]; exact (HP.out.1).below H7.out.bw) (H3.out.2.2.2.below H7.out.bw (Nat.le_refl _)) (H7.out.rise.sublist List.filter_sublist) (same_oth (by have := H7.out.near; rw [show 256 - D = n + 1 by have := HNN.out; omega] at this; exact this)) (fun p hp => H7.out.full p (mem_oth.1 hp).1) (by have := length_mine k n Ld; have := H7.out.len; omega)
        rw [show ((256 - n : Nat) : Int) = (D : Int) + 1 by have := HNN.out; omega] at hA
        have HA := Lib.hid hA
        clear hA
        obtain ⟨s, hs⟩ : ∃ s, s = atH n (oth k n Ld) := ⟨_, rfl⟩
        rw [← hs] at HA
        have HS := Lib.hid hs
        clear hs
        go_wp2_with fail
        refine HA.out.mono ?_
        rintro e V2 ⟨rfl, hb⟩
        have H8 := Lib.hid (H7.out.below hb)
        clear hb H7 HA
        have HG := Lib.hid trivial
        go_wp2_with (have _ := HG; refine wpList_var_sum (by rfl) rfl _ _ rfl s rfl rfl ?_; intro V3 hb hr _; obtain ⟨z16, hz16⟩ : ∃ x, x = V2.heap.size := ⟨_, rfl⟩; rw [← hz16] at hr ⊢; have H9 := Lib.hid (And.intro (H8.out.below hb) hr); clear HG hb hr hz16 H8)
        obtain ⟨E, hE⟩ : ∃ E, E = D + 1 := ⟨_, rfl⟩
        have hw : IntKind.i64.wrap ((D : Int) + 1) = (E : Int) := by have := HNN.out; rw [IntKind.wrap_i64]; omega
        have hE0 : (0 : Int) ≤ (E : Int) := by omega
        have hE1 : (E : Int) < 257 := by have := HNN.out; omega
        have hE2 : E < 257 := by have := HNN.out; omega
        have hEn : 256 - n = E := by have := HNN.out; omega
        have hrn := HNR.out.2 V3.drew ((H9.out.1.bw).trans ((Below.refl _ _).drew)) n (by have := HNN.out; omega)
        rw [hEn] at hrn
        clear hE
        have HRN := Lib.hid (And.intro (show V3.drew.rangeAt z16 0 (cellsOf s) from H9.out.2) hrn)
        have heq := eq_sums s (em n)
        obtain ⟨eN, heN⟩ : ∃ y, y = em n := ⟨_, rfl⟩
        rw [← heN] at HRN heq
        have HEN := Lib.hid heN
        clear hrn hEn heN
        refine wp_region_sched (fun W => W.rangeAt z16 0 (cellsOf s)) [.t 1, .t 2, .t 3, .t 4, .s 0, .e 5 true, .t 6] (by kernel_rfl) (by kernel_rfl) (by intro c a d v w h; cases d <;> exact h) ?_
        have H10 := Lib.hid (H9.out.1.below (Below.refl _ _).drew)
        clear H9
        generalize V3.drew = V4 at *
        by_cases hes : s = eN
        · rw [decide_eq_true hes] at heq
          have HES := Lib.hid hes
          clear hes
          iterate 4
            refine wpS_t rfl (v := ?_) (by rfl) (fun W => ?_) ?_
            rotate_left
            · go_simp
              try rfl
            try simp only [Act.put, List.setIfInBounds_toArray, List.set_cons_zero, List.set_cons_succ]
          refine wpS_load_sum (by exact HRN.out.1) rfl (by rfl) _ (by rfl) z16 0 (by rfl) s (fun W hW => hW) ?_
          try simp only [Act.put, List.setIfInBounds_toArray, List.set_cons_zero, List.set_cons_succ]
          refine wpS_k rfl (by rfl) (fun K hK => ?_)
          refine wp_load_sum _ (by rfl) bn (on + E * 32) (by rfl) eN HRN.out.2 ?_
          refine hK _ _ ⟨by exact HRN.out.1, ?_⟩; clear hK K
          try simp only [Act.put, List.setIfInBounds_toArray, List.set_cons_zero, List.set_cons_succ]
          iterate 1
            refine wpS_t rfl (v := ?_) (by rfl) (fun W => ?_) ?_
            rotate_left
            · go_simp
              try rfl
            try simp only [Act.put, List.setIfInBounds_toArray, List.set_cons_zero, List.set_cons_succ]
          refine wpS_done ?_
          have hfin := H10.out.quiet (v' := .slice (some ⟨ba, o2, none⟩) (N - c) (cL - c)) HNN.out.1 HNN.out.2 (by rw [← HS.out, ← HEN.out]; exact HES.out) (Below.refl _ _) (by rw [HMO.out.1]; exact HP.out.2.1)
          have HFIN := Lib.hid hfin
          clear hfin
          have hwj : wrap64 ((D : Int) + 1) = ((D + 1 : Nat) : Int) := by have := HNN.out; unfold wrap64; omega
          clear hw
          go_wp2_with fail
          try rw [hwj]
          clear hwj
          exact ⟨⟨D + 1, mine k n Ld, which, S, vS, o2, cL - c, by have := HNN.out; omega, rfl, by rw [HMO.out.1, List.length_drop, ← HP.out.2.2], HFIN.out⟩, by simp only [intOf]; have := HNN.out; omega⟩
        · rw [decide_eq_false hes] at heq
          have HES := Lib.hid hes
          clear hes
          iterate 4
            refine wpS_t rfl (v := ?_) (by rfl) (fun W => ?_) ?_
            rotate_left
            · go_simp
              try rfl
            try simp only [Act.put, List.setIfInBounds_toArray, List.set_cons_zero, List.set_cons_succ]
          refine wpS_load_sum (by exact HRN.out.1) rfl (by rfl) _ (by rfl) z16 0 (by rfl) s (fun W hW => hW) ?_
          try simp only [Act.put, List.setIfInBounds_toArray, List.set_cons_zero, List.set_cons_succ]
          refine wpS_k rfl (by rfl) (fun K hK => ?_)
          refine wp_load_sum _ (by rfl) bn (on + E * 32) (by rfl) eN HRN.out.2 ?_
          refine hK _ _ ⟨by exact HRN.out.1, ?_⟩; clear hK K
          try simp only [Act.put, List.setIfInBounds_toArray, List.set_cons_zero, List.set_cons_succ]
          iterate 1
            refine wpS_t rfl (v := ?_) (by rfl) (fun W => ?_) ?_
            rotate_left
            · go_simp
              try rfl
            try simp only [Act.put, List.setIfInBounds_toArray, List.set_cons_zero, List.set_cons_succ]
          refine wpS_done ?_
          clear hw
          go_wp2_with (refine wpList_load_sum rfl _ rfl z16 0 rfl s HRN.out.1 ?_)
          refine (tell_any t D s which vS S t V4 HNN.out.2 H10.out.told (Nat.le_refl _) (by have := H10.out.short; omega)).mono ?_
          rintro e V5 ⟨rfl, ⟨vS', ht5⟩, hb5⟩
          have hfin := H10.out.loud (v' := .slice (some ⟨ba, o2, none⟩) (N - c) (cL - c)) HNN.out.1 HNN.out.2 (by rw [← HS.out, ← HEN.out]; exact HES.out) (by rw [← HT.out]; exact hb5) (by rw [← HS.out]; exact ht5) (by rw [HMO.out.1]; exact HP.out.2.1)
          rw [← HS.out] at hfin
          have HFIN := Lib.hid hfin
          clear hfin ht5 hb5
          have hwj : wrap64 ((D : Int) + 1) = ((D + 1 : Nat) : Int) := by have := HNN.out; unfold wrap64; omega
          go_wp2_with fail
          try rw [hwj]
          clear hwj
          exact ⟨⟨D + 1, mine k n Ld, setBit which D, S ++ [s], vS', o2, cL - c, by have := HNN.out; omega, rfl, by rw [HMO.out.1, List.length_drop, ← HP.out.2.2], HFIN.out⟩, by simp only [intOf]; have := HNN.out; omega⟩
      · have hq0 : q = 0 := by have := HQ.out.2; omega
        subst hq0
        have hbt : (Keys.kn k).testBit n = false := HQ.out.1
        obtain ⟨m1', m2'⟩ := HM.out.1 hbt
        have HMO := Lib.hid (And.intro m1' m2')
        clear hbt m1' m2' hq1
        have hA := sat_any n (oth k n Ld) (.slice (some ⟨ba, o2, none⟩) (N - c) (cL - c)) (.slice (some ⟨bn, on, none⟩) 257 cn) V1 (by have := HNN.out; omega) (by rw [HMO.out.2]; exact (HP.out.2.1).below H7.out.bw) (H3.out.2.2.2.below H7.out.bw (Nat.le_refl _)) (H7.out.rise.sublist List.filter_sublist) (same_oth (by have := H7.out.near; rw [show 256 - D = n + 1 by have := HNN.out; omega] at this; exact this)) (fun p hp => H7.out.full p (mem_oth.1 hp).1) (by have := length_mine k n Ld; have := H7.out.len; omega)
        rw [show ((256 - n : Nat) : Int) = (D : Int) + 1 by have := HNN.out; omega] at hA
        have HA := Lib.hid hA
        clear hA
        obtain ⟨s, hs⟩ : ∃ s, s = atH n (oth k n Ld) := ⟨_, rfl⟩
        rw [← hs] at HA
        have HS := Lib.hid hs
        clear hs
        go_wp2_with fail
        refine HA.out.mono ?_
        rintro e V2 ⟨rfl, hb⟩
        have H8 := Lib.hid (H7.out.below hb)
        clear hb H7 HA
        have HG := Lib.hid trivial
        go_wp2_with (have _ := HG; refine wpList_var_sum (by rfl) rfl _ _ rfl s rfl rfl ?_; intro V3 hb hr _; obtain ⟨z16, hz16⟩ : ∃ x, x = V2.heap.size := ⟨_, rfl⟩; rw [← hz16] at hr ⊢; have H9 := Lib.hid (And.intro (H8.out.below hb) hr); clear HG hb hr hz16 H8)
        obtain ⟨E, hE⟩ : ∃ E, E = D + 1 := ⟨_, rfl⟩
        have hw : IntKind.i64.wrap ((D : Int) + 1) = (E : Int) := by have := HNN.out; rw [IntKind.wrap_i64]; omega
        have hE0 : (0 : Int) ≤ (E : Int) := by omega
        have hE1 : (E : Int) < 257 := by have := HNN.out; omega
        have hE2 : E < 257 := by have := HNN.out; omega
        have hEn : 256 - n = E := by have := HNN.out; omega
        have hrn := HNR.out.2 V3.drew ((H9.out.1.bw).trans ((Below.refl _ _).drew)) n (by have := HNN.out; omega)
        rw [hEn] at hrn
        clear hE
        have HRN := Lib.hid (And.intro (show V3.drew.rangeAt z16 0 (cellsOf s) from H9.out.2) hrn)
        have heq := eq_sums s (em n)
        obtain ⟨eN, heN⟩ : ∃ y, y = em n := ⟨_, rfl⟩
        rw [← heN] at HRN heq
        have HEN := Lib.hid heN
        clear hrn hEn heN
        refine wp_region_sched (fun W => W.rangeAt z16 0 (cellsOf s)) [.t 1, .t 2, .t 3, .t 4, .s 0, .e 5 true, .t 6] (by kernel_rfl) (by kernel_rfl) (by intro c a d v w h; cases d <;> exact h) ?_
        have H10 := Lib.hid (H9.out.1.below (Below.refl _ _).drew)
        clear H9
        generalize V3.drew = V4 at *
        by_cases hes : s = eN
        · rw [decide_eq_true hes] at heq
          have HES := Lib.hid hes
          clear hes
          iterate 4
            refine wpS_t rfl (v := ?_) (by rfl) (fun W => ?_) ?_
            rotate_left
            · go_simp
              try rfl
            try simp only [Act.put, List.setIfInBounds_toArray, List.set_cons_zero, List.set_cons_succ]
          refine wpS_load_sum (by exact HRN.out.1) rfl (by rfl) _ (by rfl) z16 0 (by rfl) s (fun W hW => hW) ?_
          try simp only [Act.put, List.setIfInBounds_toArray, List.set_cons_zero, List.set_cons_succ]
          refine wpS_k rfl (by rfl) (fun K hK => ?_)
          refine wp_load_sum _ (by rfl) bn (on + E * 32) (by rfl) eN HRN.out.2 ?_
          refine hK _ _ ⟨by exact HRN.out.1, ?_⟩; clear hK K
          try simp only [Act.put, List.setIfInBounds_toArray, List.set_cons_zero, List.set_cons_succ]
          iterate 1
            refine wpS_t rfl (v := ?_) (by rfl) (fun W => ?_) ?_
            rotate_left
            · go_simp
              try rfl
            try simp only [Act.put, List.setIfInBounds_toArray, List.set_cons_zero, List.set_cons_succ]
          refine wpS_done ?_
          have hfin := H10.out.quiet (v' := .slice (some ⟨ba, oL, none⟩) c cL) HNN.out.1 HNN.out.2 (by rw [← HS.out, ← HEN.out]; exact HES.out) (Below.refl _ _) (by rw [HMO.out.1]; exact HP.out.1)
          have HFIN := Lib.hid hfin
          clear hfin
          have hwj : wrap64 ((D : Int) + 1) = ((D + 1 : Nat) : Int) := by have := HNN.out; unfold wrap64; omega
          clear hw
          go_wp2_with fail
          try rw [hwj]
          clear hwj
          exact ⟨⟨D + 1, mine k n Ld, which, S, vS, oL, cL, by have := HNN.out; omega, rfl, by rw [HMO.out.1, List.length_take, Nat.min_eq_left (by rw [← HP.out.2.2]; exact hcl)], HFIN.out⟩, by simp only [intOf]; have := HNN.out; omega⟩
        · rw [decide_eq_false hes] at heq
          have HES := Lib.hid hes
          clear hes
          iterate 4
            refine wpS_t rfl (v := ?_) (by rfl) (fun W => ?_) ?_
            rotate_left
            · go_simp
              try rfl
            try simp only [Act.put, List.setIfInBounds_toArray, List.set_cons_zero, List.set_cons_succ]
          refine wpS_load_sum (by exact HRN.out.1) rfl (by rfl) _ (by rfl) z16 0 (by rfl) s (fun W hW => hW) ?_
          try simp only [Act.put, List.setIfInBounds_toArray, List.set_cons_zero, List.set_cons_succ]
          refine wpS_k rfl (by rfl) (fun K hK => ?_)
          refine wp_load_sum _ (by rfl) bn (on + E * 32) (by rfl) eN HRN.out.2 ?_
          refine hK _ _ ⟨by exact HRN.out.1, ?_⟩; clear hK K
          try simp only [Act.put, List.setIfInBounds_toArray, List.set_cons_zero, List.set_cons_succ]
          iterate 1
            refine wpS_t rfl (v := ?_) (by rfl) (fun W => ?_) ?_
            rotate_left
            · go_simp
              try rfl
            try simp only [Act.put, List.setIfInBounds_toArray, List.set_cons_zero, List.set_cons_succ]
          refine wpS_done ?_
          clear hw
          go_wp2_with (refine wpList_load_sum rfl _ rfl z16 0 rfl s HRN.out.1 ?_)
          refine (tell_any t D s which vS S t V4 HNN.out.2 H10.out.told (Nat.le_refl _) (by have := H10.out.short; omega)).mono ?_
          rintro e V5 ⟨rfl, ⟨vS', ht5⟩, hb5⟩
          have hfin := H10.out.loud (v' := .slice (some ⟨ba, oL, none⟩) c cL) HNN.out.1 HNN.out.2 (by rw [← HS.out, ← HEN.out]; exact HES.out) (by rw [← HT.out]; exact hb5) (by rw [← HS.out]; exact ht5) (by rw [HMO.out.1]; exact HP.out.1)
          rw [← HS.out] at hfin
          have HFIN := Lib.hid hfin
          clear hfin ht5 hb5
          have hwj : wrap64 ((D : Int) + 1) = ((D + 1 : Nat) : Int) := by have := HNN.out; unfold wrap64; omega
          go_wp2_with fail
          try rw [hwj]
          clear hwj
          exact ⟨⟨D + 1, mine k n Ld, setBit which D, S ++ [s], vS', oL, cL, by have := HNN.out; omega, rfl, by rw [HMO.out.1, List.length_take, Nat.min_eq_left (by rw [← HP.out.2.2]; exact hcl)], HFIN.out⟩, by simp only [intOf]; have := HNN.out; omega⟩
    · have hD6 : D = 256 := by omega
      subst hD6
      clear hlt hD
      have c1 : decide (256 < 256) = false := by decide
      have hnew := HO.out.told.new HO.out.nil
      have hbits : Bits which 256 (tells k 256 L0) := fun j hj => by
        have := HO.out.bits j hj
        rw [decide_eq_true hj, Bool.true_and] at this
        exact this
      have hsides : sidesOf (tells k 256 L0) = S := by
        have := HO.out.sides
        rw [show 256 - 256 = 0 from rfl, tells, show sidesOf [] = [] from rfl, List.append_nil] at this
        exact this
      have HE := Lib.hid (And.intro hnew (And.intro hbits hsides))
      have g := HO.out.told.slice
      have hz4 : z4 < t := by rw [HT.out]; exact there_lt H3.out.2.1 (by decide)
      have HZ4 := Lib.hid hz4
      have ht4 := (Keeps.of_below (X := fun _ => False) HO.out.bw).there H3.out.2.1 (by decide) (fun h => h)
      have HT4 := Lib.hid ht4
      have HOT := Lib.hid (And.intro (show wr.rangeAt t 0 (cellsShow which vS) from HO.out.told.row) (And.intro HO.out.told.th HO.out.bw))
      clear hnew hbits hsides hz4 ht4 HO
      go_wp2_with fail
      refine (clip_sums wr (t + 1) vS S HE.out.1).mono ?_
      rintro e W5 ⟨v', rfl, hn5, rfl⟩
      have h1c : v'.oneCell' = true := by
        obtain ⟨a9, c9, h9, _⟩ := hn5.sums
        rw [h9]; rfl
      have hp5 : ∃ a n c, v' = .slice a n c := by
        obtain ⟨a9, c9, h9, _⟩ := hn5.sums
        exact ⟨a9, _, c9, h9⟩
      obtain ⟨a9, n9, c9, rfl⟩ := hp5
      have f32 : wr.frozen? ⟨t, 32, none⟩ = false := by have := (HOT.out.2.1 32 (by omega)).2; rwa [Nat.zero_add] at this
      have hrl := range_lay (.slice a9 n9 c9) HOT.out.1
      have k1 : Keeps (· = t) wr (wr.setCell ⟨t, 32, none⟩ (.slice a9 n9 c9)) := (Keeps.refl (· = t) wr).setCell (p := ⟨t, 32, none⟩) (.inl rfl) _
      have hth := there_setCell HT4.out t 32 (.slice a9 n9 c9)
      have hn6 := hn5.keep k1 (fun k hk e => by have := hn5.own k hk; omega)
      have HF2 := Lib.hid (And.intro hrl (And.intro hth (And.intro hn6 (And.intro h1c (k1.below (B := t) (by rw [HT.out]; exact HOT.out.2.2.size) (fun k hk => by rw [hk]; exact Nat.le_refl _))))))
      clear hrl hth hn6 hn5 h1c k1
      have HG := Lib.hid trivial
      go_wp2_with (first
        | (have _ := HG; refine wpList_load_mid rfl 59 _ rfl t 0 rfl (cellsShow which (.slice a9 n9 c9)) _ HF2.out.1 Try.underlying59 rfl (by rw [length_cellsShow]; exact infoShow) ?_; clear HG)
        | (refine wpList_store_mid rfl 59 _ _ rfl z4 0 (cellsShow which (.slice a9 n9 c9)).toArray rfl rfl (by rw [List.size_toArray, length_cellsShow]; exact HF2.out.2.1) (by rw [List.size_toArray, length_cellsShow]; exact infoShow) (one_cellsShow which rfl) ?_))
      have hw3 := HB3.out.size
      have hall : Below w.heap.size w (wr.setCell ⟨t, 32, none⟩ (.slice a9 n9 c9)) := (HB3.out.trans (HOT.out.2.2.mono hw3)).trans (HF2.out.2.2.2.2.mono (by rw [HT.out]; exact hw3))
      have k2 := keeps_setCells_ z4 (cellsShow which (.slice a9 n9 c9)) 0 (wr.setCell ⟨t, 32, none⟩ (.slice a9 n9 c9))
      have hn7 := (HF2.out.2.2.1.keep k2 (fun k hk e => by have := HF2.out.2.2.1.own k hk; have := HZ4.out; omega)).mono (base' := w.heap.size) (by rw [HT.out]; omega)
      rw [← HE.out.2.2, HL.out.1] at hn7
      have hbt := HE.out.2.1
      rw [HL.out.1] at hbt
      exact bodyPost_ret (results_cell_tmp Try.results35 _ _ z4 0 (cellsShow which (.slice a9 n9 c9)) _ rfl (range_stored _ _ _ _ (by rw [length_cellsShow]; exact World.there_setCells HF2.out.2.1 _ _ _)) Try.underlying59 rfl (by rw [length_cellsShow]; exact infoShow)) rfl
        ⟨which, .slice a9 n9 c9, rfl, hn7, hbt, hall.trans (k2.below hall.size (fun k hk => by rw [hk, HZ.out.2]; omega))⟩
end Go.Proofs.Ytfmgoehnbaiamaa
