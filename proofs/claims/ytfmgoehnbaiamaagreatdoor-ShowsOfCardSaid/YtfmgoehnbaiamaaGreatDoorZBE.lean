/-
  Joined: U11, U12, U13, U16, S2.
-/
import Derived.Test.YtfmgoehnbaiamaaGreatDoorZBD
import Derived.Stop.BytesEq
-- Walks: sums compared; SameBytes, SamePair, SamePairs; how great pairs are; a map of pairs.
open Go Go.RowKit Alm
namespace Go.Proofs.YtfmgoehnbaiamaaGreatDoor
theorem eq_sums_d (d : Nat) (s t : Sum) (w : World) : (Op.equalIn (d + 2) 24 (.agg (cellsOf s).toArray) (.agg (cellsOf t).toArray)).run Tryz.prog w = .ok (decide (s = t)) w := by
  have h := run_equalIn_bytes (P := Tryz.prog) w d 24 5 32 Tryz.underlying24 Tryz.underlying5 (fun w => Tryz.sizeOf5 w) s.toList t.toList (by simp) (by simp)
  have hc : ∀ s : Sum, cellsOf s = s.toList.map Extern.Stop.cell := fun s => rfl
  simp only [hc]
  rw [h]
  have hd : (s.toList == t.toList) = decide (s = t) := by
    rw [Bool.eq_iff_iff]
    simp
  rw [hd]
theorem eq_sums (s t : Sum) (w : World) : (Op.equalIn 10000 24 (.agg (cellsOf s).toArray) (.agg (cellsOf t).toArray)).run Tryz.prog w = .ok (decide (s = t)) w := by
  obtain ⟨d, hd⟩ : ∃ d, 10000 = d + 2 := ⟨9998, rfl⟩
  rw [hd]
  exact eq_sums_d d s t w
theorem eq_sums_same (s : Sum) (w : World) : (Op.equalIn 10000 24 (.agg (cellsOf s).toArray) (.agg (cellsOf s).toArray)).run Tryz.prog w = .ok true w := by
  rw [eq_sums]; simp
/-- The sum whose first byte is b. -/
noncomputable def lit (b : UInt8) : Sum := Classical.choose (⟨Vector.ofFn fun i : Fin 32 => if i.1 = 0 then b else 0, rfl⟩ : ∃ s : Sum, s = Vector.ofFn fun i : Fin 32 => if i.1 = 0 then b else 0)
theorem bs_any (a : Option Addr) (n c : Nat) (w : World) : Calls Tryz.prog 160 #[.slice a n c] w fun e w' => e = .returned (.int .i64 (n : Int)) ∧ w = w' := by
  go_enter Tryz.func160, Tryz.ntmps160
  go_wp2_with fail
  exact bodyPost_ret (results_tmp rfl _ _ _) rfl ⟨rfl, rfl⟩
set_option maxRecDepth 100000 in
theorem psize1_any (x : PE) (w : World) : Calls Tryz.prog 118 #[.agg (encP x).toArray] w fun e w' => (∃ n : Int, e = .returned (.int .i64 n)) ∧ Below w.heap.size w w' := by
  have h1 : (w.alloc (.cells (encP x).toArray 41)).rangeAt w.heap.size 0 (encP x) := range_new w (encP x).toArray 41 _ rfl
  have hB := al (Below.refl _ w) (.cells (encP x).toArray 41)
  have HB := Lib.hid hB
  have c1 := encP_cell h1
  clear h1 hB
  go_enter Tryz.func118, Tryz.ntmps118
  go_wp2_with fail
  refine (bs_any _ _ _ _).mono ?_
  rintro e w1 ⟨rfl, rfl⟩
  go_wp2_with fail
  refine bodyPost_ret (results_tmp rfl _ _ _) rfl ⟨⟨_, rfl⟩, HB.out⟩
/-- One of a list of pairs. -/
theorem pairs_at {w : World} {v : Value} {P : List Keys.Pr} (h : PairsAt w v P) {i : Nat} (hi : i < P.length) : ∃ b o cap, ∃ y : PE, v = .slice (some ⟨b, o, none⟩) P.length cap ∧ P.length ≤ cap ∧ cap ≤ maxLen ∧ w.rangeAt b (o + i * 33) (encP y) ∧ BytesAt w (peV y) (P.getD i (zeroSum, [])).2 ∧ y.1 = (P.getD i (zeroSum, [])).1 := by
  obtain ⟨a, cap, cs, rfl, h1, h2, h3, h4, h5⟩ := h
  have hne : P ≠ [] := by intro e; rw [e] at hi; simp at hi
  obtain ⟨b, o, rfl, hr⟩ := h5.resolve_left hne
  have hl : cs.length = P.length := by rw [← h3, List.length_map]
  have hi2 : i < (cs.map Prod.fst).length := by rw [List.length_map, hl]; exact hi
  have hc : cs[i]? = some cs[i] := List.getElem?_eq_getElem (by omega)
  refine ⟨b, o, cap, (cs.map Prod.fst).getD i default, rfl, h1, h2, rangeP_at hr hi2, ?_, ?_⟩
  · have := h4 cs[i] (List.getElem_mem _)
    rw [← h3, List.getD_eq_getElem?_getD, List.getD_eq_getElem?_getD, List.getElem?_map, List.getElem?_map, hc]
    exact this
  · rw [← h3, List.getD_eq_getElem?_getD, List.getD_eq_getElem?_getD, List.getElem?_map, List.getElem?_map, hc]; rfl
theorem pairs_form {w : World} {v : Value} {P : List Keys.Pr} (h : PairsAt w v P) : ∃ a cap, v = .slice a P.length cap ∧ P.length ≤ cap ∧ cap ≤ maxLen := by
  obtain ⟨a, cap, cs, rfl, h1, h2, _⟩ := h
  exact ⟨a, cap, rfl, h1, h2⟩
set_option maxRecDepth 100000 in
set_option maxHeartbeats 1000000 in
theorem psize_any (P : List Keys.Pr) (v : Value) (w : World) (hv : PairsAt w v P) (hn : P.length < 1000000) : Calls Tryz.prog 47 #[v] w fun e w' => (∃ n : Int, e = .returned (.int .i64 n)) ∧ Below w.heap.size w w' := by
  have HV := Lib.hid hv
  obtain ⟨a, cap, rfl, h1, h2⟩ := pairs_form hv
  obtain ⟨N, hN⟩ : ∃ N, N = P.length := ⟨_, rfl⟩
  rw [← hN] at HV h1 hn ⊢
  have HN := Lib.hid (And.intro hN hn)
  clear hv hN h2
  have k1 : (N : Int) ≤ (cap : Int) := by omega
  go_enter Tryz.func47, Tryz.ntmps47
  go_wp2_with fail
  go_loopw [3, 4] (fun nv iv W => ∃ (n : Int) (j : Nat), nv = .int .i64 n ∧ j ≤ N ∧ iv = .int .i64 (j : Int) ∧ Below w.heap.size w W) (fun _ iv _ => N - (intOf iv).toNat)
  case atStart => exact ⟨_, 0, rfl, by omega, rfl, Below.refl _ _⟩
  case round =>
    obtain ⟨n, j, rfl, hj, rfl, hB⟩ := hrel
    have HB := Lib.hid hB
    clear hB
    by_cases hlt : j < N
    · have c1 : decide (j < N) = true := by simpa using hlt
      have c1' : decide ((j : Int) < (N : Int)) = true := by simp; omega
      by_cases hle : n ≤ 1048576
      · have c2 : decide (n ≤ 1048576) = true := by simpa using hle
        obtain ⟨b, o, cap', y, he, _, _, hr, _⟩ := pairs_at (HV.out.below HB.out) (i := j) (by rw [← HN.out.1]; exact hlt)
        simp only [Value.slice.injEq] at he
        obtain ⟨rfl, -, rfl⟩ := he
        have HR := Lib.hid hr
        clear hr
        go_wp2_with (first
          | (refine wpList_load_pair rfl _ rfl b (o + j * 33) rfl y HR.out ?_)
          | (go_at_call 118; refine (psize1_any y _).mono ?_; rintro e w1 ⟨⟨m, rfl⟩, hb1⟩; have HB1 := Lib.hid (HB.out.trans (hb1.mono HB.out.size)); clear hb1))
        refine ⟨⟨_, j + 1, rfl, by omega, congrArg _ ?_, HB1.out⟩, ?_⟩
        · first | omega | (have := HN.out.2; unfold wrap64; omega)
        · have := HN.out.2
          have hw : wrap64 ((j : Int) + 1) = (j : Int) + 1 := by unfold wrap64; omega
          simp only [intOf]
          try rw [hw]
          omega
      · have c2 : decide (n ≤ 1048576) = false := by simpa using hle
        go_wp2_with fail
        exact bodyPost_ret (results_tmp rfl _ _ _) rfl ⟨⟨_, rfl⟩, HB.out⟩
    · have c1 : decide (j < N) = false := by simpa using hlt
      have c1' : decide ((j : Int) < (N : Int)) = false := by simp; omega
      go_wp2_with fail
      exact bodyPost_ret (results_tmp rfl _ _ _) rfl ⟨⟨_, rfl⟩, HB.out⟩
end Go.Proofs.YtfmgoehnbaiamaaGreatDoor
-- Walks: pairs compared (SamePairs); a map of pairs (law 15's of).
namespace Go.Proofs.YtfmgoehnbaiamaaGreatDoor
theorem pairs_one {w : World} {v : Value} {P : List Keys.Pr} (h : PairsAt w v P) {i : Nat} (hi : i < P.length) : ∃ (b o cap : Nat) (y : PE) (bs : List UInt8), v = .slice (some ⟨b, o, none⟩) P.length cap ∧ w.rangeAt b (o + i * 33) (encP y) ∧ BytesAt w (peV y) bs ∧ P[i]? = some (y.1, bs) := by
  obtain ⟨b, o, cap, y, h1, _, _, h2, h3, h4⟩ := pairs_at h hi
  refine ⟨b, o, cap, y, _, h1, h2, h3, ?_⟩
  rw [h4]
  simp [List.getD_eq_getElem?_getD, List.getElem?_eq_getElem hi]
end Go.Proofs.YtfmgoehnbaiamaaGreatDoor
-- Walk: a map of pairs (law 15's of).
namespace Go.Proofs.YtfmgoehnbaiamaaGreatDoor
/-- What stands after the pairs P were put. -/
def puts (x P : List Keys.Pr) : List Keys.Pr := P.foldl (fun x q => Keys.putB x q.1 q.2) x
theorem puts_take (x P : List Keys.Pr) {i : Nat} {k : Sum} {bs : List UInt8} (h : P[i]? = some (k, bs)) : puts x (P.take (i + 1)) = Keys.putB (puts x (P.take i)) k bs := by
  have hi := (List.getElem?_eq_some_iff.1 h).1
  have e := (List.getElem?_eq_some_iff.1 h).2
  unfold puts
  rw [List.take_succ_eq_append_getElem hi, List.foldl_append, e]
  rfl
theorem length_putB (x : List Keys.Pr) (k : Sum) (bs : List UInt8) : (Keys.putB x k bs).length ≤ x.length + 1 := by
  unfold Keys.putB
  split
  · omega
  · split
    · have := Keys.length_del k x; omega
    · exact Keys.length_put k bs x
theorem length_puts (P : List Keys.Pr) : ∀ x, (puts x P).length ≤ x.length + P.length := by
  induction P with
  | nil => intro x; exact Nat.le_refl _
  | cons q P ih =>
    intro x
    have h1 := ih (Keys.putB x q.1 q.2)
    have h2 := length_putB x q.1 q.2
    show (puts (Keys.putB x q.1 q.2) P).length ≤ _
    simp only [List.length_cons]
    omega
end Go.Proofs.YtfmgoehnbaiamaaGreatDoor
-- For the seat v1.ZD: in place of XU14 to XU16.
-- Walks: rows of sums that are new; slices.Clip and Reverse of sums.
namespace Go.Proofs.YtfmgoehnbaiamaaGreatDoor
/-- A row of sums that is new (from base on), or nil. -/
def SumsNew (w : World) (base : Nat) (v : Value) (l : List Sum) : Prop :=
  (v = .slice none 0 0 ∧ l = []) ∨ ∃ g cap, v = .slice (some ⟨g, 0, none⟩) l.length cap ∧ l ≠ [] ∧ l.length ≤ cap ∧ cap ≤ maxLen ∧ base ≤ g ∧ w.rangeAt g 0 (cellsAll l) ∧ w.there g 0 (32 * cap)
theorem SumsNew.sums {w : World} {base : Nat} {v : Value} {l : List Sum} (h : SumsNew w base v l) : SumsAt w v l := by
  rcases h with ⟨rfl, rfl⟩ | ⟨g, cap, rfl, h0, h1, h2, h3, h4, h5⟩
  · exact ⟨none, 0, rfl, Nat.le_refl _, by unfold maxLen; omega, .inl rfl⟩
  · exact ⟨_, cap, rfl, h1, h2, .inr ⟨g, 0, rfl, h4⟩⟩
theorem SumsNew.own {w : World} {base : Nat} {v : Value} {l : List Sum} (h : SumsNew w base v l) : ∀ k, v.ownBlock = some k → base ≤ k := by
  intro k hk
  rcases h with ⟨rfl, rfl⟩ | ⟨g, cap, rfl, h0, h1, h2, h3, h4, h5⟩
  · cases hk
  · simp only [Value.ownBlock, Option.some.injEq] at hk; omega
theorem SumsNew.keep {X : Nat → Prop} {w w' : World} {base : Nat} {v : Value} {l : List Sum} (h : SumsNew w base v l) (hk : Keeps X w w') (hv : ∀ k, v.ownBlock = some k → ¬ X k) : SumsNew w' base v l := by
  rcases h with ⟨rfl, rfl⟩ | ⟨g, cap, rfl, h0, h1, h2, h3, h4, h5⟩
  · exact .inl ⟨rfl, rfl⟩
  · exact .inr ⟨g, cap, rfl, h0, h1, h2, h3, hk.range h4 (hv g rfl), hk.there h5 (by have := List.length_pos_iff.2 h0; omega) (hv g rfl)⟩
theorem SumsNew.mono {w : World} {base base' : Nat} {v : Value} {l : List Sum} (h : SumsNew w base v l) (hb : base' ≤ base) : SumsNew w base' v l := by
  rcases h with h | ⟨g, cap, rfl, h0, h1, h2, h3, h4, h5⟩
  · exact .inl h
  · exact .inr ⟨g, cap, rfl, h0, h1, h2, by omega, h4, h5⟩
theorem own_new {w : World} {base : Nat} {v : Value} {l : List Sum} (h : w.ownsRow base 24 32 v l.length (cellsAll l)) (h0 : l ≠ []) : SumsNew w base v l := by
  rcases h.2 with ⟨_, h2⟩ | ⟨g, cap, cur, rfl, hb, hg, hnc, hcm, hsz, htk⟩
  · exact (h0 (List.length_eq_zero_iff.1 h2)).elim
  · refine .inr ⟨g, cap, rfl, h0, hnc, hcm, hb, own_sum_range h, fun j hj => ⟨?_, frozen_of_row w g _ cur _ hg⟩⟩
    rw [cell_of_row w g _ cur _ (0, 0) hg, Nat.zero_add, Array.getElem?_eq_getElem (by rw [hsz]; omega)]; rfl
theorem own_new' {w : World} {base : Nat} {v : Value} {l : List Sum} (h : w.ownsRow base 24 32 v l.length (cellsAll l)) (h0 : l = [] → v = .slice none 0 0) : SumsNew w base v l := by
  by_cases hl : l = []
  · exact .inl ⟨h0 hl, hl⟩
  · exact own_new h hl
theorem clip_sums (w : World) (base : Nat) (v : Value) (l : List Sum) (h : SumsNew w base v l) : Calls Tryz.prog 99 #[v] w fun e w' => ∃ v', e = .returned v' ∧ SumsNew w base v' l ∧ w = w' := by
  rcases h with ⟨rfl, rfl⟩ | ⟨g, cap, rfl, h0, h1, h2, h3, h4, h5⟩
  · go_enter Tryz.func99, Tryz.ntmps99
    go_wp2_with fail
    exact bodyPost_ret (results_tmp rfl _ _ _) rfl ⟨_, rfl, .inl ⟨rfl, rfl⟩, rfl⟩
  · have hn : SumsNew w base (.slice (some ⟨g, 0, none⟩) l.length l.length) l := .inr ⟨g, l.length, rfl, h0, Nat.le_refl _, by omega, h3, h4, fun j hj => h5 j (by omega)⟩
    have HN := Lib.hid hn; clear hn
    clear h4 h5
    obtain ⟨n, hn⟩ : ∃ n, n = l.length := ⟨_, rfl⟩
    rw [← hn] at HN h1 ⊢
    have HH := Lib.hid hn; clear hn
    have k1 : (n : Int) ≤ (cap : Int) := by omega
    unfold maxLen at h2
    go_enter Tryz.func99, Tryz.ntmps99
    go_wp2_with fail
    refine bodyPost_ret (results_tmp rfl _ _ _) rfl ?_
    exact ⟨_, rfl, HN.out, rfl⟩
/-- A store into a list of sums. -/
theorem range_set {w : World} {b o : Nat} {t : List Sum} {i : Nat} (s : Sum) (hr : w.rangeAt b o (cellsAll t)) (ht : w.there b o (32 * t.length)) (hi : i < t.length) : (w.setCells b (o + i * 32) (cellsOf s)).rangeAt b o (cellsAll (t.set i s)) := by
  have hl : cellsAll (t.set i s) = cellsAll (t.take i) ++ (cellsOf s ++ cellsAll (t.drop (i + 1))) := by
    rw [List.set_eq_take_append_cons_drop, if_pos hi, cellsAll_append, cellsAll_cons]
  rw [cellsAll_split hi, range_append, range_append, length_cellsAll, List.length_take, Nat.min_eq_left (by omega), length_cellsOf] at hr
  rw [hl, range_append, range_append, length_cellsAll, List.length_take, Nat.min_eq_left (by omega), length_cellsOf]
  have e : o + 32 * i = o + i * 32 := by omega
  refine ⟨?_, ?_, ?_⟩
  · exact World.rangeAt_setCells_apart hr.1 _ _ _ (by right; left; rw [length_cellsAll, List.length_take]; omega)
  · rw [e]
    exact World.rangeAt_setCells_same w b _ _ (fun j hj => by
      rw [length_cellsOf] at hj
      have := ht (i * 32 + j) (by omega)
      rwa [show o + (i * 32 + j) = o + i * 32 + j from by omega] at this)
  · exact World.rangeAt_setCells_apart hr.2.2 _ _ _ (by right; right; rw [length_cellsOf]; omega)
/-- After i swaps. -/
def swapped (l : List Sum) (i : Nat) (t : List Sum) : Prop := t.length = l.length ∧ ∀ k, k < l.length → t[k]? = if k < i ∨ l.length - i ≤ k then l[l.length - 1 - k]? else l[k]?
theorem swapped_zero (l : List Sum) : swapped l 0 l := ⟨rfl, fun k hk => by rw [if_neg (by omega)]⟩
theorem swapped_step {l t : List Sum} {i j : Nat} {x y : Sum} (h : swapped l i t) (hij : i < j) (hj : j = l.length - 1 - i) (hl : j < l.length) (hx : t[i]? = some x) (hy : t[j]? = some y) : swapped l (i + 1) ((t.set i y).set j x) := by
  refine ⟨by simp [h.1], fun k hk => ?_⟩
  have h2 := h.2 k hk
  have hi2 := h.2 i (by omega)
  have hj2 := h.2 j (by omega)
  rw [if_neg (by omega), hx] at hi2
  rw [if_neg (by omega), hy] at hj2
  have ht := h.1
  by_cases hkj : k = j
  · subst hkj
    rw [if_pos (by omega), List.getElem?_set_self (by simp [ht]; omega), hi2]
    congr 1; omega
  · by_cases hki : k = i
    · subst hki
      rw [if_pos (by omega), List.getElem?_set_ne (by omega), List.getElem?_set_self (by omega), hj2]
      congr 1
    · rw [List.getElem?_set_ne (by omega), List.getElem?_set_ne (by omega), h2]
      by_cases hc : k < i ∨ l.length - i ≤ k
      · rw [if_pos hc, if_pos (by omega)]
      · rw [if_neg hc, if_neg (by omega)]
theorem swapped_end {l t : List Sum} {i : Nat} (h : swapped l i t) (hi : l.length ≤ 2 * i + 1) : t = l.reverse := by
  refine List.ext_getElem? fun k => ?_
  by_cases hk : k < l.length
  · rw [h.2 k hk, List.getElem?_reverse hk]
    by_cases hc : k < i ∨ l.length - i ≤ k
    · rw [if_pos hc]
    · rw [if_neg hc]; congr 1; omega
  · rw [List.getElem?_eq_none (by rw [h.1]; omega), List.getElem?_eq_none (by simp; omega)]
set_option maxRecDepth 100000 in
set_option maxHeartbeats 1000000 in
theorem reverse_sums (w : World) (base : Nat) (v : Value) (l : List Sum) (h : SumsNew w base v l) (hl : l.length < 4000000000) : Calls Tryz.prog 144 #[v] w fun e w' => e = .returned (.tuple #[]) ∧ SumsNew w' base v l.reverse ∧ Keeps (fun k => v.ownBlock = some k) w w' := by
  rcases h with ⟨rfl, rfl⟩ | ⟨g, cap, rfl, h0, h1, h2, h3, h4, h5⟩
  · go_enter Tryz.func144, Tryz.ntmps144
    go_wp2_with fail
    refine wp_loop_once ?_
    go_wp2_with fail
    exact bodyPost_end (results_none rfl _ _ _) rfl ⟨rfl, .inl ⟨rfl, rfl⟩, Keeps.refl _ _⟩
  · obtain ⟨n, hn⟩ : ∃ n, n = l.length := ⟨_, rfl⟩
    rw [← hn] at h1 hl ⊢
    have HN := Lib.hid hn; clear hn
    have HR := Lib.hid h4; clear h4
    have HT := Lib.hid h5; clear h5
    have hn1 : (n : Int) < 4000000000 := by omega
    go_enter Tryz.func144, Tryz.ntmps144
    go_wp2_with fail
    go_loopw [2, 3] (fun a b W => ∃ (i : Nat) (z : Int) (t : List Sum), a = .int .i64 (i : Int) ∧ b = .int .i64 z ∧ z = (n : Int) - 1 - i ∧ i ≤ n ∧ swapped l i t ∧ W.rangeAt g 0 (cellsAll t) ∧ W.there g 0 (32 * cap) ∧ Keeps (· = g) w W) (fun a _ _ => n - (intOf a).toNat)
    case atStart => exact ⟨0, _, l, rfl, rfl, by omega, by omega, swapped_zero l, HR.out, HT.out, Keeps.refl _ _⟩
    case round =>
      clear HR HT
      obtain ⟨i, z, t, rfl, rfl, hz, hi, hs, hR, hT, hK⟩ := hrel
      have HS := Lib.hid hs; clear hs
      have HR := Lib.hid hR; clear hR
      have HT := Lib.hid hT; clear hT
      have HK := Lib.hid hK; clear hK
      by_cases hlt : (i : Int) < z
      · obtain ⟨j, hj⟩ : ∃ j : Nat, z = (j : Int) := ⟨z.toNat, by omega⟩
        subst hj
        have hij : i < j := by omega
        have hjn : j = n - 1 - i := by omega
        have HJ := Lib.hid hjn; clear hjn hz
        have htl : t.length = n := by rw [HS.out.1, HN.out]
        have hx := Lib.hid (range_at HR.out (i := i) (by have := HJ.out; omega))
        have hy := Lib.hid (range_at HR.out (i := j) (by have := HJ.out; omega))
        have hgx := Lib.hid (List.getElem?_eq_getElem (l := t) (i := i) (by have := HJ.out; omega))
        have hgy := Lib.hid (List.getElem?_eq_getElem (l := t) (i := j) (by have := HJ.out; omega))
        have HTL := Lib.hid htl
        generalize t[i]'_ = x at *
        generalize t[j]'_ = y at *
        rw [Nat.zero_add] at hx hy
        have hi0 : (0 : Int) ≤ (i : Int) := by omega
        have hin : (i : Int) < (n : Int) := by have := HJ.out; omega
        have hj0 : (0 : Int) ≤ (j : Int) := by omega
        have hjn : (j : Int) < (n : Int) := by have := HJ.out; omega
        clear htl
        go_wp2_with fail
        refine wp_region_sched (fun W => W.rangeAt g (j * 32) (cellsOf y)) [.t 0, .t 1, .t 2, .t 3, .t 4, .t 5, .t 6, .t 8, .t 9, .t 10, .s 7, .e 11 true, .t 12, .e 13 false, .t 14, .e 15 false] (by kernel_rfl) (by kernel_rfl) (by intro c a d v w h; cases d <;> exact h) ?_
        iterate 10
          refine wpS_t rfl (v := ?_) (by rfl) (fun W => ?_) ?_
          rotate_left
          · go_simp
            try rfl
          try simp only [Act.put, List.setIfInBounds_toArray, List.set_cons_zero, List.set_cons_succ]
        refine wpS_load_sum (by exact hy.out) rfl (by rfl) _ (by rfl) g (j * 32) (by rfl) y (fun W hW => hW) ?_
        try simp only [Act.put, List.setIfInBounds_toArray, List.set_cons_zero, List.set_cons_succ]
        refine wpS_k rfl (by rfl) (fun K hK => ?_)
        refine wp_load_sum _ (by rfl) g (i * 32) (by rfl) x (by exact hx.out) ?_
        refine hK _ _ ⟨by exact hy.out, ?_⟩; clear hK K
        try simp only [Act.put, List.setIfInBounds_toArray, List.set_cons_zero, List.set_cons_succ]
        iterate 1
          refine wpS_t rfl (v := ?_) (by rfl) (fun W => ?_) ?_
          rotate_left
          · go_simp
            try rfl
          try simp only [Act.put, List.setIfInBounds_toArray, List.set_cons_zero, List.set_cons_succ]
        refine wpS_e rfl (by rfl) (fun K hK => ?_)
        refine wp_store_sum _ _ (by rfl) g (i * 32) y (by rfl) (by rfl) (fun k hk => by have := HT.out (i * 32 + k) (by have := HJ.out; omega); rwa [Nat.zero_add] at this) ?_
        refine hK _ _ ?_; clear hK K
        try simp only [Act.put]
        have HR1 := Lib.hid (range_set (i := i) (t := t) y (by exact HR.out : wr.drew.rangeAt g 0 (cellsAll t)) (by rw [HTL.out]; exact fun q hq => HT.out q (by omega)) (by rw [HTL.out]; have := HJ.out; omega))
        have HT1 := Lib.hid (World.there_setCells (by exact HT.out : wr.drew.there g 0 (32 * cap)) g (i * 32) (cellsOf y))
        have HK1 := Lib.hid ((HK.out.drew).trans (keeps_setCells_ g (cellsOf y) (i * 32) wr.drew))
        rw [Nat.zero_add] at HR1
        generalize wr.drew.setCells g (i * 32) (cellsOf y) = w1 at *
        iterate 1
          refine wpS_t rfl (v := ?_) (by rfl) (fun W => ?_) ?_
          rotate_left
          · go_simp
            try rfl
          try simp only [Act.put, List.setIfInBounds_toArray, List.set_cons_zero, List.set_cons_succ]
        refine wpS_e rfl (by rfl) (fun K hK => ?_)
        refine wp_store_sum _ _ (by rfl) g (j * 32) x (by rfl) (by rfl) (fun k hk => by have := HT1.out (j * 32 + k) (by have := HJ.out; omega); rwa [Nat.zero_add] at this) ?_
        refine hK _ _ ?_; clear hK K
        try simp only [Act.put]
        have HR2 := Lib.hid (range_set (i := j) (t := t.set i y) x HR1.out (by rw [List.length_set, HTL.out]; exact fun q hq => HT1.out q (by omega)) (by rw [List.length_set, HTL.out]; have := HJ.out; omega))
        have HT2 := Lib.hid (World.there_setCells HT1.out g (j * 32) (cellsOf x))
        have HK2 := Lib.hid (HK1.out.trans (keeps_setCells_ g (cellsOf x) (j * 32) w1))
        rw [Nat.zero_add] at HR2
        generalize w1.setCells g (j * 32) (cellsOf x) = w2 at *
        have HS2 := Lib.hid (swapped_step HS.out hij (by rw [← HN.out]; exact HJ.out) (by rw [← HN.out]; have := HJ.out; omega) hgx.out hgy.out)
        clear HR HT HK HR1 HT1 HK1 HS hx hy hgx hgy
        refine wpS_done ?_
        go_wp2_with fail
        refine ⟨⟨i + 1, _, _, by simp, rfl, ?_, ?_, HS2.out, HR2.out, HT2.out, HK2.out⟩, by simp [intOf]; omega⟩
        · have := HJ.out; omega
        · omega
      · have hrev : t = l.reverse := swapped_end HS.out (by rw [← HN.out]; omega)
        have HRV := Lib.hid hrev; clear hrev hz
        have hlt' : decide ((i : Int) < z) = false := decide_eq_false hlt
        go_wp2_with fail
        refine bodyPost_end (results_none rfl _ _ _) rfl ⟨rfl, .inr ⟨g, cap, ?_, ?_, ?_, h2, h3, ?_, ?_⟩, HK.out.mono (fun k hk => by rw [hk]; rfl)⟩
        · rw [List.length_reverse, ← HN.out]
        · simpa using h0
        · rw [List.length_reverse, ← HN.out]; exact h1
        · rw [← HRV.out]; exact HR.out
        · exact HT.out
end Go.Proofs.YtfmgoehnbaiamaaGreatDoor
