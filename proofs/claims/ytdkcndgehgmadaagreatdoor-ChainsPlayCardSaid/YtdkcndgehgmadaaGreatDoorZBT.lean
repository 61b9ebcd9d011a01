/-
  Joined: Args2, CA1, B4, TW2, TWB2.
-/
import Derived.Test.YtdkcndgehgmadaaGreatDoorZAC
import Derived.Deep.Strs
import Derived.Test.YtdkcndgehgmadaaGreatDoorZAN
import Derived.Test.YtdkcndgehgmadaaGreatDoorZAO
import Derived.Test.YtdkcndgehgmadaaGreatDoorZAQ
import Derived.Test.YtdkcndgehgmadaaGreatDoorZBM
-- Arguments of a law, opened: 64-bit integers, bytes, structs.
open Go Go.RowKit Go.ChangeShapes Go.WideShapes Go.ChangeAt Alm
namespace Go.Proofs.YtdkcndgehgmadaaGreatDoor
section
variable {H : Type} {enc : TypeId × Value → H} {P : Program} {w : World} {base : Nat} {spare : Nat → Bool} {held : Bool}
theorem trod_struct5 {t : TypeId} {f0 f1 f2 f3 f4 : Field} {fuel : Nat} {cs : List Value} {x : DataW H × List MemPlace} (ht : P.underlying t = some (.struct #[f0, f1, f2, f3, f4])) (h : DataW.trod enc P w base spare held fuel t cs = some x) :
    ∃ y0 y1 y2 y3 y4 n, cs.length = P.cellsOf t ∧ DataW.trod enc P w base spare held n f0.type ((cs.drop f0.offset).take (P.cellsOf f0.type)) = some y0 ∧
      DataW.trod enc P w base spare held n f1.type ((cs.drop f1.offset).take (P.cellsOf f1.type)) = some y1 ∧ DataW.trod enc P w base spare held n f2.type ((cs.drop f2.offset).take (P.cellsOf f2.type)) = some y2 ∧
      DataW.trod enc P w base spare held n f3.type ((cs.drop f3.offset).take (P.cellsOf f3.type)) = some y3 ∧ DataW.trod enc P w base spare held n f4.type ((cs.drop f4.offset).take (P.cellsOf f4.type)) = some y4 := by
  obtain ⟨xs, n, _, rfl, hl, hlen, hf⟩ := DataW.trod_struct ht h
  match xs, hlen with
  | [y0, y1, y2, y3, y4], _ => exact ⟨y0, y1, y2, y3, y4, n, hl, by simpa using hf 0 f0 rfl, by simpa using hf 1 f1 rfl, by simpa using hf 2 f2 rfl, by simpa using hf 3 f3 rfl, by simpa using hf 4 f4 rfl⟩
end
section
variable {H : Type} {enc : TypeId × Value → H} {W : World} {base : Nat} {spare : Nat → Bool} {held : Bool} {r : Reach} {b2 : Nat}
theorem cells_u64 : Tryz.prog.cellsOf 25 = 1 := by kernel_rfl
theorem cells_sums : Tryz.prog.cellsOf 22 = 1 := by kernel_rfl
set_option maxRecDepth 100000 in
theorem arg_u64 {fuel : Nat} {v : Value} {x : DataW H × List MemPlace} (h : DataW.trod enc Tryz.prog W base spare held fuel 25 v.cells.toList = some x) (hok : Value.okWide Tryz.prog W r b2 25 v) : ∃ n : Nat, v = .int .u64 (n : Int) ∧ n < 18446744073709551616 := by
  obtain ⟨n, hc, hn⟩ := open_u64 Tryz.underlying25 h
  obtain ⟨m, rfl⟩ := okWide_int Tryz.underlying25 hok
  refine ⟨n, ?_, hn⟩
  simpa [Value.cells] using hc
theorem cells_said11 : Tryz.prog.cellsOf 57 = 67 := by kernel_rfl
/-- What is said of a link, as a value. -/
abbrev said11 (m n : Nat) (a b : Sum) (v : Value) : Value := .agg ([Value.int .u64 (m : Int), .int .u64 (n : Int)] ++ cellsOf a ++ cellsOf b ++ [v]).toArray
set_option maxRecDepth 100000 in
theorem arg_said11 {fuel : Nat} {v : Value} {x : DataW H × List MemPlace} (h : DataW.trod enc Tryz.prog W base spare held fuel 57 v.cells.toList = some x) (hok : Value.okWide Tryz.prog W r b2 57 v) :
    ∃ m n a b vl l, v = said11 m n a b vl ∧ m < 18446744073709551616 ∧ n < 18446744073709551616 ∧ SumsAt W vl l := by
  obtain ⟨xs, rfl, hsz⟩ := okWide_struct Tryz.underlying57 hok
  obtain ⟨y0, y1, y2, y3, y4, n', hl, h0, h1, h2, h3, h4⟩ := trod_struct5 Tryz.underlying57 h
  simp only [Value.cells] at h0 h1 h2 h3 h4 hl
  obtain ⟨m, e0, hm⟩ := open_u64 Tryz.underlying25 h0
  obtain ⟨n, e1, hn⟩ := open_u64 Tryz.underlying25 h1
  obtain ⟨a, e2⟩ := open_sum Tryz.underlying24 Tryz.underlying5 cells_byte cells_sum h2
  obtain ⟨b, e3⟩ := open_sum Tryz.underlying24 Tryz.underlying5 cells_byte cells_sum h3
  obtain ⟨vl, l, e4, hs, _⟩ := open_sums Tryz.underlying22 Tryz.underlying24 Tryz.underlying5 cells_byte cells_sum h4
  rw [cells_u64] at e0 e1
  rw [cells_sum] at e2 e3
  rw [cells_sums] at e4
  rw [cells_said11] at hl
  refine ⟨m, n, a, b, vl, l, ?_, hm, hn, hs⟩
  have hx : xs.toList = [Value.int .u64 (m : Int), .int .u64 (n : Int)] ++ cellsOf a ++ cellsOf b ++ [vl] := by
    have key : xs.toList = (xs.toList.drop 0).take 1 ++ ((xs.toList.drop 1).take 1 ++ ((xs.toList.drop 2).take 32 ++ ((xs.toList.drop 34).take 32 ++ (xs.toList.drop 66).take 1))) := by
      have t4 : (xs.toList.drop 66).take 1 = xs.toList.drop 66 := List.take_of_length_le (by rw [List.length_drop, hl]; decide)
      have s3 := List.take_append_drop 32 (xs.toList.drop 34)
      have s2 := List.take_append_drop 32 (xs.toList.drop 2)
      have s1 := List.take_append_drop 1 (xs.toList.drop 1)
      have s0 := List.take_append_drop 1 (xs.toList.drop 0)
      rw [List.drop_drop] at s0 s1 s2 s3
      rw [t4, s3, s2, s1, s0]; rfl
    rw [key]
    exact (congr (congrArg _ e0) (congr (congrArg _ e1) (congr (congrArg _ e2) (congr (congrArg _ e3) e4)))).trans (by simp)
  rw [said11, ← hx]
end
end Go.Proofs.YtdkcndgehgmadaaGreatDoor
-- Pairs of numbers in memory; as an argument, opened.
open Go Go.RowKit Go.ChangeShapes Go.WideShapes Go.ChangeAt Alm
namespace Go.Proofs.YtdkcndgehgmadaaGreatDoor
/-- A list of pairs of numbers in memory. -/
def AsksAt (w : World) (v : Value) (l : List (Nat × Nat)) : Prop :=
  ∃ a cap, v = .slice a l.length cap ∧ l.length ≤ cap ∧ cap ≤ maxLen ∧ (l = [] ∨ ∃ b o, a = some ⟨b, o, none⟩ ∧ ∀ (i : Nat) (h : i < l.length), w.cell? ⟨b, o + i * 2, none⟩ = some (.int .u64 ((l[i].1 : Nat) : Int)) ∧ w.cell? ⟨b, o + i * 2 + 1, none⟩ = some (.int .u64 ((l[i].2 : Nat) : Int)) ∧ l[i].1 < 18446744073709551616 ∧ l[i].2 < 18446744073709551616)
theorem AsksAt.below {w w' : World} {v : Value} {l : List (Nat × Nat)} (h : AsksAt w v l) (hb : Below w.heap.size w w') : AsksAt w' v l := by
  obtain ⟨a, cap, rfl, h1, h2, h3⟩ := h
  refine ⟨a, cap, rfl, h1, h2, ?_⟩
  rcases h3 with h0 | ⟨b, o, rfl, hr⟩
  · exact .inl h0
  · refine .inr ⟨b, o, rfl, fun i hi => ?_⟩
    obtain ⟨k1, k2, k3, k4⟩ := hr i hi
    have k := Keeps.of_below (X := fun _ => False) hb
    exact ⟨k.cell k1 (fun h => h), k.cell k2 (fun h => h), k3, k4⟩
theorem AsksAt.form {w : World} {v : Value} {l : List (Nat × Nat)} (h : AsksAt w v l) {i : Nat} (hi : i < l.length) : ∃ b o cap, v = .slice (some ⟨b, o, none⟩) l.length cap ∧ w.cell? ⟨b, o + i * 2, none⟩ = some (.int .u64 ((l[i].1 : Nat) : Int)) ∧ w.cell? ⟨b, o + i * 2 + 1, none⟩ = some (.int .u64 ((l[i].2 : Nat) : Int)) ∧ l[i].1 < 18446744073709551616 ∧ l[i].2 < 18446744073709551616 := by
  obtain ⟨a, cap, rfl, h1, h2, h3⟩ := h
  rcases h3 with h0 | ⟨b, o, rfl, hr⟩
  · subst h0; simp at hi
  · exact ⟨b, o, cap, rfl, hr i hi⟩
section
variable {H : Type} {enc : TypeId × Value → H} {W : World} {base : Nat} {spare : Nat → Bool} {held : Bool} {r : Reach} {b2 : Nat}
theorem cells_ask : Tryz.prog.cellsOf 70 = 2 := by kernel_rfl
theorem open_ask {fuel : Nat} {cs : List Value} {x : DataW H × List MemPlace} (h : DataW.trod enc Tryz.prog W base spare held fuel 70 cs = some x) : ∃ a b : Nat, cs = [.int .u64 (a : Int), .int .u64 (b : Int)] ∧ a < 18446744073709551616 ∧ b < 18446744073709551616 := by
  obtain ⟨xs, m, _, _, hlen, hxl, hel⟩ := DataW.trod_array Tryz.underlying70 h
  rw [cells_ask] at hlen
  have one : ∀ i, i < 2 → ∃ n : Nat, cs[i]? = some (.int .u64 (n : Int)) ∧ n < 18446744073709551616 := fun i hi => by
    have hi' := hel i hi
    rw [cells_u64, Nat.mul_one] at hi'
    rw [List.getElem?_eq_getElem (by omega)] at hi'
    obtain ⟨n, hn, hb⟩ := open_u64 Tryz.underlying25 hi'
    have hd : (cs.drop i).take 1 = [cs[i]] := by
      rw [List.drop_eq_getElem_cons (by omega)]; rfl
    rw [hd] at hn
    have hn' : cs[i] = .int .u64 (n : Int) := by simpa using hn
    exact ⟨n, by rw [List.getElem?_eq_getElem (by omega), hn'], hb⟩
  obtain ⟨a, ha, ha2⟩ := one 0 (by omega)
  obtain ⟨b, hb, hb2⟩ := one 1 (by omega)
  refine ⟨a, b, ?_, ha2, hb2⟩
  match cs, hlen, ha, hb with
  | [p, q], _, ha, hb =>
    simp only [List.getElem?_cons_zero, List.getElem?_cons_succ, Option.some.injEq] at ha hb
    rw [ha, hb]
set_option maxRecDepth 100000 in
theorem arg_asks {fuel : Nat} {v : Value} {x : DataW H × List MemPlace} (h : DataW.trod enc Tryz.prog W base spare held fuel 61 v.cells.toList = some x) (hok : Value.okWide Tryz.prog W r b2 61 v) : ∃ l, AsksAt W v l := by
  obtain ⟨a0, n0, c0, rfl⟩ := okWide_slice Tryz.underlying61 hok
  rcases Deep.open_slice Tryz.underlying61 h with ⟨h1, _⟩ | ⟨a, len, cap, m, n, D, Pl, h1, hb, hl, hm, hmm, _, hel⟩
  · simp only [Value.cells, List.cons.injEq, and_true] at h1
    rw [h1]
    exact ⟨[], none, 0, rfl, Nat.le_refl _, by unfold maxLen; omega, .inl rfl⟩
  · simp only [Value.cells, List.cons.injEq, and_true] at h1
    rw [h1]
    have hlm : len ≤ m := by rw [hmm]; split <;> omega
    have one : ∀ i, i < len → ∃ s : Nat × Nat, (a.add (i * 2)).spot = none ∧ W.rangeAt (a.add (i * 2)).block (a.add (i * 2)).off [.int .u64 ((s.1 : Nat) : Int), .int .u64 ((s.2 : Nat) : Int)] ∧ s.1 < 18446744073709551616 ∧ s.2 < 18446744073709551616 := fun i hi => by
      obtain ⟨cs', h1, h2⟩ := hel i (by omega)
      rw [cells_ask] at h1
      obtain ⟨p, q, rfl, hp, hq⟩ := open_ask h2
      obtain ⟨h3, _, h4⟩ := range_of_cells h1 (by omega)
      exact ⟨(p, q), h3, h4, hp, hq⟩
    obtain ⟨f, hf⟩ := Deep.choose_lt one
    refine ⟨(List.range len).map f, some a, cap, by simp, by simpa using hl, hm, ?_⟩
    by_cases h0 : len = 0
    · subst h0; exact .inl rfl
    · right
      have hsp : a.spot = none := by
        have := (hf 0 (by omega)).1
        simpa [Addr.add] using this
      refine ⟨a.block, a.off, by cases a; simp_all, fun i hi => ?_⟩
      rw [List.length_map, List.length_range] at hi
      obtain ⟨_, k1, k2, k3⟩ := hf i hi
      have e : a.add (i * 2) = ⟨a.block, a.off + i * 2, none⟩ := by
        unfold Addr.add
        split
        · rename_i h0; have : i = 0 := by omega
          subst this; cases a; simp_all
        · rfl
      rw [e] at k1
      have g0 := k1 0 _ rfl
      have g1 := k1 1 _ rfl
      simp only [List.getElem_map, List.getElem_range]
      exact ⟨g0, g1, k2, k3⟩
end
end Go.Proofs.YtdkcndgehgmadaaGreatDoor
-- Walks: almonerlaw01.SameBytes.
open Go Go.RowKit Alm
namespace Go.Proofs.YtdkcndgehgmadaaGreatDoor
set_option maxRecDepth 100000 in
set_option maxHeartbeats 1000000 in
theorem same_bytes (a b : List UInt8) (va vb : Value) (w : World) (ha : BytesAt w va a) (hb : BytesAt w vb b) : Calls Tryz.prog 42 #[va, vb] w fun e w' => e = .returned (.bool (decide (a = b))) ∧ Below w.heap.size w w' := by
  obtain ⟨aa, ca, rfl, ha1, ha2, ha3⟩ := ha
  obtain ⟨ab, cb, rfl, hb1, hb2, hb3⟩ := hb
  obtain ⟨n, hn⟩ : ∃ n, n = a.length := ⟨_, rfl⟩
  obtain ⟨m, hm⟩ : ∃ m, m = b.length := ⟨_, rfl⟩
  rw [← hn] at ha1 ⊢
  rw [← hm] at hb1 ⊢
  have HN := Lib.hid hn; clear hn
  have HM := Lib.hid hm; clear hm
  unfold maxLen at ha2 hb2
  have hn63 : (n : Int) < 9223372036854775808 := by omega
  by_cases hnm : n = m
  · subst hnm
    have hne : ((n : Int) != (n : Int)) = false := by simp
    have hq : decide (a = b) = decide (∀ j, j < n → a[j]? = b[j]?) := by
      rw [decide_eq_decide]
      constructor
      · rintro rfl j _; rfl
      · intro h
        refine List.ext_getElem? fun j => ?_
        by_cases hj : j < n
        · exact h j hj
        · rw [List.getElem?_eq_none (by rw [← HN.out]; omega), List.getElem?_eq_none (by rw [← HM.out]; omega)]
    obtain ⟨r, hr⟩ : ∃ r, r = decide (a = b) := ⟨_, rfl⟩
    rw [← hr] at hq ⊢
    have HQ := Lib.hid hq; clear hq hr
    go_enter Tryz.func42, Tryz.ntmps42
    go_wp2_with fail
    go_loopw [5] (fun i W => ∃ j : Nat, j ≤ n ∧ i = .int .i64 (j : Int) ∧ (∀ k, k < j → a[k]? = b[k]?) ∧ Below w.heap.size w W) (fun i _ => n - (intOf i).toNat)
    case atStart => exact ⟨0, by omega, rfl, fun k hk => by omega, Below.refl _ _⟩
    case round =>
      obtain ⟨j, hj, rfl, hall, hB⟩ := hrel
      have HA := Lib.hid hall; clear hall
      by_cases hlt : j < n
      · have hlt' : (j : Int) < (n : Int) := by omega
        have hj0 : (0 : Int) ≤ (j : Int) := by omega
        have hna : a ≠ [] := by intro h; have := HN.out; rw [h] at this; simp at this; omega
        have hnb : b ≠ [] := by intro h; have := HM.out; rw [h] at this; simp at this; omega
        obtain ⟨ba, oa, rfl, hra⟩ := ha3.resolve_left hna
        obtain ⟨bb, ob, rfl, hrb⟩ := hb3.resolve_left hnb
        have hja : j < a.length := by have := HN.out; omega
        have hjb : j < b.length := by have := HM.out; omega
        have hca : w.cell? ⟨ba, oa + j, none⟩ = some (.int .u8 ((a[j].toNat : Nat) : Int)) := hra j _ (by simp [cells8, u8v, hja])
        have hcb : w.cell? ⟨bb, ob + j, none⟩ = some (.int .u8 ((b[j].toNat : Nat) : Int)) := hrb j _ (by simp [cells8, u8v, hjb])
        have HXA := Lib.hid ((hB.drew.cell (p := ⟨ba, oa + j, none⟩) (World.block_lt_of_cell? w _ hca)).trans hca)
        have HXB := Lib.hid ((hB.drew.cell (p := ⟨bb, ob + j, none⟩) (World.block_lt_of_cell? w _ hcb)).trans hcb)
        have HGA := Lib.hid (List.getElem?_eq_getElem hja)
        have HGB := Lib.hid (List.getElem?_eq_getElem hjb)
        have hxy : a[j] = b[j] ↔ a[j].toNat = b[j].toNat := by rw [UInt8.toNat_inj]
        have HXY := Lib.hid hxy
        clear hxy hca hcb
        generalize a[j] = x at *
        generalize b[j] = y at *
        clear hra hrb hja hjb ha3 hb3
        have hp9 := x.toNat_lt
        have hq9 := y.toNat_lt
        obtain ⟨p, hp⟩ : ∃ p, p = x.toNat := ⟨_, rfl⟩
        obtain ⟨q, hq⟩ : ∃ p, p = y.toNat := ⟨_, rfl⟩
        rw [← hp] at HXA HXY
        rw [← hq] at HXB HXY
        clear hp hq hp9 hq9
        go_wp2_with fail
        refine wp_region_sched (fun W => W.cell? ⟨ba, oa + j, none⟩ = some (.int .u8 (p : Int)) ∧ W.cell? ⟨bb, ob + j, none⟩ = some (.int .u8 (q : Int))) [.t 0, .t 1, .t 2, .t 4, .t 5, .t 6, .s 3, .e 7 true, .t 8] (by kernel_rfl) (by kernel_rfl) (by intro c a d v w h; cases d <;> exact h) ?_
        have HBD := Lib.hid hB.drew
        clear hB
        generalize wr.drew = V at *
        iterate 6
          refine wpS_t rfl (v := ?_) (by rfl) (fun W => ?_) ?_
          rotate_left
          · go_simp
            try rfl
          try simp only [Act.put, List.setIfInBounds_toArray, List.set_cons_zero, List.set_cons_succ]
        refine wpS_s (by exact ⟨HXA.out, HXB.out⟩) rfl (v := ?_) (by rfl) (fun W hSW => ?_) ?_
        rotate_left
        · go_simp
          try rfl
        try simp only [Act.put, List.setIfInBounds_toArray, List.set_cons_zero, List.set_cons_succ]
        have g := HXB.out
        refine wpS_k rfl (by rfl) (fun K hK => ?_)
        go_simp
        refine hK _ _ ⟨by exact ⟨HXA.out, HXB.out⟩, ?_⟩; clear hK K
        try simp only [Act.put, List.setIfInBounds_toArray, List.set_cons_zero, List.set_cons_succ]
        clear g
        by_cases hpq : p = q
        · have hxy := HXY.out.2 hpq
          have HE := Lib.hid hxy
          clear hxy
          subst hpq
          iterate 1
            refine wpS_t rfl (v := ?_) (by rfl) (fun W => ?_) ?_
            rotate_left
            · go_simp
              try rfl
            try simp only [Act.put, List.setIfInBounds_toArray, List.set_cons_zero, List.set_cons_succ]
          refine wpS_done ?_
          go_wp2_with fail
          refine ⟨⟨j + 1, by omega, by simp, fun k hk => ?_, HBD.out⟩, by simp [intOf]; omega⟩
          by_cases hkj : k < j
          · exact HA.out k hkj
          · have : k = j := by omega
            rw [this, HGA.out, HGB.out, HE.out]
        · have hxy : ¬ x = y := fun h => hpq (HXY.out.1 h)
          have hne1 : ((p : Int) != (q : Int)) = true := by rw [bne_iff_ne]; omega
          have hne2 : ((p : Int) == (q : Int)) = false := by rw [beq_eq_false_iff_ne]; omega
          have HNE := Lib.hid hxy
          clear hxy
          iterate 1
            refine wpS_t rfl (v := ?_) (by rfl) (fun W => ?_) ?_
            rotate_left
            · go_simp
              try rfl
            try simp only [Act.put, List.setIfInBounds_toArray, List.set_cons_zero, List.set_cons_succ]
          refine wpS_done ?_
          have hr : r = false := by
            rw [HQ.out]
            simp only [decide_eq_false_iff_not]
            intro h
            have := h j hlt
            rw [HGA.out, HGB.out] at this
            exact HNE.out (by simpa using this)
          go_wp2_with fail
          exact bodyPost_ret (results_tmp rfl _ _ _) rfl ⟨by rw [hr]; rfl, HBD.out⟩
      · have hjn : j = n := by omega
        subst hjn
        have hr : r = true := by rw [HQ.out]; simpa using HA.out
        go_wp2_with fail
        exact bodyPost_ret (results_tmp rfl _ _ _) rfl ⟨by rw [hr]; rfl, hB⟩
  · have hne : ((n : Int) != (m : Int)) = true := by rw [bne_iff_ne]; omega
    have hne2 : ((n : Int) == (m : Int)) = false := by rw [beq_eq_false_iff_ne]; omega
    have hab : ¬ a = b := by intro h; have h1 := HN.out; rw [h, ← HM.out] at h1; exact hnm h1
    have HNE := Lib.hid hab
    clear hab
    go_enter Tryz.func42, Tryz.ntmps42
    go_wp2_with fail
    exact bodyPost_ret (results_tmp rfl _ _ _) rfl ⟨by rw [decide_eq_false HNE.out]; rfl, Below.refl _ _⟩
end Go.Proofs.YtdkcndgehgmadaaGreatDoor
-- Walk: a copy of sums is what it was made of (LeftSums).
open Go Go.RowKit Alm
namespace Go.Proofs.YtdkcndgehgmadaaGreatDoor
theorem left_nums {n cap : Nat} (h : n < 900000) (hc : n + 1 ≤ cap) : wrap64 ((n : Int) + 1) = ((n + 1 : Nat) : Int) ∧ (n : Int) < (cap : Int) ∧ ¬ (cap : Int) ≤ (n : Int) ∧ decide ((cap : Int) ≤ (n : Int)) = false ∧ decide (cap ≤ n) = false ∧ ((n + 1 : Nat) : Int) ≤ (cap : Int) ∧ (0 : Int) ≤ (n : Int) ∧ (n : Int) < ((n + 1 : Nat) : Int) ∧ ¬ cap ≤ n ∧ n + 1 ≤ cap := by
  refine ⟨by unfold wrap64; omega, by omega, by omega, by simp; omega, by simp; omega, by omega, by omega, by omega, by omega, hc⟩
set_option maxRecDepth 100000 in
set_option maxHeartbeats 1000000 in
theorem left_sums (l : List Sum) (vt v : Value) (base : Nat) (w : World) (ht : TwinS w base vt l) (hv : SumsAt w v l) (hl : l.length < 900000) : Calls Tryz.prog 14 #[vt, v] w fun e w' => e = .returned (.bool true) ∧ Below w.heap.size w w' := by
  have hv0 := hv
  obtain ⟨va, vc, rfl, hc1, hc2, h3⟩ := hv
  have ht0 := ht
  obtain ⟨g, cap, rfl, hlie⟩ := ht
  have hcp : l.length + 1 ≤ cap ∧ w.rangeAt g 0 (cellsAll (l ++ [mkS 77])) := by
    rcases hlie with ⟨h0, _⟩ | ⟨g', cap', hv4, _, _, hnc, _, hr, _⟩
    · cases h0
    · simp only [Value.slice.injEq, Option.some.injEq, Addr.mk.injEq, and_true] at hv4
      obtain ⟨rfl, _, rfl⟩ := hv4
      rw [List.length_map, List.length_append, List.length_singleton] at hnc
      rw [flat_cells] at hr
      exact ⟨hnc, hr⟩
  obtain ⟨n, hn⟩ : ∃ n, n = l.length := ⟨_, rfl⟩
  rw [← hn] at hc1 hv0 hl hcp ⊢
  obtain ⟨k1, k2, k3, k4, k5, k6, k7, k8, k9, k10⟩ := left_nums hl hcp.1
  obtain ⟨n1, hn1⟩ : ∃ m, m = n + 1 := ⟨_, rfl⟩
  rw [← hn1] at k1 k6 k8 k10
  have HV := Lib.hid (And.intro hv0 (And.intro hn (And.intro hc1 (And.intro hc2 (And.intro hl (And.intro hn1 hcp.2))))))
  clear hv0 hn hc1 hc2 hl hn1 hcp hlie ht0 h3
  have hes := eq_sums_same
  go_enter Tryz.func14, Tryz.ntmps14
  go_wp2_with fail
  go_loopw [5] (fun iv W => ∃ i : Nat, i ≤ n ∧ iv = .int .i64 (i : Int) ∧ Below w.heap.size w W) (fun iv _ => n - (intOf iv).toNat)
  case atStart => exact ⟨0, Nat.zero_le _, rfl, Below.refl _ _⟩
  case round =>
    obtain ⟨i, hi, rfl, hB⟩ := hrel
    by_cases hlt : i < n
    · obtain ⟨d1, d2, d3, d4⟩ := dec_lt hlt
      have hil : i < l.length := by rw [← HV.out.2.1]; exact hlt
      have hne : l ≠ [] := by intro h; rw [h] at hil; simp at hil
      obtain ⟨b, o, cap', hvf, _, _, hr⟩ := sums_form8 HV.out.1 hne
      simp only [Value.slice.injEq] at hvf
      obtain ⟨rfl, -, rfl⟩ := hvf
      have hx := range_below hB (range_at hr hil) (range_lt (range_at hr hil) (by intro h; have := length_cellsOf l[i]; rw [h] at this; cases this))
      have hr2 := range_at HV.out.2.2.2.2.2.2 (i := i) (by rw [List.length_append, List.length_singleton]; omega)
      rw [List.getElem_append_left hil, Nat.zero_add] at hr2
      have hx2 := range_below hB hr2 (range_lt hr2 (by intro h; have := length_cellsOf l[i]; rw [h] at this; cases this))
      have hd := (Below.refl wr.heap.size wr).drew
      generalize l[i] = s at *
      have HX := Lib.hid (And.intro ((Keeps.of_below (X := fun _ => False) hd).range hx (fun h => h)) (And.intro ((Keeps.of_below (X := fun _ => False) hd).range hx2 (fun h => h)) hB.drew))
      clear hx hx2 hr hr2 hne hil hd hB
      go_wp2_with fail
      refine wp_region_sched (fun V => V = wr.drew) [.t 0, .t 1, .t 2, .t 4, .t 5, .t 6, .s 3, .s 7, .t 8] (by kernel_rfl) (by kernel_rfl) (by intro c a d v w h; cases d <;> exact h) ?_
      generalize wr.drew = V at *
      iterate 6
        refine wpS_t rfl (v := ?_) (by rfl) (fun W => ?_) ?_
        rotate_left
        · go_simp
          try rfl
        try simp only [Act.put, List.setIfInBounds_toArray, List.set_cons_zero, List.set_cons_succ]
      refine wpS_load_mid rfl rfl (by rfl) _ _ rfl g (i * 32) (by rfl) (cellsOf s) _ (fun W hW => by rw [hW]; exact HX.out.2.1) Tryz.underlying24 rfl (by rw [length_cellsOf]; exact infoSum) ?_
      try simp only [Act.put, List.setIfInBounds_toArray, List.set_cons_zero, List.set_cons_succ]
      refine wpS_load_mid rfl rfl (by rfl) _ _ rfl b (o + i * 32) (by rfl) (cellsOf s) _ (fun W hW => by rw [hW]; exact HX.out.1) Tryz.underlying24 rfl (by rw [length_cellsOf]; exact infoSum) ?_
      try simp only [Act.put, List.setIfInBounds_toArray, List.set_cons_zero, List.set_cons_succ]
      iterate 1
        refine wpS_t rfl (v := ?_) (by rfl) (fun W => ?_) ?_
        rotate_left
        · go_simp
          try rfl
        try simp only [Act.put, List.setIfInBounds_toArray, List.set_cons_zero, List.set_cons_succ]
      refine wpS_done ?_
      go_wp2_with fail
      have hwi := wrapn (k := i) (by have := HV.out; omega)
      try rw [hwi]
      have h9 := HX.out.2.2
      clear hwi HX HV hes k1 k2 k3 k4 k5 k6 k7 k8 k9 k10 d1 d2 d3 d4
      refine ⟨⟨i + 1, hlt, rfl, h9⟩, ?_⟩
      clear h9
      simp only [intOf, Int.toNat_natCast]
      omega
    · obtain rfl : i = n := by omega
      have hr2 := range_at HV.out.2.2.2.2.2.2 (i := i) (by rw [List.length_append, List.length_singleton, ← HV.out.2.1]; omega)
      rw [List.getElem_append_right (by rw [← HV.out.2.1]; omega), Nat.zero_add] at hr2
      simp only [List.getElem_singleton] at hr2
      have hx2 := range_below hB hr2 (range_lt hr2 (by intro h; have := length_cellsOf (mkS 77); rw [h] at this; cases this))
      have HX := Lib.hid (And.intro hx2 hB)
      clear hx2 hr2 hB
      go_wp2_with (first
        | (refine wpList_load_sum rfl _ rfl g (i * 32) rfl (mkS 77) HX.out.1 ?_)
        | (refine wpList_var_sum (by rfl) rfl _ _ rfl (mkS 77) rfl rfl ?_; refine Hid.out ?_))
      refine Lib.hid ?_
      intro W2 hb hr2 ht2 hlt2
      have H2 := Lib.hid (And.intro hr2 (HX.out.2.trans (hb.mono HX.out.2.size)))
      clear hb hr2 ht2 hlt2
      go_wp2_with (first
        | (refine wpList_load_sum rfl _ rfl wr.heap.size 0 rfl (mkS 77) H2.out.1 ?_)
        | (refine wpList_build_77 rfl rfl ?_))
      exact bodyPost_ret (results_tmp rfl _ _ _) rfl ⟨rfl, H2.out.2⟩
end Go.Proofs.YtdkcndgehgmadaaGreatDoor
-- Walk: a copy of bytes is what it was made of (LeftBytes).
open Go Go.RowKit Alm
namespace Go.Proofs.YtdkcndgehgmadaaGreatDoor
set_option maxRecDepth 100000 in
set_option maxHeartbeats 1000000 in
theorem left_bytes (l : List UInt8) (vt v : Value) (base : Nat) (w : World) (ht : TwinB w base vt l) (hv : BytesAt w v l) (hl : l.length < 900000) : Calls Tryz.prog 32 #[vt, v] w fun e w' => e = .returned (.bool true) ∧ Below w.heap.size w w' := by
  have hv0 := hv
  obtain ⟨va, vc, rfl, hc1, hc2, h3⟩ := hv
  have ht0 := ht
  obtain ⟨g, cap, rfl, hlie⟩ := ht
  have hcp : l.length + 1 ≤ cap ∧ w.rangeAt g 0 (cells8 (l ++ [77])) := by
    rcases hlie with ⟨h0, _⟩ | ⟨g', cap', hv4, _, _, hnc, _, hr, _⟩
    · cases h0
    · simp only [Value.slice.injEq, Option.some.injEq, Addr.mk.injEq, and_true] at hv4
      obtain ⟨rfl, _, rfl⟩ := hv4
      rw [ones_len, List.length_append, List.length_singleton] at hnc
      rw [ones_flat] at hr
      exact ⟨hnc, hr⟩
  obtain ⟨n, hn⟩ : ∃ n, n = l.length := ⟨_, rfl⟩
  rw [← hn] at hc1 hv0 hl hcp ⊢
  obtain ⟨k1, k2, k3, k4, k5, k6, k7, k8, k9, k10⟩ := left_nums hl hcp.1
  obtain ⟨n1, hn1⟩ : ∃ m, m = n + 1 := ⟨_, rfl⟩
  rw [← hn1] at k1 k6 k8 k10
  have HV := Lib.hid (And.intro hv0 (And.intro hn (And.intro hc1 (And.intro hc2 (And.intro hl (And.intro hn1 hcp.2))))))
  clear hv0 hn hc1 hc2 hl hn1 hcp hlie ht0 h3
  go_enter Tryz.func32, Tryz.ntmps32
  go_wp2_with fail
  go_loopw [5] (fun iv W => ∃ i : Nat, i ≤ n ∧ iv = .int .i64 (i : Int) ∧ Below w.heap.size w W) (fun iv _ => n - (intOf iv).toNat)
  case atStart => exact ⟨0, Nat.zero_le _, rfl, Below.refl _ _⟩
  case round =>
    obtain ⟨i, hi, rfl, hB⟩ := hrel
    by_cases hlt : i < n
    · obtain ⟨d1, d2, d3, d4⟩ := dec_lt hlt
      have hil : i < l.length := by rw [← HV.out.2.1]; exact hlt
      have hne : l ≠ [] := by intro h; rw [h] at hil; simp at hil
      obtain ⟨b, o, cap', hvf, _, _, hr⟩ := bytes_form8 HV.out.1 hne
      simp only [Value.slice.injEq] at hvf
      obtain ⟨rfl, -, rfl⟩ := hvf
      have hx := bcl hB (range_at8 hr hil)
      have hr2 := range_at8 HV.out.2.2.2.2.2.2 (i := i) (by rw [List.length_append, List.length_singleton]; omega)
      rw [List.getElem_append_left hil, Nat.zero_add] at hr2
      have hx2 := bcl hB hr2
      have hd := (Below.refl wr.heap.size wr).drew
      generalize l[i] = s at *
      have HX := Lib.hid (And.intro (bcl hd hx) (And.intro (bcl hd hx2) hB.drew))
      clear hx hx2 hr hr2 hne hil hd hB
      go_wp2_with fail
      refine wp_region_sched (fun V => V.cell? ⟨g, i, none⟩ = some (.int .u8 ((s.toNat : Nat) : Int)) ∧ V.cell? ⟨b, o + i, none⟩ = some (.int .u8 ((s.toNat : Nat) : Int))) [.t 0, .t 1, .t 2, .t 4, .t 5, .t 6, .s 3, .s 7, .t 8] (by kernel_rfl) (by kernel_rfl) (by intro c a d v w h; cases d <;> exact h) ?_
      generalize wr.drew = V at *
      iterate 6
        refine wpS_t rfl (v := ?_) (by rfl) (fun W => ?_) ?_
        rotate_left
        · go_simp
          try rfl
        try simp only [Act.put, List.setIfInBounds_toArray, List.set_cons_zero, List.set_cons_succ]
      refine wpS_s (by exact And.intro HX.out.2.1 HX.out.1) rfl (v := ?_) (by rfl) (fun W hSW => ?_) ?_
      rotate_left
      · go_simp
        try rfl
      try simp only [Act.put, List.setIfInBounds_toArray, List.set_cons_zero, List.set_cons_succ]
      refine wpS_s (by exact And.intro HX.out.2.1 HX.out.1) rfl (v := ?_) (by rfl) (fun W hSW => ?_) ?_
      rotate_left
      · go_simp
        try rfl
      try simp only [Act.put, List.setIfInBounds_toArray, List.set_cons_zero, List.set_cons_succ]
      iterate 1
        refine wpS_t rfl (v := ?_) (by rfl) (fun W => ?_) ?_
        rotate_left
        · go_simp
          try rfl
        try simp only [Act.put, List.setIfInBounds_toArray, List.set_cons_zero, List.set_cons_succ]
      refine wpS_done ?_
      go_wp2_with fail
      have hwi := wrapn (k := i) (by have := HV.out; omega)
      try rw [hwi]
      have h9 := HX.out.2.2
      clear hwi HX HV k1 k2 k3 k4 k5 k6 k7 k8 k9 k10 d1 d2 d3 d4
      refine ⟨⟨i + 1, hlt, rfl, h9⟩, ?_⟩
      clear h9
      simp only [intOf, Int.toNat_natCast]
      omega
    · obtain rfl : i = n := by omega
      have hr2 := range_at8 HV.out.2.2.2.2.2.2 (i := i) (by rw [List.length_append, List.length_singleton, ← HV.out.2.1]; omega)
      rw [List.getElem_append_right (by rw [← HV.out.2.1]; omega), Nat.zero_add] at hr2
      simp only [List.getElem_singleton] at hr2
      have hx2 := bcl hB hr2
      have HX := Lib.hid hB
      clear hr2 hB
      have hx3 : wr.cell? ⟨g, i, none⟩ = some (.int .u8 77) := hx2
      clear hx2
      go_wp2_with fail
      exact bodyPost_ret (results_tmp rfl _ _ _) rfl ⟨rfl, HX.out⟩
end Go.Proofs.YtdkcndgehgmadaaGreatDoor
