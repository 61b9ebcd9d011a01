/-
  Joined: Args9, SA16.
-/
import Derived.Test.YtfmgoehnbaiamaaGreatDoorZBW
import Derived.Test.YtfmgoehnbaiamaaGreatDoorZBE
import Derived.Test.YtfmgoehnbaiamaaGreatDoorS7
import Derived.SizedLaws
-- Arguments of a law, opened: pairs.
open Go Go.RowKit Go.ChangeShapes Go.WideShapes Go.ChangeAt Alm
namespace Go.Proofs.YtfmgoehnbaiamaaGreatDoor
theorem rangeP_all {w : World} {b : Nat} : ∀ (l : List PE) (o : Nat), (∀ (i : Nat) (h : i < l.length), w.rangeAt b (o + i * 33) (encP l[i])) → w.rangeAt b o (cellsP l)
  | [], o, _ => fun j v hv => by simp [cellsP] at hv
  | x :: l, o, h => by
    show w.rangeAt b o (encP x ++ cellsP l)
    refine range_append.2 ⟨by have := h 0 (by simp); simpa using this, ?_⟩
    rw [length_encP]
    refine rangeP_all l (o + 33) fun i hi => ?_
    have := h (i + 1) (by simp; omega)
    rw [show o + (i + 1) * 33 = o + 33 + i * 33 by omega] at this
    simpa using this
section
variable {H : Type} {enc : TypeId × Value → H} {P : Program} {w : World} {base : Nat} {spare : Nat → Bool} {held : Bool}
theorem trod_two {t : TypeId} {f0 f1 : Field} {fuel : Nat} {cs : List Value} {x : DataW H × List MemPlace} (ht : P.underlying t = some (.struct #[f0, f1])) (h : DataW.trod enc P w base spare held fuel t cs = some x) :
    ∃ y0 y1 n, cs.length = P.cellsOf t ∧ DataW.trod enc P w base spare held n f0.type ((cs.drop f0.offset).take (P.cellsOf f0.type)) = some y0 ∧
      DataW.trod enc P w base spare held n f1.type ((cs.drop f1.offset).take (P.cellsOf f1.type)) = some y1 := by
  obtain ⟨xs, n, _, rfl, hl, hlen, hf⟩ := DataW.trod_struct ht h
  match xs, hlen with
  | [y0, y1], _ => exact ⟨y0, y1, n, hl, by simpa using hf 0 f0 rfl, by simpa using hf 1 f1 rfl⟩
end
section
variable {H : Type} {enc : TypeId × Value → H} {W : World} {base : Nat} {spare : Nat → Bool} {held : Bool} {r : Reach} {b2 : Nat}
theorem cells_bytes9 : Tryz.prog.cellsOf 39 = 1 := by kernel_rfl
theorem cells_pair9 : Tryz.prog.cellsOf 41 = 33 := by kernel_rfl
/-- A pair among the cells. -/
theorem open_pair {fuel : Nat} {cs : List Value} {x : DataW H × List MemPlace} (h : DataW.trod enc Tryz.prog W base spare held fuel 41 cs = some x) : ∃ (y : PE) (l : List UInt8), cs = encP y ∧ BytesAt W (peV y) l := by
  obtain ⟨y0, y1, n', hl, h0, h1⟩ := trod_two Tryz.underlying41 h
  obtain ⟨s, e0⟩ := open_sum Tryz.underlying24 Tryz.underlying5 cells_byte cells_sum h0
  obtain ⟨v, l, e1, hb⟩ := open_u8s (w := W) Tryz.underlying39 Tryz.underlying5 cells_byte h1
  have hb2 := hb
  obtain ⟨a, cap, rfl, _, _, _⟩ := hb2
  rw [cells_pair9] at hl
  rw [cells_bytes9] at e1
  rw [cells_sum] at e0
  refine ⟨(s, a, l.length, cap), l, ?_, hb⟩
  have k1 : (cs.drop 32).take 1 = cs.drop 32 := List.take_of_length_le (by rw [List.length_drop, hl]; decide)
  have k2 := List.take_append_drop 32 cs
  have e0' : cs.take 32 = cellsOf s := e0
  have e1' : cs.drop 32 = [Value.slice a l.length cap] := by rw [← k1]; exact e1
  rw [← k2, e0', e1']
  rfl
set_option maxRecDepth 100000 in
theorem arg_pairs {fuel : Nat} {v : Value} {x : DataW H × List MemPlace} (h : DataW.trod enc Tryz.prog W base spare held fuel 22 v.cells.toList = some x) (hok : Value.okWide Tryz.prog W r b2 22 v) : ∃ l, PairsAt W v l := by
  obtain ⟨a0, n0, c0, rfl⟩ := okWide_slice Tryz.underlying22 hok
  rcases Deep.open_slice Tryz.underlying22 h with ⟨h1, _⟩ | ⟨a, len, cap, m, n, D, Pl, h1, hb, hl, hm, hmm, _, hel⟩
  · simp only [Value.cells, List.cons.injEq, and_true] at h1
    rw [h1]
    exact ⟨[], none, 0, [], rfl, Nat.le_refl _, by unfold maxLen; omega, rfl, by simp, .inl rfl⟩
  · simp only [Value.cells, List.cons.injEq, and_true] at h1
    rw [h1]
    have hlm : len ≤ m := by rw [hmm]; split <;> omega
    have one : ∀ i, i < len → ∃ s : PE × List UInt8, (a.add (i * 33)).spot = none ∧ W.rangeAt (a.add (i * 33)).block (a.add (i * 33)).off (encP s.1) ∧ BytesAt W (peV s.1) s.2 := fun i hi => by
      obtain ⟨cs', h1, h2⟩ := hel i (by omega)
      rw [cells_pair9] at h1
      obtain ⟨y, l, rfl, hb⟩ := open_pair h2
      obtain ⟨h3, _, h4⟩ := range_of_cells h1 (by omega)
      exact ⟨(y, l), h3, h4, hb⟩
    obtain ⟨f, hf⟩ := Deep.choose_lt one
    refine ⟨((List.range len).map f).map (fun c => (c.1.1, c.2)), some a, cap, (List.range len).map f, by simp, by simpa using hl, hm, rfl, fun c hc => ?_, ?_⟩
    · obtain ⟨i, hi, rfl⟩ := List.mem_map.1 hc
      exact (hf i (List.mem_range.1 hi)).2.2
    · by_cases h0 : len = 0
      · subst h0; exact .inl rfl
      · right
        have hsp : a.spot = none := by
          have := (hf 0 (by omega)).1
          simpa [Addr.add] using this
        refine ⟨a.block, a.off, by cases a; simp_all, rangeP_all _ _ fun i hi => ?_⟩
        rw [List.length_map, List.length_map, List.length_range] at hi
        have := (hf i hi).2.1
        have e : a.add (i * 33) = ⟨a.block, a.off + i * 33, none⟩ := by
          unfold Addr.add
          split
          · rename_i h0; have : i = 0 := by omega
            subst this; cases a; simp_all
          · rfl
        rw [e] at this
        simpa using this
end
end Go.Proofs.YtfmgoehnbaiamaaGreatDoor
-- Arguments of a law, opened, with what the form's own reach says of their lengths: what is said of a map and a show.
namespace Go.Proofs.YtfmgoehnbaiamaaGreatDoor
section
variable {H : Type} {enc : TypeId × Value → H} {P : Program} {w : World} {base : Nat} {spare : Nat → Bool} {held : Bool}
theorem open_u8z {t e : TypeId} {fuel : Nat} {cs : List Value} {x : DataW H × List MemPlace} (ht : P.underlying t = some (.slice e)) (he : P.underlying e = some (.int .u8)) (hce : P.cellsOf e = 1) (hbe : P.bytesOf e = 1)
    (h : DataW.trod enc P w base spare held fuel t cs = some x) : ∃ v l, cs = [v] ∧ BytesAt w v l ∧ ∀ R, (∀ k ∈ x.1.weights P t, k ≤ R) → l.length ≤ R := by
  obtain ⟨v, l, hv, hb⟩ := open_u8s ht he hce h
  refine ⟨v, l, hv, hb, fun R hR => ?_⟩
  obtain ⟨a', cap', rfl, _, _, _⟩ := hb
  rcases Deep.open_slice ht h with ⟨h1, _⟩ | ⟨a, len, cap, m, n, D, Pl, h1, _, _, _, _, hx, _⟩
  · rw [hv] at h1
    simp only [List.cons.injEq, Value.slice.injEq, and_true] at h1
    omega
  · rw [hv] at h1
    simp only [List.cons.injEq, Value.slice.injEq, and_true] at h1
    rw [hx] at hR
    have := hR (len + (m - len)) (by simp [DataW.weights, ht, hbe])
    omega
theorem open_sumsz {t e u : TypeId} {fuel : Nat} {cs : List Value} {x : DataW H × List MemPlace} (ht : P.underlying t = some (.slice e)) (he : P.underlying e = some (.array 32 u)) (hu : P.underlying u = some (.int .u8)) (hcu : P.cellsOf u = 1) (hce : P.cellsOf e = 32) (hbe : 1 ≤ P.bytesOf e)
    (h : DataW.trod enc P w base spare held fuel t cs = some x) : ∃ v l, cs = [v] ∧ SumsAt w v l ∧ ∀ R, (∀ k ∈ x.1.weights P t, k ≤ R) → l.length ≤ R := by
  obtain ⟨v, l, hv, hb, _⟩ := open_sums ht he hu hcu hce h
  refine ⟨v, l, hv, hb, fun R hR => ?_⟩
  obtain ⟨a', cap', rfl, _, _, _⟩ := hb
  rcases Deep.open_slice ht h with ⟨h1, _⟩ | ⟨a, len, cap, m, n, D, Pl, h1, _, _, _, _, hx, _⟩
  · rw [hv] at h1
    simp only [List.cons.injEq, Value.slice.injEq, and_true] at h1
    omega
  · rw [hv] at h1
    simp only [List.cons.injEq, Value.slice.injEq, and_true] at h1
    rw [hx] at hR
    have h2 := hR ((len + (m - len)) * P.bytesOf e) (by simp [DataW.weights, ht])
    have h3 : (len + (m - len)) * 1 ≤ (len + (m - len)) * P.bytesOf e := Nat.mul_le_mul_left _ hbe
    omega
theorem trod_two_x {t : TypeId} {f0 f1 : Field} {fuel : Nat} {cs : List Value} {x : DataW H × List MemPlace} (ht : P.underlying t = some (.struct #[f0, f1])) (h : DataW.trod enc P w base spare held fuel t cs = some x) :
    ∃ y0 y1 n, cs.length = P.cellsOf t ∧ x.1 = .agg [y0.1, y1.1] ∧ DataW.trod enc P w base spare held n f0.type ((cs.drop f0.offset).take (P.cellsOf f0.type)) = some y0 ∧
      DataW.trod enc P w base spare held n f1.type ((cs.drop f1.offset).take (P.cellsOf f1.type)) = some y1 := by
  obtain ⟨xs, n, _, rfl, hl, hlen, hf⟩ := DataW.trod_struct ht h
  match xs, hlen with
  | [y0, y1], _ => exact ⟨y0, y1, n, hl, rfl, by simpa using hf 0 f0 rfl, by simpa using hf 1 f1 rfl⟩
theorem trod_struct4x {t : TypeId} {f0 f1 f2 f3 : Field} {fuel : Nat} {cs : List Value} {x : DataW H × List MemPlace} (ht : P.underlying t = some (.struct #[f0, f1, f2, f3])) (h : DataW.trod enc P w base spare held fuel t cs = some x) :
    ∃ y0 y1 y2 y3 n, cs.length = P.cellsOf t ∧ DataW.trod enc P w base spare held n f0.type ((cs.drop f0.offset).take (P.cellsOf f0.type)) = some y0 ∧
      DataW.trod enc P w base spare held n f1.type ((cs.drop f1.offset).take (P.cellsOf f1.type)) = some y1 ∧ DataW.trod enc P w base spare held n f2.type ((cs.drop f2.offset).take (P.cellsOf f2.type)) = some y2 ∧
      DataW.trod enc P w base spare held n f3.type ((cs.drop f3.offset).take (P.cellsOf f3.type)) = some y3 := by
  obtain ⟨xs, n, _, rfl, hl, hlen, hf⟩ := DataW.trod_struct ht h
  match xs, hlen with
  | [y0, y1, y2, y3], _ => exact ⟨y0, y1, y2, y3, n, hl, by simpa using hf 0 f0 rfl, by simpa using hf 1 f1 rfl, by simpa using hf 2 f2 rfl, by simpa using hf 3 f3 rfl⟩
end
section
variable {H : Type} {enc : TypeId × Value → H} {W : World} {base : Nat} {spare : Nat → Bool} {held : Bool} {r : Reach} {b2 : Nat}
theorem bytes_byte : Tryz.prog.bytesOf 5 = 1 := by kernel_rfl
theorem bytes_sum : 1 ≤ Tryz.prog.bytesOf 24 := by
  have : Tryz.prog.bytesOf 24 = 32 := by kernel_rfl
  omega
theorem cells_show11 : Tryz.prog.cellsOf 63 = 33 := by kernel_rfl
theorem cells_said16 : Tryz.prog.cellsOf 65 = 98 := by kernel_rfl
/-- A show among the cells. -/
theorem open_show {fuel : Nat} {cs : List Value} {x : DataW H × List MemPlace} (h : DataW.trod enc Tryz.prog W base spare held fuel 63 cs = some x) :
    ∃ (w : Sum) (s : Value) (S : List Sum), cs = cellsShow w s ∧ SumsAt W s S ∧ ∀ R, (∀ k ∈ x.1.weights Tryz.prog 63, k ≤ R) → S.length ≤ R := by
  obtain ⟨y0, y1, n', hl, hx, h0, h1⟩ := trod_two_x Tryz.underlying63 h
  obtain ⟨w, e0⟩ := open_sum Tryz.underlying24 Tryz.underlying5 cells_byte cells_sum h0
  obtain ⟨s, S, e1, hS, wS⟩ := open_sumsz Tryz.underlying61 Tryz.underlying24 Tryz.underlying5 cells_byte cells_sum bytes_sum h1
  rw [cells_show11] at hl
  rw [cells_sums] at e1
  rw [cells_sum] at e0
  refine ⟨w, s, S, ?_, hS, fun R hR => ?_⟩
  · have k1 : (cs.drop 32).take 1 = cs.drop 32 := List.take_of_length_le (by rw [List.length_drop, hl]; decide)
    have k2 := List.take_append_drop 32 cs
    have e0' : cs.take 32 = cellsOf w := e0
    have e1' : cs.drop 32 = [s] := by rw [← k1]; exact e1
    rw [← k2, e0', e1']
    rfl
  · rw [hx] at hR
    simp only [DataW.weights, Tryz.underlying63, DataW.weightsEach, List.map_cons, List.map_nil, List.mem_append, List.append_nil] at hR
    exact wS R fun k hk => hR k (.inr hk)
/-- What is said, as a value. -/
def cells16 (root k : Sum) (v : Value) (w : Sum) (s : Value) : List Value := cellsOf root ++ (cellsOf k ++ ([v] ++ cellsShow w s))
abbrev said16 (root k : Sum) (v : Value) (w : Sum) (s : Value) : Value := .agg (cells16 root k v w s).toArray
set_option maxRecDepth 100000 in
theorem arg_said16 {fuel : Nat} {v : Value} {x : DataW H × List MemPlace} (h : DataW.trod enc Tryz.prog W base spare held fuel 65 v.cells.toList = some x) (hok : Value.okWide Tryz.prog W r b2 65 v) :
    ∃ root k v1 w1 s1 A S, v = said16 root k v1 w1 s1 ∧ BytesAt W v1 A ∧ SumsAt W s1 S := by
  obtain ⟨xs, rfl, hsz⟩ := okWide_struct Tryz.underlying65 hok
  obtain ⟨y0, y1, y2, y3, n', hl, h0, h1, h2, h3⟩ := trod_struct4x Tryz.underlying65 h
  simp only [Value.cells] at h0 h1 h2 h3 hl
  obtain ⟨root, e0⟩ := open_sum Tryz.underlying24 Tryz.underlying5 cells_byte cells_sum h0
  obtain ⟨k, e1⟩ := open_sum Tryz.underlying24 Tryz.underlying5 cells_byte cells_sum h1
  obtain ⟨v1, A, e2, hA, wA⟩ := open_u8z Tryz.underlying39 Tryz.underlying5 cells_byte bytes_byte h2
  obtain ⟨w1, s1, S, e3, hS, wS⟩ := open_show h3
  rw [cells_sum] at e0 e1
  rw [cells_bytes9] at e2
  rw [cells_show11] at e3
  rw [cells_said16] at hl
  refine ⟨root, k, v1, w1, s1, A, S, ?_, hA, hS⟩
  have hx : xs.toList = cells16 root k v1 w1 s1 := by
    have key : xs.toList = (xs.toList.drop 0).take 32 ++ ((xs.toList.drop 32).take 32 ++ ((xs.toList.drop 64).take 1 ++ (xs.toList.drop 65).take 33)) := by
      have t3 : (xs.toList.drop 65).take 33 = xs.toList.drop 65 := List.take_of_length_le (by rw [List.length_drop, hl]; decide)
      have q2 := List.take_append_drop 1 (xs.toList.drop 64)
      have q1 := List.take_append_drop 32 (xs.toList.drop 32)
      have q0 := List.take_append_drop 32 (xs.toList.drop 0)
      rw [List.drop_drop] at q0 q1 q2
      rw [t3, q2, q1, q0]; rfl
    rw [key]
    exact (congr (congrArg _ e0) (congr (congrArg _ e1) (congr (congrArg _ e2) e3))).trans rfl
  rw [said16, ← hx]
end
end Go.Proofs.YtfmgoehnbaiamaaGreatDoor
