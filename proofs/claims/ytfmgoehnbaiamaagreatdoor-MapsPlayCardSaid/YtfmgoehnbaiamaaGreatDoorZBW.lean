/-
  Joined: Args2, Args3, Args9, AP.
-/
import Derived.Test.YtfmgoehnbaiamaaGreatDoorZAC
import Derived.Deep.Strs
import Derived.Test.YtfmgoehnbaiamaaGreatDoorZAJ
import Derived.Test.YtfmgoehnbaiamaaGreatDoorZAV
import Derived.SizedLaws
-- Arguments of a law, opened: 64-bit integers, bytes, structs.
open Go Go.RowKit Go.ChangeShapes Go.WideShapes Go.ChangeAt Alm
namespace Go.Proofs.YtfmgoehnbaiamaaGreatDoor
section
variable {H : Type} {enc : TypeId × Value → H} {P : Program} {w : World} {base : Nat} {spare : Nat → Bool} {held : Bool}
end
section
variable {H : Type} {enc : TypeId × Value → H} {W : World} {base : Nat} {spare : Nat → Bool} {held : Bool} {r : Reach} {b2 : Nat}
end
end Go.Proofs.YtfmgoehnbaiamaaGreatDoor
-- Arguments of a law, opened: bytes.
namespace Go.Proofs.YtfmgoehnbaiamaaGreatDoor
section
variable {H : Type} {enc : TypeId × Value → H} {P : Program} {w : World} {base : Nat} {spare : Nat → Bool} {held : Bool}
/-- A list of bytes among the arguments. -/
theorem open_u8s {t e : TypeId} {fuel : Nat} {cs : List Value} {x : DataW H × List MemPlace} (ht : P.underlying t = some (.slice e)) (he : P.underlying e = some (.int .u8)) (hce : P.cellsOf e = 1)
    (h : DataW.trod enc P w base spare held fuel t cs = some x) : ∃ v l, cs = [v] ∧ BytesAt w v l := by
  rcases Deep.open_slice ht h with ⟨rfl, _⟩ | ⟨a, len, cap, m, n, D, Pl, rfl, hb, hl, hm, hmm, _, hel⟩
  · exact ⟨_, [], rfl, ⟨none, 0, rfl, Nat.le_refl _, by unfold maxLen; omega, .inl rfl⟩⟩
  · have hlm : len ≤ m := by rw [hmm]; split <;> omega
    have one : ∀ i, i < len → ∃ s : UInt8, (a.add i).spot = none ∧ w.rangeAt (a.add i).block (a.add i).off [u8v s] := fun i hi => by
      obtain ⟨cs', h1, h2⟩ := hel i (by omega)
      rw [hce, Nat.mul_one] at h1
      obtain ⟨z, hz, _, hw⟩ := DataW.trod_int he h2
      have hb : 0 ≤ z ∧ z ≤ 255 := by simpa [Lit.wf, IntKind.min, IntKind.max, IntKind.signed, IntKind.bits] using hw
      subst hz
      obtain ⟨h3, _, h4⟩ := range_of_cells h1 (by omega)
      refine ⟨UInt8.ofNat z.toNat, h3, ?_⟩
      have : u8v (UInt8.ofNat z.toNat) = .int .u8 z := by
        unfold u8v
        have : (UInt8.ofNat z.toNat).toNat = z.toNat := by
          rw [UInt8.toNat_ofNat']; omega
        rw [this]
        congr 1; omega
      rw [this]; exact h4
    obtain ⟨f, hf⟩ := Deep.choose_lt one
    refine ⟨_, (List.range len).map f, rfl, ⟨some a, cap, by simp, by simpa using hl, hm, ?_⟩⟩
    by_cases h0 : len = 0
    · subst h0; exact .inl rfl
    · right
      have hsp : a.spot = none := by
        have := (hf 0 (by omega)).1
        simpa [Addr.add] using this
      refine ⟨a.block, a.off, by cases a; simp_all, fun j v hv => ?_⟩
      have hj : j < len := by
        have := (List.getElem?_eq_some_iff.1 hv).1
        simpa [cells8] using this
      have h1 := (hf j hj).2 0 _ rfl
      have e : a.add j = ⟨a.block, a.off + j, none⟩ := by
        unfold Addr.add
        split
        · rename_i h0; subst h0; cases a; simp_all
        · rfl
      rw [e] at h1
      have e2 : v = u8v (f j) := by
        unfold cells8 at hv
        simp [hj] at hv
        exact hv.symm
      rw [e2]
      simpa using h1
end
section
variable {H : Type} {enc : TypeId × Value → H} {W : World} {base : Nat} {spare : Nat → Bool} {held : Bool} {r : Reach} {b2 : Nat}
end
end Go.Proofs.YtfmgoehnbaiamaaGreatDoor
-- Arguments of a law, opened: pairs.
namespace Go.Proofs.YtfmgoehnbaiamaaGreatDoor
theorem rangeP_all {w : World} {b : Nat} : ∀ (l : List PE) (o : Nat), (∀ (i : Nat) (h : i < l.length), w.rangeAt b (o + i * 33) (encP l[i])) → w.rangeAt b o (cellsP l)
  | [], o, _ => fun j v hv => by simp [cellsP] at hv
  | x :: l, o, h => by
    show w.rangeAt b o (encP x ++ cellsP l)
    refine range_append.2 ⟨by have := h 0 (by simp); simpa using this, ?_⟩
    rw [length_encP]
    refine rangeP_all l (o + 33) fun i hi => ?_
    have := h (i + 1) (by simp; omega)
    rw [show o + (i + 1) * 33 = o + 33 + i * 33 by omega] at this
    simpa using this
section
variable {H : Type} {enc : TypeId × Value → H} {P : Program} {w : World} {base : Nat} {spare : Nat → Bool} {held : Bool}
end
section
variable {H : Type} {enc : TypeId × Value → H} {W : World} {base : Nat} {spare : Nat → Bool} {held : Bool} {r : Reach} {b2 : Nat}
theorem cells_bytes9 : Tryz.prog.cellsOf 39 = 1 := by kernel_rfl
theorem cells_pair9 : Tryz.prog.cellsOf 41 = 33 := by kernel_rfl
end
end Go.Proofs.YtfmgoehnbaiamaaGreatDoor
-- Arguments of a law, opened, with what the form's own reach says of their lengths: pairs.
namespace Go.Proofs.YtfmgoehnbaiamaaGreatDoor
section
variable {H : Type} {enc : TypeId × Value → H} {P : Program} {w : World} {base : Nat} {spare : Nat → Bool} {held : Bool}
theorem open_u8z {t e : TypeId} {fuel : Nat} {cs : List Value} {x : DataW H × List MemPlace} (ht : P.underlying t = some (.slice e)) (he : P.underlying e = some (.int .u8)) (hce : P.cellsOf e = 1) (hbe : P.bytesOf e = 1)
    (h : DataW.trod enc P w base spare held fuel t cs = some x) : ∃ v l, cs = [v] ∧ BytesAt w v l ∧ ∀ R, (∀ k ∈ x.1.weights P t, k ≤ R) → l.length ≤ R := by
  obtain ⟨v, l, hv, hb⟩ := open_u8s ht he hce h
  refine ⟨v, l, hv, hb, fun R hR => ?_⟩
  obtain ⟨a', cap', rfl, _, _, _⟩ := hb
  rcases Deep.open_slice ht h with ⟨h1, _⟩ | ⟨a, len, cap, m, n, D, Pl, h1, _, _, _, _, hx, _⟩
  · rw [hv] at h1
    simp only [List.cons.injEq, Value.slice.injEq, and_true] at h1
    omega
  · rw [hv] at h1
    simp only [List.cons.injEq, Value.slice.injEq, and_true] at h1
    rw [hx] at hR
    have := hR (len + (m - len)) (by simp [DataW.weights, ht, hbe])
    omega
theorem trod_two_x {t : TypeId} {f0 f1 : Field} {fuel : Nat} {cs : List Value} {x : DataW H × List MemPlace} (ht : P.underlying t = some (.struct #[f0, f1])) (h : DataW.trod enc P w base spare held fuel t cs = some x) :
    ∃ y0 y1 n, cs.length = P.cellsOf t ∧ x.1 = .agg [y0.1, y1.1] ∧ DataW.trod enc P w base spare held n f0.type ((cs.drop f0.offset).take (P.cellsOf f0.type)) = some y0 ∧
      DataW.trod enc P w base spare held n f1.type ((cs.drop f1.offset).take (P.cellsOf f1.type)) = some y1 := by
  obtain ⟨xs, n, _, rfl, hl, hlen, hf⟩ := DataW.trod_struct ht h
  match xs, hlen with
  | [y0, y1], _ => exact ⟨y0, y1, n, hl, rfl, by simpa using hf 0 f0 rfl, by simpa using hf 1 f1 rfl⟩
theorem weights_mem_all {e : TypeId} : ∀ {ds : List (DataW H)} {d : DataW H}, d ∈ ds → ∀ k ∈ d.weights P e, k ∈ DataW.weightsAll P e ds
  | d0 :: r, d, hd, k, hk => by
    simp only [DataW.weightsAll, List.mem_append]
    rcases List.mem_cons.1 hd with rfl | hd
    · exact .inl hk
    · exact .inr (weights_mem_all hd k hk)
end
section
variable {H : Type} {enc : TypeId × Value → H} {W : World} {base : Nat} {spare : Nat → Bool} {held : Bool} {r : Reach} {b2 : Nat}
theorem bytes_byteP : Tryz.prog.bytesOf 5 = 1 := by kernel_rfl
/-- A pair among the cells. -/
theorem open_pair_z {fuel : Nat} {cs : List Value} {x : DataW H × List MemPlace} (h : DataW.trod enc Tryz.prog W base spare held fuel 41 cs = some x) : ∃ (y : PE) (l : List UInt8), cs = encP y ∧ BytesAt W (peV y) l ∧ ∀ R, (∀ k ∈ x.1.weights Tryz.prog 41, k ≤ R) → l.length ≤ R := by
  obtain ⟨y0, y1, n', hl, hx, h0, h1⟩ := trod_two_x Tryz.underlying41 h
  obtain ⟨s, e0⟩ := open_sum Tryz.underlying24 Tryz.underlying5 cells_byte cells_sum h0
  obtain ⟨v, l, e1, hb, hw⟩ := open_u8z (w := W) Tryz.underlying39 Tryz.underlying5 cells_byte bytes_byteP h1
  have hb2 := hb
  obtain ⟨a, cap, rfl, _, _, _⟩ := hb2
  rw [cells_pair9] at hl
  rw [cells_bytes9] at e1
  rw [cells_sum] at e0
  refine ⟨(s, a, l.length, cap), l, ?_, hb, fun R hR => ?_⟩
  · have k1 : (cs.drop 32).take 1 = cs.drop 32 := List.take_of_length_le (by rw [List.length_drop, hl]; decide)
    have k2 := List.take_append_drop 32 cs
    have e0' : cs.take 32 = cellsOf s := e0
    have e1' : cs.drop 32 = [Value.slice a l.length cap] := by rw [← k1]; exact e1
    rw [← k2, e0', e1']
    rfl
  · rw [hx] at hR
    simp only [DataW.weights, Tryz.underlying41, DataW.weightsEach, List.map_cons, List.map_nil, List.mem_append, List.append_nil] at hR
    exact hw R fun k hk => hR k (.inr hk)
set_option maxRecDepth 100000 in
theorem arg_pairs_z {fuel : Nat} {v : Value} {x : DataW H × List MemPlace} (h : DataW.trod enc Tryz.prog W base spare held fuel 22 v.cells.toList = some x) (hok : Value.okWide Tryz.prog W r b2 22 v) : ∃ l, PairsAt W v l ∧ ∀ R, (∀ k ∈ x.1.weights Tryz.prog 22, k ≤ R) → ∀ p ∈ l, p.2.length ≤ R := by
  obtain ⟨a0, n0, c0, rfl⟩ := okWide_slice Tryz.underlying22 hok
  rcases Deep.open_slice Tryz.underlying22 h with ⟨h1, _⟩ | ⟨a, len, cap, m, n, D, Pl, h1, hb, hl, hm, hmm, hx, hel⟩
  · simp only [Value.cells, List.cons.injEq, and_true] at h1
    rw [h1]
    exact ⟨[], ⟨none, 0, [], rfl, Nat.le_refl _, by unfold maxLen; omega, rfl, by simp, .inl rfl⟩, fun R _ p hp => by cases hp⟩
  · simp only [Value.cells, List.cons.injEq, and_true] at h1
    rw [h1]
    have hlm : len ≤ m := by rw [hmm]; split <;> omega
    have one : ∀ i, i < len → ∃ s : PE × List UInt8, (a.add (i * 33)).spot = none ∧ W.rangeAt (a.add (i * 33)).block (a.add (i * 33)).off (encP s.1) ∧ BytesAt W (peV s.1) s.2 ∧ ∀ R, (∀ k ∈ (D i).weights Tryz.prog 41, k ≤ R) → s.2.length ≤ R := fun i hi => by
      obtain ⟨cs', h1, h2⟩ := hel i (by omega)
      rw [cells_pair9] at h1
      obtain ⟨y, l, rfl, hb, hwz⟩ := open_pair_z h2
      obtain ⟨h3, _, h4⟩ := range_of_cells h1 (by omega)
      exact ⟨(y, l), h3, h4, hb, hwz⟩
    obtain ⟨f, hf⟩ := Deep.choose_lt one
    refine ⟨((List.range len).map f).map (fun c => (c.1.1, c.2)), ⟨some a, cap, (List.range len).map f, by simp, by simpa using hl, hm, rfl, fun c hc => ?_, ?_⟩, fun R hR p hp => ?_⟩
    · obtain ⟨i, hi, rfl⟩ := List.mem_map.1 hc
      exact (hf i (List.mem_range.1 hi)).2.2.1
    · by_cases h0 : len = 0
      · subst h0; exact .inl rfl
      · right
        have hsp : a.spot = none := by
          have := (hf 0 (by omega)).1
          simpa [Addr.add] using this
        refine ⟨a.block, a.off, by cases a; simp_all, rangeP_all _ _ fun i hi => ?_⟩
        rw [List.length_map, List.length_map, List.length_range] at hi
        have := (hf i hi).2.1
        have e : a.add (i * 33) = ⟨a.block, a.off + i * 33, none⟩ := by
          unfold Addr.add
          split
          · rename_i h0; have : i = 0 := by omega
            subst this; cases a; simp_all
          · rfl
        rw [e] at this
        simpa using this
    · obtain ⟨c, hc, rfl⟩ := List.mem_map.1 hp
      obtain ⟨i, hi, rfl⟩ := List.mem_map.1 hc
      rw [List.mem_range] at hi
      rw [hx] at hR
      simp only [DataW.weights, Tryz.underlying22, List.mem_cons, List.mem_append, List.length_map, List.length_range] at hR
      exact (hf i hi).2.2.2 R fun k hk => hR k (.inr (.inl (weights_mem_all (List.mem_map.2 ⟨i, List.mem_range.2 hi, rfl⟩) k hk)))
end
end Go.Proofs.YtfmgoehnbaiamaaGreatDoor
