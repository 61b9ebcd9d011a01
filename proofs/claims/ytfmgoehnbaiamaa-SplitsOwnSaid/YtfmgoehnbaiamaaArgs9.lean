/-
  Arguments of a law, opened: pairs.
-/
import Derived.Test.YtfmgoehnbaiamaaArgs3
import Derived.Test.YtfmgoehnbaiamaaU12
open Go Go.RowKit Go.ChangeShapes Go.WideShapes Go.ChangeAt Alm
namespace Go.Proofs.Ytfmgoehnbaiamaa
theorem rangeP_all {w : World} {b : Nat} : ∀ (l : List PE) (o : Nat), (∀ (i : Nat) (h : i < l.length), w.rangeAt b (o + i * 33) (encP l[i])) → w.rangeAt b o (cellsP l)
  | [], o, _ => fun j v hv => by simp [cellsP] at hv
  | x :: l, o, h => by
    show w.rangeAt b o (encP x ++ cellsP l)
    refine range_append.2 ⟨by have := h 0 (by simp); simpa using this, ?_⟩
    rw [length_encP]
    refine rangeP_all l (o + 33) fun i hi => ?_
    have := h (i + 1) (by simp; omega)
    rw [show o + (i + 1) * 33 = o + 33 + i * 33 by omega] at this
    simpa using this
section
variable {H : Type} {enc : TypeId × Value → H} {P : Program} {w : World} {base : Nat} {spare : Nat → Bool} {held : Bool}
theorem trod_two {t : TypeId} {f0 f1 : Field} {fuel : Nat} {cs : List Value} {x : DataW H × List MemPlace} (ht : P.underlying t = some (.struct #[f0, f1])) (h : DataW.trod enc P w base spare held fuel t cs = some x) :
    ∃ y0 y1 n, cs.length = P.cellsOf t ∧ DataW.trod enc P w base spare held n f0.type ((cs.drop f0.offset).take (P.cellsOf f0.type)) = some y0 ∧
      DataW.trod enc P w base spare held n f1.type ((cs.drop f1.offset).take (P.cellsOf f1.type)) = some y1 := by
  obtain ⟨xs, n, _, rfl, hl, hlen, hf⟩ := DataW.trod_struct ht h
  match xs, hlen with
  | [y0, y1], _ => exact ⟨y0, y1, n, hl, by simpa using hf 0 f0 rfl, by simpa using hf 1 f1 rfl⟩
end
section
variable {H : Type} {enc : TypeId × Value → H} {W : World} {base : Nat} {spare : Nat → Bool} {held : Bool} {r : Reach} {b2 : Nat}
theorem cells_bytes9 : Try.prog.cellsOf 34 = 1 := by kernel_rfl
theorem cells_pair9 : Try.prog.cellsOf 36 = 33 := by kernel_rfl
/-- A pair among the cells. -/
theorem open_pair {fuel : Nat} {cs : List Value} {x : DataW H × List MemPlace} (h : DataW.trod enc Try.prog W base spare held fuel 36 cs = some x) : ∃ (y : PE) (l : List UInt8), cs = encP y ∧ BytesAt W (peV y) l := by
  obtain ⟨y0, y1, n', hl, h0, h1⟩ := trod_two Try.underlying36 h
  obtain ⟨s, e0⟩ := open_sum Try.underlying29 Try.underlying5 cells_byte cells_sum h0
  obtain ⟨v, l, e1, hb⟩ := open_u8s (w := W) Try.underlying34 Try.underlying5 cells_byte h1
  have hb2 := hb
  obtain ⟨a, cap, rfl, _, _, _⟩ := hb2
  rw [cells_pair9] at hl
  rw [cells_bytes9] at e1
  rw [cells_sum] at e0
  refine ⟨(s, a, l.length, cap), l, ?_, hb⟩
  have k1 : (cs.drop 32).take 1 = cs.drop 32 := List.take_of_length_le (by rw [List.length_drop, hl]; decide)
  have k2 := List.take_append_drop 32 cs
  have e0' : cs.take 32 = cellsOf s := e0
  have e1' : cs.drop 32 = [Value.slice a l.length cap] := by rw [← k1]; exact e1
  rw [← k2, e0', e1']
  rfl
set_option maxRecDepth 100000 in
theorem arg_pairs {fuel : Nat} {v : Value} {x : DataW H × List MemPlace} (h : DataW.trod enc Try.prog W base spare held fuel 22 v.cells.toList = some x) (hok : Value.okWide Try.prog W r b2 22 v) : ∃ l, PairsAt W v l := by
  obtain ⟨a0, n0, c0, rfl⟩ := okWide_slice Try.underlying22 hok
  rcases Deep.open_slice Try.underlying22 h with ⟨h1, _⟩ | ⟨a, len, cap, m, n, D, Pl, h1, hb, hl, hm, hmm, _, hel⟩
  · simp only [Value.cells, List.cons.injEq, and_true] at h1
    rw [h1]
    exact ⟨[], none, 0, [], rfl, Nat.le_refl _, by unfold maxLen; omega, rfl, by simp, .inl rfl⟩
  · simp only [Value.cells, List.cons.injEq, and_true] at h1
    rw [h1]
    have hlm : len ≤ m := by rw [hmm]; split <;> omega
    have one : ∀ i, i < len → ∃ s : PE × List UInt8, (a.add (i * 33)).spot = none ∧ W.rangeAt (a.add (i * 33)).block (a.add (i * 33)).off (encP s.1) ∧ BytesAt W (peV s.1) s.2 := fun i hi => by
      obtain ⟨cs', h1, h2⟩ := hel i (by omega)
      rw [cells_pair9] at h1
      obtain ⟨y, l, rfl, hb⟩ := open_pair h2
      obtain ⟨h3, _, h4⟩ := range_of_cells h1 (by omega)
      exact ⟨(y, l), h3, h4, hb⟩
    obtain ⟨f, hf⟩ := Deep.choose_lt one
    refine ⟨((List.range len).map f).map (fun c => (c.1.1, c.2)), some a, cap, (List.range len).map f, by simp, by simpa using hl, hm, rfl, fun c hc => ?_, ?_⟩
    · obtain ⟨i, hi, rfl⟩ := List.mem_map.1 hc
      exact (hf i (List.mem_range.1 hi)).2.2
    · by_cases h0 : len = 0
      · subst h0; exact .inl rfl
      · right
        have hsp : a.spot = none := by
          have := (hf 0 (by omega)).1
          simpa [Addr.add] using this
        refine ⟨a.block, a.off, by cases a; simp_all, rangeP_all _ _ fun i hi => ?_⟩
        rw [List.length_map, List.length_map, List.length_range] at hi
        have := (hf i hi).2.1
        have e : a.add (i * 33) = ⟨a.block, a.off + i * 33, none⟩ := by
          unfold Addr.add
          split
          · rename_i h0; have : i = 0 := by omega
            subst this; cases a; simp_all
          · rfl
        rw [e] at this
        simpa using this
end
end Go.Proofs.Ytfmgoehnbaiamaa
