/-
  Merged: Args11.
-/
import Derived.Test.YtfmgoehnbaiamaaArgs9
import Derived.Test.YtfmgoehnbaiamaaZD6
import Derived.SizedLaws
-- Arguments of a law, opened, with what the form's own reach says of their lengths: what is said of a map and two shows.
open Go Go.RowKit Go.ChangeShapes Go.WideShapes Go.ChangeAt Alm
namespace Go.Proofs.Ytfmgoehnbaiamaa
section
variable {H : Type} {enc : TypeId × Value → H} {P : Program} {w : World} {base : Nat} {spare : Nat → Bool} {held : Bool}
theorem open_u8z {t e : TypeId} {fuel : Nat} {cs : List Value} {x : DataW H × List MemPlace} (ht : P.underlying t = some (.slice e)) (he : P.underlying e = some (.int .u8)) (hce : P.cellsOf e = 1) (hbe : P.bytesOf e = 1)
    (h : DataW.trod enc P w base spare held fuel t cs = some x) : ∃ v l, cs = [v] ∧ BytesAt w v l ∧ ∀ R, (∀ k ∈ x.1.weights P t, k ≤ R) → l.length ≤ R := by
  obtain ⟨v, l, hv, hb⟩ := open_u8s ht he hce h
  refine ⟨v, l, hv, hb, fun R hR => ?_⟩
  obtain ⟨a', cap', rfl, _, _, _⟩ := hb
  rcases Deep.open_slice ht h with ⟨h1, _⟩ | ⟨a, len, cap, m, n, D, Pl, h1, _, _, _, _, hx, _⟩
  · rw [hv] at h1
    simp only [List.cons.injEq, Value.slice.injEq, and_true] at h1
    omega
  · rw [hv] at h1
    simp only [List.cons.injEq, Value.slice.injEq, and_true] at h1
    rw [hx] at hR
    have := hR (len + (m - len)) (by simp [DataW.weights, ht, hbe])
    omega
theorem open_sumsz {t e u : TypeId} {fuel : Nat} {cs : List Value} {x : DataW H × List MemPlace} (ht : P.underlying t = some (.slice e)) (he : P.underlying e = some (.array 32 u)) (hu : P.underlying u = some (.int .u8)) (hcu : P.cellsOf u = 1) (hce : P.cellsOf e = 32) (hbe : 1 ≤ P.bytesOf e)
    (h : DataW.trod enc P w base spare held fuel t cs = some x) : ∃ v l, cs = [v] ∧ SumsAt w v l ∧ ∀ R, (∀ k ∈ x.1.weights P t, k ≤ R) → l.length ≤ R := by
  obtain ⟨v, l, hv, hb, _⟩ := open_sums ht he hu hcu hce h
  refine ⟨v, l, hv, hb, fun R hR => ?_⟩
  obtain ⟨a', cap', rfl, _, _, _⟩ := hb
  rcases Deep.open_slice ht h with ⟨h1, _⟩ | ⟨a, len, cap, m, n, D, Pl, h1, _, _, _, _, hx, _⟩
  · rw [hv] at h1
    simp only [List.cons.injEq, Value.slice.injEq, and_true] at h1
    omega
  · rw [hv] at h1
    simp only [List.cons.injEq, Value.slice.injEq, and_true] at h1
    rw [hx] at hR
    have h2 := hR ((len + (m - len)) * P.bytesOf e) (by simp [DataW.weights, ht])
    have h3 : (len + (m - len)) * 1 ≤ (len + (m - len)) * P.bytesOf e := Nat.mul_le_mul_left _ hbe
    omega
theorem trod_two_x {t : TypeId} {f0 f1 : Field} {fuel : Nat} {cs : List Value} {x : DataW H × List MemPlace} (ht : P.underlying t = some (.struct #[f0, f1])) (h : DataW.trod enc P w base spare held fuel t cs = some x) :
    ∃ y0 y1 n, cs.length = P.cellsOf t ∧ x.1 = .agg [y0.1, y1.1] ∧ DataW.trod enc P w base spare held n f0.type ((cs.drop f0.offset).take (P.cellsOf f0.type)) = some y0 ∧
      DataW.trod enc P w base spare held n f1.type ((cs.drop f1.offset).take (P.cellsOf f1.type)) = some y1 := by
  obtain ⟨xs, n, _, rfl, hl, hlen, hf⟩ := DataW.trod_struct ht h
  match xs, hlen with
  | [y0, y1], _ => exact ⟨y0, y1, n, hl, rfl, by simpa using hf 0 f0 rfl, by simpa using hf 1 f1 rfl⟩
theorem trod_struct5x {t : TypeId} {f0 f1 f2 f3 f4 : Field} {fuel : Nat} {cs : List Value} {x : DataW H × List MemPlace} (ht : P.underlying t = some (.struct #[f0, f1, f2, f3, f4])) (h : DataW.trod enc P w base spare held fuel t cs = some x) :
    ∃ y0 y1 y2 y3 y4 n, cs.length = P.cellsOf t ∧ x.1 = .agg [y0.1, y1.1, y2.1, y3.1, y4.1] ∧ DataW.trod enc P w base spare held n f0.type ((cs.drop f0.offset).take (P.cellsOf f0.type)) = some y0 ∧
      DataW.trod enc P w base spare held n f1.type ((cs.drop f1.offset).take (P.cellsOf f1.type)) = some y1 ∧ DataW.trod enc P w base spare held n f2.type ((cs.drop f2.offset).take (P.cellsOf f2.type)) = some y2 ∧
      DataW.trod enc P w base spare held n f3.type ((cs.drop f3.offset).take (P.cellsOf f3.type)) = some y3 ∧ DataW.trod enc P w base spare held n f4.type ((cs.drop f4.offset).take (P.cellsOf f4.type)) = some y4 := by
  obtain ⟨xs, n, _, rfl, hl, hlen, hf⟩ := DataW.trod_struct ht h
  match xs, hlen with
  | [y0, y1, y2, y3, y4], _ => exact ⟨y0, y1, y2, y3, y4, n, hl, rfl, by simpa using hf 0 f0 rfl, by simpa using hf 1 f1 rfl, by simpa using hf 2 f2 rfl, by simpa using hf 3 f3 rfl, by simpa using hf 4 f4 rfl⟩
end
section
variable {H : Type} {enc : TypeId × Value → H} {W : World} {base : Nat} {spare : Nat → Bool} {held : Bool} {r : Reach} {b2 : Nat}
theorem bytes_byte : Try.prog.bytesOf 5 = 1 := by kernel_rfl
theorem bytes_sum : 1 ≤ Try.prog.bytesOf 29 := by
  have : Try.prog.bytesOf 29 = 32 := by kernel_rfl
  omega
theorem cells_show11 : Try.prog.cellsOf 59 = 33 := by kernel_rfl
theorem cells_said17 : Try.prog.cellsOf 72 = 100 := by kernel_rfl
/-- A show among the cells. -/
theorem open_show {fuel : Nat} {cs : List Value} {x : DataW H × List MemPlace} (h : DataW.trod enc Try.prog W base spare held fuel 59 cs = some x) :
    ∃ (w : Sum) (s : Value) (S : List Sum), cs = cellsShow w s ∧ SumsAt W s S ∧ ∀ R, (∀ k ∈ x.1.weights Try.prog 59, k ≤ R) → S.length ≤ R := by
  obtain ⟨y0, y1, n', hl, hx, h0, h1⟩ := trod_two_x Try.underlying59 h
  obtain ⟨w, e0⟩ := open_sum Try.underlying29 Try.underlying5 cells_byte cells_sum h0
  obtain ⟨s, S, e1, hS, wS⟩ := open_sumsz Try.underlying57 Try.underlying29 Try.underlying5 cells_byte cells_sum bytes_sum h1
  rw [cells_show11] at hl
  rw [cells_sums] at e1
  rw [cells_sum] at e0
  refine ⟨w, s, S, ?_, hS, fun R hR => ?_⟩
  · have k1 : (cs.drop 32).take 1 = cs.drop 32 := List.take_of_length_le (by rw [List.length_drop, hl]; decide)
    have k2 := List.take_append_drop 32 cs
    have e0' : cs.take 32 = cellsOf w := e0
    have e1' : cs.drop 32 = [s] := by rw [← k1]; exact e1
    rw [← k2, e0', e1']
    rfl
  · rw [hx] at hR
    simp only [DataW.weights, Try.underlying59, DataW.weightsEach, List.map_cons, List.map_nil, List.mem_append, List.append_nil] at hR
    exact wS R fun k hk => hR k (.inr hk)
set_option maxRecDepth 100000 in
theorem arg_said17 {fuel : Nat} {v : Value} {x : DataW H × List MemPlace} (h : DataW.trod enc Try.prog W base spare held fuel 72 v.cells.toList = some x) (hok : Value.okWide Try.prog W r b2 72 v) :
    ∃ k v1 v2 w1 s1 w2 s2 A B S T, v = said17 k v1 v2 w1 s1 w2 s2 ∧ BytesAt W v1 A ∧ BytesAt W v2 B ∧ SumsAt W s1 S ∧ SumsAt W s2 T ∧
      ∀ R, (∀ k ∈ x.1.weights Try.prog 72, k ≤ R) → A.length ≤ R ∧ B.length ≤ R ∧ S.length ≤ R ∧ T.length ≤ R := by
  obtain ⟨xs, rfl, hsz⟩ := okWide_struct Try.underlying72 hok
  obtain ⟨y0, y1, y2, y3, y4, n', hl, hx, h0, h1, h2, h3, h4⟩ := trod_struct5x Try.underlying72 h
  simp only [Value.cells] at h0 h1 h2 h3 h4 hl
  obtain ⟨k, e0⟩ := open_sum Try.underlying29 Try.underlying5 cells_byte cells_sum h0
  obtain ⟨v1, A, e1, hA, wA⟩ := open_u8z Try.underlying34 Try.underlying5 cells_byte bytes_byte h1
  obtain ⟨v2, B, e2, hB, wB⟩ := open_u8z Try.underlying34 Try.underlying5 cells_byte bytes_byte h2
  obtain ⟨w1, s1, S, e3, hS, wS⟩ := open_show h3
  obtain ⟨w2, s2, T, e4, hT, wT⟩ := open_show h4
  rw [cells_sum] at e0
  rw [cells_bytes9] at e1 e2
  rw [cells_show11] at e3 e4
  rw [cells_said17] at hl
  refine ⟨k, v1, v2, w1, s1, w2, s2, A, B, S, T, ?_, hA, hB, hS, hT, fun R hR => ?_⟩
  · have hx : xs.toList = cells17 k v1 v2 w1 s1 w2 s2 := by
      have key : xs.toList = (xs.toList.drop 0).take 32 ++ ((xs.toList.drop 32).take 1 ++ ((xs.toList.drop 33).take 1 ++ ((xs.toList.drop 34).take 33 ++ (xs.toList.drop 67).take 33))) := by
        have t4 : (xs.toList.drop 67).take 33 = xs.toList.drop 67 := List.take_of_length_le (by rw [List.length_drop, hl]; decide)
        have q3 := List.take_append_drop 33 (xs.toList.drop 34)
        have q2 := List.take_append_drop 1 (xs.toList.drop 33)
        have q1 := List.take_append_drop 1 (xs.toList.drop 32)
        have q0 := List.take_append_drop 32 (xs.toList.drop 0)
        rw [List.drop_drop] at q0 q1 q2 q3
        rw [t4, q3, q2, q1, q0]; rfl
      rw [key]
      exact (congr (congrArg _ e0) (congr (congrArg _ e1) (congr (congrArg _ e2) (congr (congrArg _ e3) e4)))).trans (by unfold cells17; simp)
    rw [said17, ← hx]
  · rw [hx] at hR
    simp only [DataW.weights, Try.underlying72, DataW.weightsEach, List.map_cons, List.map_nil, List.mem_append, List.append_nil] at hR
    exact ⟨wA R fun k hk => hR k (.inr (.inl hk)), wB R fun k hk => hR k (.inr (.inr (.inl hk))), wS R fun k hk => hR k (.inr (.inr (.inr (.inl hk)))), wT R fun k hk => hR k (.inr (.inr (.inr (.inr hk))))⟩
end
end Go.Proofs.Ytfmgoehnbaiamaa
