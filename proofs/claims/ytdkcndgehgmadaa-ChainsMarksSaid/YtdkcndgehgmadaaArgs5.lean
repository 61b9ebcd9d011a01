/-
  Arguments of a law, opened, with what the form's own reach says of their lengths: bytes, clashes, lists of bytes.
-/
import Derived.Test.YtdkcndgehgmadaaArgs3
import Derived.Test.YtdkcndgehgmadaaB3
import Derived.SizedLaws
open Go Go.RowKit Go.ChangeShapes Go.WideShapes Go.ChangeAt Alm
namespace Go.Proofs.Ytdkcndgehgmadaa
section
variable {H : Type} {enc : TypeId × Value → H} {P : Program} {w : World} {base : Nat} {spare : Nat → Bool} {held : Bool}
/-- A list of bytes among the arguments. -/
theorem open_u8z {t e : TypeId} {fuel : Nat} {cs : List Value} {x : DataW H × List MemPlace} (ht : P.underlying t = some (.slice e)) (he : P.underlying e = some (.int .u8)) (hce : P.cellsOf e = 1) (hbe : P.bytesOf e = 1)
    (h : DataW.trod enc P w base spare held fuel t cs = some x) : ∃ v l, cs = [v] ∧ BytesAt w v l ∧ ∀ R, (∀ k ∈ x.1.weights P t, k ≤ R) → l.length ≤ R := by
  obtain ⟨v, l, hv, hb⟩ := open_u8s ht he hce h
  refine ⟨v, l, hv, hb, fun R hR => ?_⟩
  obtain ⟨a', cap', rfl, _, _, _⟩ := hb
  rcases Deep.open_slice ht h with ⟨h1, _⟩ | ⟨a, len, cap, m, n, D, Pl, h1, _, _, _, _, hx, _⟩
  · rw [hv] at h1
    simp only [List.cons.injEq, Value.slice.injEq, and_true] at h1
    omega
  · rw [hv] at h1
    simp only [List.cons.injEq, Value.slice.injEq, and_true] at h1
    rw [hx] at hR
    have := hR (len + (m - len)) (by simp [DataW.weights, ht, hbe])
    omega
end
section
variable {H : Type} {enc : TypeId × Value → H} {W : World} {base : Nat} {spare : Nat → Bool} {held : Bool} {r : Reach} {b2 : Nat}
theorem bytes_byte : Try.prog.bytesOf 5 = 1 := by kernel_rfl
theorem cells_bytes : Try.prog.cellsOf 50 = 1 := by kernel_rfl
theorem cells_clash : Try.prog.cellsOf 75 = 2 := by kernel_rfl
theorem trod_struct2 {P : Program} {w : World} {t : TypeId} {f0 f1 : Field} {fuel : Nat} {cs : List Value} {x : DataW H × List MemPlace} (ht : P.underlying t = some (.struct #[f0, f1])) (h : DataW.trod enc P w base spare held fuel t cs = some x) :
    ∃ y0 y1 n, cs.length = P.cellsOf t ∧ x.1 = .agg [y0.1, y1.1] ∧ DataW.trod enc P w base spare held n f0.type ((cs.drop f0.offset).take (P.cellsOf f0.type)) = some y0 ∧
      DataW.trod enc P w base spare held n f1.type ((cs.drop f1.offset).take (P.cellsOf f1.type)) = some y1 := by
  obtain ⟨xs, n, _, rfl, hl, hlen, hf⟩ := DataW.trod_struct ht h
  match xs, hlen with
  | [y0, y1], _ => exact ⟨y0, y1, n, hl, rfl, by simpa using hf 0 f0 rfl, by simpa using hf 1 f1 rfl⟩
set_option maxRecDepth 100000 in
theorem arg_clash {fuel : Nat} {v : Value} {x : DataW H × List MemPlace} (h : DataW.trod enc Try.prog W base spare held fuel 75 v.cells.toList = some x) (hok : Value.okWide Try.prog W r b2 75 v) :
    ∃ va vb a b, v = cv va vb ∧ BytesAt W va a ∧ BytesAt W vb b ∧ ∀ R, (∀ k ∈ x.1.weights Try.prog 75, k ≤ R) → a.length ≤ R ∧ b.length ≤ R := by
  obtain ⟨xs, rfl, hsz⟩ := okWide_struct Try.underlying75 hok
  obtain ⟨y0, y1, n', hl, hx, h0, h1⟩ := trod_struct2 Try.underlying75 h
  simp only [Value.cells] at h0 h1 hl
  obtain ⟨va, a, e0, ha, wa⟩ := open_u8z Try.underlying50 Try.underlying5 cells_byte bytes_byte h0
  obtain ⟨vb, b, e1, hb, wb⟩ := open_u8z Try.underlying50 Try.underlying5 cells_byte bytes_byte h1
  rw [cells_bytes] at e0 e1
  rw [cells_clash] at hl
  refine ⟨va, vb, a, b, ?_, ha, hb, fun R hR => ?_⟩
  · have hx : xs.toList = [va, vb] := by
      have key : xs.toList = (xs.toList.drop 0).take 1 ++ (xs.toList.drop 1).take 1 := by
        have t1 : (xs.toList.drop 1).take 1 = xs.toList.drop 1 := List.take_of_length_le (by rw [List.length_drop, hl]; decide)
        have s0 := List.take_append_drop 1 (xs.toList.drop 0)
        rw [List.drop_drop] at s0
        rw [t1, s0]; rfl
      rw [key]
      exact (congr (congrArg _ e0) e1).trans rfl
    cases xs; simp_all
  · rw [hx] at hR
    simp only [DataW.weights, Try.underlying75, DataW.weightsEach, List.map_cons, List.map_nil, List.mem_append, List.append_nil] at hR
    exact ⟨wa R fun k hk => hR k (.inl hk), wb R fun k hk => hR k (.inr hk)⟩
end
end Go.Proofs.Ytdkcndgehgmadaa
