/-
  Arguments of a law, opened: two lists of bytes.
-/
import Derived.Test.YtfmgoehnbaiamaaArgs9
open Go Go.RowKit Go.ChangeShapes Go.WideShapes Go.ChangeAt Alm
namespace Go.Proofs.Ytfmgoehnbaiamaa
theorem cells_bytes_two : Try.prog.cellsOf 48 = 2 := by kernel_rfl
section
variable {H : Type} {enc : TypeId × Value → H} {W : World} {base : Nat} {spare : Nat → Bool} {held : Bool} {r : Reach} {b2 : Nat}
set_option maxRecDepth 100000 in
theorem arg_bytes_two {fuel : Nat} {v : Value} {x : DataW H × List MemPlace} (h : DataW.trod enc Try.prog W base spare held fuel 48 v.cells.toList = some x) (hok : Value.okWide Try.prog W r b2 48 v) :
    ∃ va vb a b, v = .agg #[va, vb] ∧ BytesAt W va a ∧ BytesAt W vb b := by
  obtain ⟨xs, m, _, _, hlen, hxl, hel⟩ := DataW.trod_array Try.underlying48 h
  rw [cells_bytes_two] at hlen
  obtain ⟨ys, rfl⟩ : ∃ ys, v = .agg ys := okWide_array Try.underlying48 hok
  simp only [Value.cells] at hlen hel
  have one : ∀ i, i < 2 → ∃ v l, ys.toList[i]? = some v ∧ BytesAt W v l := fun i hi => by
    have hi' := hel i hi
    rw [cells_bytes9, Nat.mul_one] at hi'
    rw [List.getElem?_eq_getElem (by omega)] at hi'
    obtain ⟨v, l, hv, hb⟩ := open_u8s (w := W) Try.underlying34 Try.underlying5 cells_byte hi'
    have hd : (ys.toList.drop i).take 1 = [ys.toList[i]] := by
      rw [List.drop_eq_getElem_cons (by omega)]; rfl
    rw [hd] at hv
    have hv' : ys.toList[i] = v := by simpa using hv
    exact ⟨v, l, by rw [List.getElem?_eq_getElem (by omega), hv'], hb⟩
  obtain ⟨va, a, ha, ha2⟩ := one 0 (by omega)
  obtain ⟨vb, b, hb, hb2⟩ := one 1 (by omega)
  refine ⟨va, vb, a, b, ?_, ha2, hb2⟩
  obtain ⟨l⟩ := ys
  match l, hlen with
  | [p, q], _ =>
    simp only [List.getElem?_cons_zero, List.getElem?_cons_succ, Option.some.injEq] at ha hb
    rw [ha, hb]
end
end Go.Proofs.Ytfmgoehnbaiamaa
