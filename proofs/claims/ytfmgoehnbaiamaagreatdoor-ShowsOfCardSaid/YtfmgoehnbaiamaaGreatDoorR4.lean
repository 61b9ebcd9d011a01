/-
  Walks: the document's sum: what Take has in hand.
-/
import Derived.Test.YtfmgoehnbaiamaaGreatDoorZAI
import Derived.Test.YtfmgoehnbaiamaaGreatDoorZAJ
import Derived.Test.YtfmgoehnbaiamaaGreatDoorZAL
open Go Go.RowKit Alm
namespace Go.Proofs.YtfmgoehnbaiamaaGreatDoor
noncomputable def takeCode : Code := (Tryz.f158.body).getD .skip
theorem rws_zero (b : List UInt8) : ∀ (n k : Nat), n ≤ k → (rws b n).getD k 0 = 0
  | 0, k, _ => by
    simp only [rws]
    rw [List.getD_eq_getElem?_getD, List.getElem?_replicate]
    split <;> rfl
  | n + 1, k, h => by
    rw [rws]
    by_cases hn : n < 64
    · rw [getD_set (by rw [length_rws]; exact hn), if_neg (by omega)]; exact rws_zero b n k (by omega)
    · rw [List.set_eq_of_length_le (by rw [length_rws]; omega)]; exact rws_zero b n k (by omega)
theorem set_same {l : List UInt32} {k : Nat} (h : l.getD k 0 = 0) : l.set k 0 = l := by
  apply List.ext_getElem?
  intro i
  by_cases e : k = i
  · subst e
    by_cases hk : k < l.length
    · rw [List.getElem?_set_self hk]
      rw [List.getD_eq_getElem?_getD, List.getElem?_eq_getElem hk] at h
      rw [List.getElem?_eq_getElem hk, ← h]; rfl
    · rw [List.getElem?_eq_none (by rw [List.length_set]; omega), List.getElem?_eq_none (by omega)]
  · rw [List.getElem?_set_ne e]
theorem uv_mul256 (x : UInt32) : IntKind.u32.wrap (256 * uv x) = uv (256 * x) := by
  unfold uv; rw [IntKind.wrap_u32, UInt32.toNat_mul]
  rw [show (256 : UInt32).toNat = 256 from rfl]; omega
theorem refr_7 (x : UInt32) (w : World) : Calls Tryz.prog 178 #[.int .u32 (uv x), .int .i64 7] w fun e w' => e = .returned (.int .u32 (uv (rotr x 7))) ∧ w = w' := refr_any x 7 w (by decide) (by decide)
theorem refr_18 (x : UInt32) (w : World) : Calls Tryz.prog 178 #[.int .u32 (uv x), .int .i64 18] w fun e w' => e = .returned (.int .u32 (uv (rotr x 18))) ∧ w = w' := refr_any x 18 w (by decide) (by decide)
theorem refr_17 (x : UInt32) (w : World) : Calls Tryz.prog 178 #[.int .u32 (uv x), .int .i64 17] w fun e w' => e = .returned (.int .u32 (uv (rotr x 17))) ∧ w = w' := refr_any x 17 w (by decide) (by decide)
theorem refr_19 (x : UInt32) (w : World) : Calls Tryz.prog 178 #[.int .u32 (uv x), .int .i64 19] w fun e w' => e = .returned (.int .u32 (uv (rotr x 19))) ∧ w = w' := refr_any x 19 w (by decide) (by decide)
theorem refr_6 (x : UInt32) (w : World) : Calls Tryz.prog 178 #[.int .u32 (uv x), .int .i64 6] w fun e w' => e = .returned (.int .u32 (uv (rotr x 6))) ∧ w = w' := refr_any x 6 w (by decide) (by decide)
theorem refr_11 (x : UInt32) (w : World) : Calls Tryz.prog 178 #[.int .u32 (uv x), .int .i64 11] w fun e w' => e = .returned (.int .u32 (uv (rotr x 11))) ∧ w = w' := refr_any x 11 w (by decide) (by decide)
theorem refr_25 (x : UInt32) (w : World) : Calls Tryz.prog 178 #[.int .u32 (uv x), .int .i64 25] w fun e w' => e = .returned (.int .u32 (uv (rotr x 25))) ∧ w = w' := refr_any x 25 w (by decide) (by decide)
theorem refr_2 (x : UInt32) (w : World) : Calls Tryz.prog 178 #[.int .u32 (uv x), .int .i64 2] w fun e w' => e = .returned (.int .u32 (uv (rotr x 2))) ∧ w = w' := refr_any x 2 w (by decide) (by decide)
theorem refr_13 (x : UInt32) (w : World) : Calls Tryz.prog 178 #[.int .u32 (uv x), .int .i64 13] w fun e w' => e = .returned (.int .u32 (uv (rotr x 13))) ∧ w = w' := refr_any x 13 w (by decide) (by decide)
theorem refr_22 (x : UInt32) (w : World) : Calls Tryz.prog 178 #[.int .u32 (uv x), .int .i64 22] w fun e w' => e = .returned (.int .u32 (uv (rotr x 22))) ∧ w = w' := refr_any x 22 w (by decide) (by decide)
theorem Row32.drew {W : World} {b : Nat} {t : TypeId} {l : List UInt32} (h : Row32 W b t l) : Row32 W.drew b t l := h
theorem bytes_cell {w : World} {g o n cap : Nat} {l : List UInt8} (h : BytesAt w (.slice (some ⟨g, o, none⟩) n cap) l) {i : Nat} (hi : i < l.length) : w.cell? ⟨g, o + i, none⟩ = some (.int .u8 (((l.getD i 0).toNat : Nat) : Int)) := by
  obtain ⟨a, c, hv, _, _, h3⟩ := h
  have h0 : l ≠ [] := by intro h0; rw [h0] at hi; simp at hi
  obtain ⟨b', o', ha, hr⟩ := h3.resolve_left h0
  simp only [Value.slice.injEq] at hv
  rw [ha] at hv
  simp only [Option.some.injEq, Addr.mk.injEq, and_true] at hv
  obtain ⟨⟨rfl, rfl⟩, _⟩ := hv
  refine hr i _ ?_
  simp [cells8, u8v, hi]
/-- What Take has in hand. -/
structure TK (w W : World) (Sb Rb Wb : Nat) (s : List UInt32) (l : List UInt32) : Prop where
  below : Below w.heap.size w W
  s : Row32 W Sb 201 s
  r : Row32 W Rb 201 (List.replicate 8 0)
  l : Row32 W Wb 220 l
  o : w.heap.size ≤ Sb ∧ w.heap.size ≤ Rb ∧ w.heap.size ≤ Wb ∧ Sb ≠ Wb ∧ Rb ≠ Wb ∧ Sb ≠ Rb
theorem TK.drew {w W : World} {Sb Rb Wb : Nat} {s l : List UInt32} (h : TK w W Sb Rb Wb s l) : TK w W.drew Sb Rb Wb s l := ⟨h.below.drew, h.s, h.r, h.l, h.o⟩
theorem TK.set {w W : World} {Sb Rb Wb : Nat} {s l : List UInt32} (h : TK w W Sb Rb Wb s l) (i : Nat) (x : UInt32) : TK w (W.setCell ⟨Wb, i, none⟩ (.int .u32 (uv x))) Sb Rb Wb s (l.set i x) :=
  ⟨h.below.setCell (by simp; exact h.o.2.2.1) _, h.s.other _ _ h.o.2.2.2.1, h.r.other _ _ h.o.2.2.2.2.1, h.l.set i x, h.o⟩
end Go.Proofs.YtfmgoehnbaiamaaGreatDoor
