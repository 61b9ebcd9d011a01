/-
  Arguments of a law, opened: bytes.
-/
import Derived.Test.YtfmgoehnbaiamaaArgs2
import Derived.Test.YtfmgoehnbaiamaaRun
open Go Go.RowKit Go.ChangeShapes Go.WideShapes Go.ChangeAt Alm
namespace Go.Proofs.Ytfmgoehnbaiamaa
section
variable {H : Type} {enc : TypeId × Value → H} {P : Program} {w : World} {base : Nat} {spare : Nat → Bool} {held : Bool}
/-- A list of bytes among the arguments. -/
theorem open_u8s {t e : TypeId} {fuel : Nat} {cs : List Value} {x : DataW H × List MemPlace} (ht : P.underlying t = some (.slice e)) (he : P.underlying e = some (.int .u8)) (hce : P.cellsOf e = 1)
    (h : DataW.trod enc P w base spare held fuel t cs = some x) : ∃ v l, cs = [v] ∧ BytesAt w v l := by
  rcases Deep.open_slice ht h with ⟨rfl, _⟩ | ⟨a, len, cap, m, n, D, Pl, rfl, hb, hl, hm, hmm, _, hel⟩
  · exact ⟨_, [], rfl, ⟨none, 0, rfl, Nat.le_refl _, by unfold maxLen; omega, .inl rfl⟩⟩
  · have hlm : len ≤ m := by rw [hmm]; split <;> omega
    have one : ∀ i, i < len → ∃ s : UInt8, (a.add i).spot = none ∧ w.rangeAt (a.add i).block (a.add i).off [u8v s] := fun i hi => by
      obtain ⟨cs', h1, h2⟩ := hel i (by omega)
      rw [hce, Nat.mul_one] at h1
      obtain ⟨z, hz, _, hw⟩ := DataW.trod_int he h2
      have hb : 0 ≤ z ∧ z ≤ 255 := by simpa [Lit.wf, IntKind.min, IntKind.max, IntKind.signed, IntKind.bits] using hw
      subst hz
      obtain ⟨h3, _, h4⟩ := range_of_cells h1 (by omega)
      refine ⟨UInt8.ofNat z.toNat, h3, ?_⟩
      have : u8v (UInt8.ofNat z.toNat) = .int .u8 z := by
        unfold u8v
        have : (UInt8.ofNat z.toNat).toNat = z.toNat := by
          rw [UInt8.toNat_ofNat']; omega
        rw [this]
        congr 1; omega
      rw [this]; exact h4
    obtain ⟨f, hf⟩ := Deep.choose_lt one
    refine ⟨_, (List.range len).map f, rfl, ⟨some a, cap, by simp, by simpa using hl, hm, ?_⟩⟩
    by_cases h0 : len = 0
    · subst h0; exact .inl rfl
    · right
      have hsp : a.spot = none := by
        have := (hf 0 (by omega)).1
        simpa [Addr.add] using this
      refine ⟨a.block, a.off, by cases a; simp_all, fun j v hv => ?_⟩
      have hj : j < len := by
        have := (List.getElem?_eq_some_iff.1 hv).1
        simpa [cells8] using this
      have h1 := (hf j hj).2 0 _ rfl
      have e : a.add j = ⟨a.block, a.off + j, none⟩ := by
        unfold Addr.add
        split
        · rename_i h0; subst h0; cases a; simp_all
        · rfl
      rw [e] at h1
      have e2 : v = u8v (f j) := by
        unfold cells8 at hv
        simp [hj] at hv
        exact hv.symm
      rw [e2]
      simpa using h1
end
section
variable {H : Type} {enc : TypeId × Value → H} {W : World} {base : Nat} {spare : Nat → Bool} {held : Bool} {r : Reach} {b2 : Nat}
set_option maxRecDepth 100000 in
theorem arg_bytes {fuel : Nat} {v : Value} {x : DataW H × List MemPlace} (h : DataW.trod enc Try.prog W base spare held fuel 34 v.cells.toList = some x) (hok : Value.okWide Try.prog W r b2 34 v) : ∃ l, BytesAt W v l := by
  obtain ⟨v', l, hc, hs⟩ := open_u8s Try.underlying34 Try.underlying5 cells_byte h
  obtain ⟨a, n, c, rfl⟩ := okWide_slice Try.underlying34 hok
  have : v' = .slice a n c := by simpa [Value.cells] using hc.symm
  subst this
  exact ⟨l, hs⟩
end
end Go.Proofs.Ytfmgoehnbaiamaa
