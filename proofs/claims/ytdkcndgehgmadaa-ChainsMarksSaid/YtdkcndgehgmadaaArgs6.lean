/-
  Arguments of a law, opened: lists of lists of bytes.
-/
import Derived.Test.YtdkcndgehgmadaaArgs5
open Go Go.RowKit Go.ChangeShapes Go.WideShapes Go.ChangeAt Alm
namespace Go.Proofs.Ytdkcndgehgmadaa
section
variable {H : Type} {enc : TypeId × Value → H} {P : Program} {w : World} {base : Nat} {spare : Nat → Bool} {held : Bool}
theorem weights_mem_all {e : TypeId} : ∀ {ds : List (DataW H)} {d : DataW H}, d ∈ ds → ∀ k ∈ d.weights P e, k ∈ DataW.weightsAll P e ds
  | d0 :: r, d, hd, k, hk => by
    simp only [DataW.weightsAll, List.mem_append]
    rcases List.mem_cons.1 hd with rfl | hd
    · exact .inl hk
    · exact .inr (weights_mem_all hd k hk)
/-- A list of lists of bytes among the arguments. -/
theorem open_lists {t e u : TypeId} {fuel : Nat} {cs : List Value} {x : DataW H × List MemPlace} (ht : P.underlying t = some (.slice e)) (he : P.underlying e = some (.slice u)) (hu : P.underlying u = some (.int .u8)) (hce : P.cellsOf e = 1) (hcu : P.cellsOf u = 1) (hbe : 1 ≤ P.bytesOf e) (hbu : P.bytesOf u = 1)
    (h : DataW.trod enc P w base spare held fuel t cs = some x) : ∃ v ls, cs = [v] ∧ ListsAt w v ls ∧ ∀ R, (∀ k ∈ x.1.weights P t, k ≤ R) → ls.length ≤ R ∧ ∀ y ∈ ls, y.length ≤ R := by
  rcases Deep.open_slice ht h with ⟨rfl, hx⟩ | ⟨a, len, cap, m, n, D, Pl, rfl, hb, hl, hm, hmm, hx, hel⟩
  · exact ⟨_, [], rfl, ⟨none, 0, rfl, Nat.le_refl _, by unfold maxLen; omega, .inl rfl⟩, fun R _ => ⟨Nat.zero_le _, fun y hy => by cases hy⟩⟩
  · have hlm : len ≤ m := by rw [hmm]; split <;> omega
    have one : ∀ i, i < len → ∃ s : List UInt8, (a.add i).spot = none ∧ (∃ v, w.cell? (a.add i) = some v ∧ BytesAt w v s) ∧ ∀ R, (∀ k ∈ (D i).weights P e, k ≤ R) → s.length ≤ R := fun i hi => by
      obtain ⟨cs', h1, h2⟩ := hel i (by omega)
      rw [hce, Nat.mul_one] at h1
      obtain ⟨v, l, rfl, hbv, hw⟩ := open_u8z he hu hcu hbu h2
      obtain ⟨h3, _, h4⟩ := range_of_cells h1 (by omega)
      refine ⟨l, h3, ⟨v, ?_, hbv⟩, hw⟩
      have := h4 0 v rfl
      rw [Nat.add_zero] at this
      have e2 : a.add i = ⟨(a.add i).block, (a.add i).off, none⟩ := by
        rw [← h3]
      rw [e2]; exact this
    obtain ⟨f, hf⟩ := Deep.choose_lt one
    refine ⟨_, (List.range len).map f, rfl, ⟨some a, cap, by simp, by simpa using hl, hm, ?_⟩, fun R hR => ?_⟩
    · by_cases h0 : len = 0
      · subst h0; exact .inl rfl
      · right
        have hsp : a.spot = none := by
          have := (hf 0 (by omega)).1
          simpa [Addr.add] using this
        refine ⟨a.block, a.off, by cases a; simp_all, fun j hj => ?_⟩
        have hj' : j < len := by simpa using hj
        obtain ⟨v, hv, hbv⟩ := (hf j hj').2.1
        have e : a.add j = ⟨a.block, a.off + j, none⟩ := by
          unfold Addr.add
          split
          · rename_i h0; subst h0; cases a; simp_all
          · rfl
        rw [e] at hv
        exact ⟨v, hv, by simpa using hbv⟩
    · rw [hx] at hR
      simp only [DataW.weights, ht, List.mem_cons, List.mem_append, List.length_map, List.length_range] at hR
      constructor
      · have h1 := hR _ (.inl rfl)
        have h2 : (len + (m - len)) * 1 ≤ (len + (m - len)) * P.bytesOf e := Nat.mul_le_mul_left _ hbe
        simp only [List.length_map, List.length_range]
        omega
      · intro y hy
        obtain ⟨j, hj, rfl⟩ := List.mem_map.1 hy
        rw [List.mem_range] at hj
        refine (hf j hj).2.2 R fun k hk => hR k (.inr (.inl (weights_mem_all (List.mem_map.2 ⟨j, List.mem_range.2 hj, rfl⟩) k hk)))
end
section
variable {H : Type} {enc : TypeId × Value → H} {W : World} {base : Nat} {spare : Nat → Bool} {held : Bool} {r : Reach} {b2 : Nat}
theorem bytes_bytes : 1 ≤ Try.prog.bytesOf 50 := by
  have : Try.prog.bytesOf 50 = 24 := by kernel_rfl
  omega
set_option maxRecDepth 100000 in
theorem arg_lists {fuel : Nat} {v : Value} {x : DataW H × List MemPlace} (h : DataW.trod enc Try.prog W base spare held fuel 67 v.cells.toList = some x) (hok : Value.okWide Try.prog W r b2 67 v) :
    ∃ ls, ListsAt W v ls ∧ ∀ R, (∀ k ∈ x.1.weights Try.prog 67, k ≤ R) → ls.length ≤ R ∧ ∀ y ∈ ls, y.length ≤ R := by
  obtain ⟨v', ls, hc, hs, hw⟩ := open_lists Try.underlying67 Try.underlying50 Try.underlying5 cells_bytes cells_byte bytes_bytes bytes_byte h
  obtain ⟨a, n, c, rfl⟩ := okWide_slice Try.underlying67 hok
  have : v' = .slice a n c := by simpa [Value.cells] using hc.symm
  subst this
  exact ⟨ls, hs, hw⟩
end
end Go.Proofs.Ytdkcndgehgmadaa
