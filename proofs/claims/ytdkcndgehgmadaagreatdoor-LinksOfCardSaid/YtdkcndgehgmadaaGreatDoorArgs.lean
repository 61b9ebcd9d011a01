/-
  Arguments of a law, opened: sums, lists of sums, small integers.
-/
import Derived.Test.YtdkcndgehgmadaaGreatDoorLaw
import Derived.DataReads
open Go Go.RowKit Go.ChangeShapes Go.WideShapes
namespace Alm
theorem range_all {w : World} {b : Nat} : ∀ (l : List Sum) (o : Nat), (∀ i (h : i < l.length), w.rangeAt b (o + i * 32) (cellsOf l[i])) → w.rangeAt b o (cellsAll l)
  | [], o, _ => range_nil _ _ _
  | s :: l, o, h => by
    rw [cellsAll_cons, range_append, length_cellsOf]
    refine ⟨?_, range_all l (o + 32) fun i hi => ?_⟩
    · have := h 0 (by simp)
      rw [Nat.zero_mul, Nat.add_zero] at this; exact this
    · have := h (i + 1) (by simp; omega)
      rw [show o + (i + 1) * 32 = o + 32 + i * 32 from by omega] at this
      exact this
/-- A list of bools in memory. -/
def BoolsAt (w : World) (v : Value) (l : List Bool) : Prop :=
  ∃ a cap, v = .slice a l.length cap ∧ l.length ≤ cap ∧ cap ≤ maxLen ∧ (l = [] ∨ ∃ b o, a = some ⟨b, o, none⟩ ∧ w.rangeAt b o (l.map Value.bool))
section
variable {H : Type} {enc : TypeId × Value → H} {P : Program} {w : World} {base : Nat} {spare : Nat → Bool} {held : Bool}
theorem range_of_cells {a : Addr} {n : Nat} {cs : List Value} (h : w.cells? base a n = some cs) (hn : 0 < n) : a.spot = none ∧ cs.length = n ∧ w.rangeAt a.block a.off cs := by
  obtain ⟨_, hl, hc⟩ := World.cells?_some h
  have hsp : a.spot = none := by
    have h0 := hc 0 hn
    rw [List.getElem?_eq_getElem (by omega)] at h0
    unfold Addr.add at h0
    rw [if_pos rfl] at h0
    unfold World.cell? at h0
    split at h0
    · split at h0
      · cases h0
      · rename_i hs; simpa using hs
    · cases h0
  refine ⟨hsp, hl, fun j v hj => ?_⟩
  have hjn : j < n := by rw [← hl]; exact (List.getElem?_eq_some_iff.1 hj).1
  have h1 := hc j hjn
  rw [hj] at h1
  have e : a.add j = ⟨a.block, a.off + j, none⟩ := by
    unfold Addr.add
    split
    · rename_i h0; subst h0; cases a; simp_all
    · rfl
  rwa [e] at h1
/-- A list of sums among the arguments. -/
theorem open_sums {t e u : TypeId} {fuel : Nat} {cs : List Value} {x : DataW H × List MemPlace} (ht : P.underlying t = some (.slice e)) (he : P.underlying e = some (.array 32 u)) (hu : P.underlying u = some (.int .u8)) (hcu : P.cellsOf u = 1) (hce : P.cellsOf e = 32)
    (h : DataW.trod enc P w base spare held fuel t cs = some x) : ∃ v l, cs = [v] ∧ SumsAt w v l ∧ (v = .slice none 0 0 ∨ ∃ a n c, v = .slice (some a) n c) := by
  rcases Deep.open_slice ht h with ⟨rfl, _⟩ | ⟨a, len, cap, m, n, D, Pl, rfl, hb, hl, hm, hmm, _, hel⟩
  · exact ⟨_, [], rfl, ⟨none, 0, rfl, Nat.le_refl _, by unfold maxLen; omega, .inl rfl⟩, .inl rfl⟩
  · have hlm : len ≤ m := by rw [hmm]; split <;> omega
    have one : ∀ i, i < len → ∃ s : Sum, (a.add (i * 32)).spot = none ∧ w.rangeAt (a.add (i * 32)).block (a.add (i * 32)).off (cellsOf s) := fun i hi => by
      obtain ⟨cs', h1, h2⟩ := hel i (by omega)
      rw [hce] at h1
      obtain ⟨s, rfl⟩ := open_sum he hu hcu hce h2
      obtain ⟨h3, _, h4⟩ := range_of_cells h1 (by omega)
      exact ⟨s, h3, h4⟩
    obtain ⟨f, hf⟩ := Deep.choose_lt one
    refine ⟨_, (List.range len).map f, rfl, ⟨some a, cap, by simp, by simpa using hl, hm, ?_⟩, .inr ⟨a, len, cap, rfl⟩⟩
    by_cases h0 : len = 0
    · subst h0; exact .inl rfl
    · right
      have hsp : a.spot = none := by
        have := (hf 0 (by omega)).1
        simpa [Addr.add] using this
      refine ⟨a.block, a.off, by cases a; simp_all, range_all _ _ fun i hi => ?_⟩
      rw [List.length_map, List.length_range] at hi
      have := (hf i hi).2
      have e : a.add (i * 32) = ⟨a.block, a.off + i * 32, none⟩ := by
        unfold Addr.add
        split
        · rename_i h0; have : i = 0 := by omega
          subst this; cases a; simp_all
        · rfl
      rw [e] at this
      simpa using this
/-- A list of bools among the arguments. -/
theorem open_bools {t e : TypeId} {fuel : Nat} {cs : List Value} {x : DataW H × List MemPlace} (ht : P.underlying t = some (.slice e)) (he : P.underlying e = some .bool) (hce : P.cellsOf e = 1)
    (h : DataW.trod enc P w base spare held fuel t cs = some x) : ∃ v l, cs = [v] ∧ BoolsAt w v l := by
  rcases Deep.open_slice ht h with ⟨rfl, _⟩ | ⟨a, len, cap, m, n, D, Pl, rfl, hb, hl, hm, hmm, _, hel⟩
  · exact ⟨_, [], rfl, ⟨none, 0, rfl, Nat.le_refl _, by unfold maxLen; omega, .inl rfl⟩⟩
  · have hlm : len ≤ m := by rw [hmm]; split <;> omega
    have one : ∀ i, i < len → ∃ s : Bool, (a.add i).spot = none ∧ w.rangeAt (a.add i).block (a.add i).off [Value.bool s] := fun i hi => by
      obtain ⟨cs', h1, h2⟩ := hel i (by omega)
      rw [hce, Nat.mul_one] at h1
      obtain ⟨b, hb, _⟩ := DataW.trod_bool he h2
      subst hb
      obtain ⟨h3, _, h4⟩ := range_of_cells h1 (by omega)
      exact ⟨b, h3, h4⟩
    obtain ⟨f, hf⟩ := Deep.choose_lt one
    refine ⟨_, (List.range len).map f, rfl, ⟨some a, cap, by simp, by simpa using hl, hm, ?_⟩⟩
    by_cases h0 : len = 0
    · subst h0; exact .inl rfl
    · right
      have hsp : a.spot = none := by
        have := (hf 0 (by omega)).1
        simpa [Addr.add] using this
      refine ⟨a.block, a.off, by cases a; simp_all, fun j v hv => ?_⟩
      have hj : j < len := by
        have := (List.getElem?_eq_some_iff.1 hv).1
        simpa using this
      have h1 := (hf j hj).2 0 _ rfl
      have e : a.add j = ⟨a.block, a.off + j, none⟩ := by
        unfold Addr.add
        split
        · rename_i h0; subst h0; cases a; simp_all
        · rfl
      rw [e] at h1
      have e2 : v = Value.bool (f j) := by
        have : ((List.range len).map f).map Value.bool = (List.range len).map (fun i => Value.bool (f i)) := by simp
        rw [this] at hv
        simp [hj] at hv
        exact hv.symm
      rw [e2]
      simpa using h1
/-- A byte among the arguments. -/
theorem open_u8 {t : TypeId} {fuel : Nat} {cs : List Value} {x : DataW H × List MemPlace} (ht : P.underlying t = some (.int .u8)) (h : DataW.trod enc P w base spare held fuel t cs = some x) : ∃ n : Nat, cs = [.int .u8 (n : Int)] ∧ n ≤ 255 := by
  obtain ⟨n, hn, _, hw⟩ := DataW.trod_int ht h
  have hb : 0 ≤ n ∧ n ≤ 255 := by simpa [Lit.wf, IntKind.min, IntKind.max, IntKind.signed, IntKind.bits] using hw
  refine ⟨n.toNat, ?_, by omega⟩
  rw [hn]
  have : ((n.toNat : Nat) : Int) = n := by omega
  rw [this]
/-- A uint64 among the arguments. -/
theorem open_u64 {t : TypeId} {fuel : Nat} {cs : List Value} {x : DataW H × List MemPlace} (ht : P.underlying t = some (.int .u64)) (h : DataW.trod enc P w base spare held fuel t cs = some x) : ∃ n : Nat, cs = [.int .u64 (n : Int)] ∧ n < 18446744073709551616 := by
  obtain ⟨n, hn, _, hw⟩ := DataW.trod_int ht h
  have hb : 0 ≤ n ∧ n ≤ 18446744073709551615 := by simpa [Lit.wf, IntKind.min, IntKind.max, IntKind.signed, IntKind.bits] using hw
  refine ⟨n.toNat, ?_, by omega⟩
  rw [hn]
  have : ((n.toNat : Nat) : Int) = n := by omega
  rw [this]
end
end Alm
