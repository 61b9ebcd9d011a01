/-
  Plain: what a call has written: some blocks, and none else.
-/
import Derived.Test.YtdkcndgehgmadaaGreatDoorBase
open Go Go.RowKit
namespace Alm
/-- Of the blocks that were there none but those of X have turned. -/
structure Keeps (X : Nat → Prop) (w w' : World) : Prop where
  os : w'.os = w.os
  tape : w'.tape = w.tape
  output : w'.output = w.output
  size : w.heap.size ≤ w'.heap.size
  block : ∀ k, k < w.heap.size → ¬ X k → w'.heap[k]? = w.heap[k]?
theorem Keeps.refl (X : Nat → Prop) (w : World) : Keeps X w w := ⟨rfl, rfl, rfl, Nat.le_refl _, fun _ _ _ => rfl⟩
theorem Keeps.trans {X : Nat → Prop} {a b c : World} (h : Keeps X a b) (k : Keeps X b c) : Keeps X a c :=
  ⟨k.os.trans h.os, k.tape.trans h.tape, k.output.trans h.output, Nat.le_trans h.size k.size, fun i hi hx => (k.block i (Nat.lt_of_lt_of_le hi h.size) hx).trans (h.block i hi hx)⟩
/-- What X allows more is new, or is allowed. -/
theorem Keeps.trans' {X Y : Nat → Prop} {a b c : World} (h : Keeps X a b) (k : Keeps Y b c) (hy : ∀ i, Y i → X i ∨ a.heap.size ≤ i) : Keeps X a c :=
  ⟨k.os.trans h.os, k.tape.trans h.tape, k.output.trans h.output, Nat.le_trans h.size k.size, fun i hi hx => (k.block i (Nat.lt_of_lt_of_le hi h.size) (fun hyi => by rcases hy i hyi with h1 | h1; exact hx h1; omega)).trans (h.block i hi hx)⟩
theorem Keeps.mono {X Y : Nat → Prop} {w w' : World} (h : Keeps X w w') (hx : ∀ k, X k → Y k) : Keeps Y w w' := ⟨h.os, h.tape, h.output, h.size, fun k hk hy => h.block k hk fun e => hy (hx k e)⟩
theorem Keeps.below {X : Nat → Prop} {B : Nat} {w w' : World} (h : Keeps X w w') (hB : B ≤ w.heap.size) (hx : ∀ k, X k → B ≤ k) : Below B w w' :=
  ⟨h.os, h.tape, h.output, h.size, fun k hk => h.block k (Nat.lt_of_lt_of_le hk hB) fun e => by have := hx k e; omega⟩
theorem Keeps.of_below {X : Nat → Prop} {w w' : World} (h : Below w.heap.size w w') : Keeps X w w' := ⟨h.os, h.tape, h.output, h.size, fun k hk _ => h.block k hk⟩
theorem Keeps.of_grown {X : Nat → Prop} {w w' : World} {row : Option Nat} (h : w.grownBy w' row) (hr : ∀ k, row = some k → X k) : Keeps X w w' :=
  ⟨h.os, h.tape, h.output, h.size, fun k hk hx => h.block k hk fun e => hx (hr k e.symm)⟩
theorem Keeps.alloc {X : Nat → Prop} {a w : World} (h : Keeps X a w) (o : Obj) : Keeps X a (w.alloc o) := h.trans (.of_below ((Below.refl _ _).alloc (Nat.le_refl _) o))
theorem Keeps.drew {X : Nat → Prop} {a w : World} (h : Keeps X a w) : Keeps X a w.drew := h.trans ⟨rfl, rfl, rfl, Nat.le_refl _, fun _ _ _ => rfl⟩
theorem Keeps.setCell {X : Nat → Prop} {a w : World} (h : Keeps X a w) {p : Addr} (hp : X p.block ∨ a.heap.size ≤ p.block) (u : Value) : Keeps X a (w.setCell p u) :=
  ⟨h.os, h.tape, h.output, by simpa [World.setCell] using h.size, fun k hk hx => (Below.heap_setCell w p u k (fun e => by subst e; rcases hp with h1 | h1; exact hx h1; omega)).trans (h.block k hk hx)⟩
theorem Keeps.cell {X : Nat → Prop} {w w' : World} (h : Keeps X w w') {a : Addr} {v : Value} (hc : w.cell? a = some v) (hx : ¬ X a.block) : w'.cell? a = some v :=
  (World.cell?_of_block (w := w) (h.block a.block (World.block_lt_of_cell? w a hc) hx)).trans hc
theorem Keeps.range {X : Nat → Prop} {w w' : World} (h : Keeps X w w') {b o : Nat} {cs : List Value} (hr : w.rangeAt b o cs) (hx : ¬ X b) : w'.rangeAt b o cs :=
  fun j v hj => h.cell (a := ⟨b, o + j, none⟩) (hr j v hj) hx
theorem Keeps.heap {X : Nat → Prop} {w w' : World} (h : Keeps X w w') {b : Nat} {o : Obj} (hb : w.heap[b]? = some o) (hx : ¬ X b) : w'.heap[b]? = some o :=
  (h.block b (Array.getElem?_eq_some_iff.1 hb).1 hx).trans hb
theorem Keeps.owns {X : Nat → Prop} {w w' : World} (h : Keeps X w w') {base : Nat} {e : TypeId} {size : Nat} {v : Value} {n : Nat} {xs : List Value} (ho : w.ownsRow base e size v n xs) (hx : ∀ k, v.ownBlock = some k → ¬ X k) : w'.ownsRow base e size v n xs := by
  refine ⟨ho.1, ?_⟩
  rcases ho.2 with h0 | ⟨g, cap, cur, hv, hb, hg, r⟩
  · exact .inl h0
  · exact .inr ⟨g, cap, cur, hv, hb, h.heap hg (hx g (by rw [hv]; rfl)), r⟩
theorem Keeps.there {X : Nat → Prop} {w w' : World} (h : Keeps X w w') {b o n : Nat} (ht : w.there b o n) (hn : 0 < n) (hx : ¬ X b) : w'.there b o n :=
  there_block (h.block b (there_lt ht hn) hx) ht
theorem Keeps.sums {X : Nat → Prop} {w w' : World} (h : Keeps X w w') {v : Value} {l : List Sum} (hs : SumsAt w v l) (hx : ∀ k, v.ownBlock = some k → ¬ X k) : SumsAt w' v l := by
  obtain ⟨a, cap, rfl, h1, h2, h3⟩ := hs
  refine ⟨a, cap, rfl, h1, h2, ?_⟩
  rcases h3 with h0 | ⟨b, o, rfl, hr⟩
  · exact .inl h0
  · exact .inr ⟨b, o, rfl, h.range hr (hx b rfl)⟩
/-- An owned row of sums reads as sums. -/
theorem sums_own {w : World} {base : Nat} {e : TypeId} {v : Value} {l : List Sum} (h : w.ownsRow base e 32 v l.length (cellsAll l)) : SumsAt w v l := by
  rcases h.2 with ⟨rfl, h0⟩ | ⟨g, cap, cur, rfl, hb, hg, hnc, hcm, hsz, htk⟩
  · have : l = [] := List.length_eq_zero_iff.1 h0
    subst this
    exact ⟨none, 0, rfl, Nat.le_refl _, by unfold maxLen; omega, .inl rfl⟩
  · refine ⟨_, cap, rfl, hnc, hcm, .inr ⟨g, 0, rfl, fun j u hj => ?_⟩⟩
    rw [cell_of_row w g _ cur e (0, 0) hg, Nat.zero_add]
    rw [← htk, List.getElem?_take] at hj
    split at hj
    · simpa using hj
    · cases hj
end Alm
