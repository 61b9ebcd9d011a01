/-
  Plain: a list that lies in memory with its room (Lie), written over, appended to.
-/
import Derived.Test.YtfmgoehnbaiamaaGreatDoorZAL
import Derived.ArgAppend
open Go Go.RowKit
namespace Alm
/-- A list of elements of so many cells each, in one block, with room behind it that is there and free. -/
def Lie (W : World) (base size : Nat) (v : Value) (xs : List (List Value)) : Prop :=
  (v = .slice none 0 0 ∧ xs = []) ∨ ∃ g cap, v = .slice (some ⟨g, 0, none⟩) xs.length cap ∧ base ≤ g ∧ g < W.heap.size ∧ xs.length ≤ cap ∧ cap ≤ maxLen ∧ W.rangeAt g 0 xs.flatten ∧ W.there g 0 (cap * size) ∧ ∀ x ∈ xs, x.length = size
theorem Lie.form {W : World} {base size : Nat} {v : Value} {xs : List (List Value)} (h : Lie W base size v xs) : ∃ a cap, v = .slice a xs.length cap := by
  rcases h with ⟨rfl, rfl⟩ | ⟨g, cap, rfl, _⟩
  · exact ⟨none, 0, rfl⟩
  · exact ⟨_, _, rfl⟩
theorem Lie.lt {W : World} {base size : Nat} {v : Value} {xs : List (List Value)} (h : Lie W base size v xs) : ∀ k, v.ownBlock = some k → base ≤ k ∧ k < W.heap.size := by
  intro k hk
  rcases h with ⟨rfl, _⟩ | ⟨g, cap, rfl, hb, hg, _⟩
  · cases hk
  · obtain rfl : g = k := by simpa [Value.ownBlock] using hk
    exact ⟨hb, hg⟩
theorem Lie.each {W : World} {base size : Nat} {v : Value} {xs : List (List Value)} (h : Lie W base size v xs) : ∀ x ∈ xs, x.length = size := by
  rcases h with ⟨_, rfl⟩ | ⟨g, cap, _, _, _, _, _, _, _, hl⟩
  · intro x hx; cases hx
  · exact hl
theorem length_flat {size : Nat} : ∀ {xs : List (List Value)}, (∀ x ∈ xs, x.length = size) → xs.flatten.length = xs.length * size
  | [], _ => by simp
  | x :: xs, h => by
    rw [List.flatten_cons, List.length_append, h x (by simp), length_flat (fun y hy => h y (by simp [hy])), List.length_cons, Nat.add_mul, Nat.one_mul, Nat.add_comm]
theorem Lie.keep {X : Nat → Prop} {W W' : World} {base size : Nat} {v : Value} {xs : List (List Value)} (h : Lie W base size v xs) (hk : Keeps X W W') (hx : ∀ k, v.ownBlock = some k → ¬ X k) : Lie W' base size v xs := by
  rcases h with h | ⟨g, cap, hv, hb, hg, hnc, hcm, hr, ht, hl⟩
  · exact .inl h
  · have hxg : ¬ X g := hx g (by rw [hv]; rfl)
    refine .inr ⟨g, cap, hv, hb, Nat.lt_of_lt_of_le hg hk.size, hnc, hcm, hk.range hr hxg, ?_, hl⟩
    rcases Nat.eq_zero_or_pos (cap * size) with h0 | h0
    · rw [h0]; intro j hj; omega
    · exact hk.there ht h0 hxg
theorem Lie.below {W W' : World} {base size : Nat} {v : Value} {xs : List (List Value)} (h : Lie W base size v xs) (hb : Below W.heap.size W W') : Lie W' base size v xs := h.keep (Keeps.of_below (X := fun _ => False) hb) (fun _ _ h => h)
theorem Lie.mono {W : World} {base base' size : Nat} {v : Value} {xs : List (List Value)} (h : Lie W base size v xs) (hb : base' ≤ base) : Lie W base' size v xs := by
  rcases h with h | ⟨g, cap, hv, h1, r⟩
  · exact .inl h
  · exact .inr ⟨g, cap, hv, Nat.le_trans hb h1, r⟩
theorem flat_split {size : Nat} {xs : List (List Value)} (h : ∀ x ∈ xs, x.length = size) {k : Nat} (hk : k < xs.length) : xs.flatten = (xs.take k).flatten ++ (xs[k] ++ (xs.drop (k + 1)).flatten) ∧ (xs.take k).flatten.length = k * size := by
  constructor
  · conv => lhs; rw [← List.take_append_drop k xs, List.drop_eq_getElem_cons hk]
    rw [List.flatten_append, List.flatten_cons]
  · rw [length_flat (fun x hx => h x (List.mem_of_mem_take hx)), List.length_take, Nat.min_eq_left (by omega)]
/-- An element of it is written over. -/
theorem Lie.set {W : World} {base size g n cap : Nat} {xs : List (List Value)} (h : Lie W base size (.slice (some ⟨g, 0, none⟩) n cap) xs) {k : Nat} (hk : k < xs.length) {c : List Value} (hc : c.length = size) : Lie (W.setCells g (k * size) c) base size (.slice (some ⟨g, 0, none⟩) n cap) (xs.set k c) := by
  rcases h with ⟨h0, _⟩ | ⟨g', cap', hv, hb, hg, hnc, hcm, hr, ht, hl⟩
  · cases h0
  · simp only [Value.slice.injEq, Option.some.injEq, Addr.mk.injEq, and_true] at hv
    obtain ⟨rfl, rfl, rfl⟩ := hv
    obtain ⟨e1, e2⟩ := flat_split hl hk
    have hkc : k * size + size ≤ cap * size := by
      have : (k + 1) * size ≤ cap * size := Nat.mul_le_mul_right _ (by omega)
      rwa [Nat.add_mul, Nat.one_mul] at this
    have hl' : ∀ x ∈ xs.set k c, x.length = size := fun x hx => by
      rcases List.mem_or_eq_of_mem_set hx with h | h
      · exact hl x h
      · rw [h]; exact hc
    have hk' : k < (xs.set k c).length := by rw [List.length_set]; exact hk
    obtain ⟨f1, f2⟩ := flat_split hl' hk'
    refine .inr ⟨g, cap, by rw [List.length_set], hb, by rw [size_setCells]; exact hg, by rw [List.length_set]; exact hnc, hcm, ?_, World.there_setCells ht _ _ _, hl'⟩
    rw [f1, List.take_set_of_le (Nat.le_refl k), List.getElem_set_self, List.drop_set_of_lt (by omega)]
    rw [e1] at hr
    obtain ⟨r1, r2⟩ := range_append.1 hr
    obtain ⟨r3, r4⟩ := range_append.1 r2
    rw [hl xs[k] (List.getElem_mem hk)] at r4
    rw [Nat.zero_add, e2] at r4
    refine range_append.2 ⟨World.rangeAt_setCells_apart r1 _ _ _ (.inr (.inl (by rw [e2]; omega))), range_append.2 ⟨?_, ?_⟩⟩
    · rw [e2, Nat.zero_add]
      refine range_stored _ _ _ _ (World.there_setCells (fun j hj => ?_) _ _ _)
      have := ht (k * size + j) (by omega)
      rwa [Nat.zero_add] at this
    · rw [e2, Nat.zero_add, hc]
      exact World.rangeAt_setCells_apart r4 _ _ _ (.inr (.inr (by rw [hc]; exact Nat.le_refl _)))
theorem Lie.front {W : World} {base size n m cap : Nat} {a : Option Addr} {xs ys : List (List Value)} (h : Lie W base size (.slice a (n + m) cap) (xs ++ ys)) (hn : xs.length = n) : Lie W base size (.slice a n cap) xs := by
  rcases h with ⟨h0, h1⟩ | ⟨g, cap', hv, hb, hg, hnc, hcm, hr, ht, hl⟩
  · obtain ⟨rfl, rfl⟩ := List.append_eq_nil_iff.1 h1
    simp only [Value.slice.injEq] at h0
    obtain ⟨rfl, h2, rfl⟩ := h0
    exact .inl ⟨by congr 1; exact hn.symm, rfl⟩
  · simp only [Value.slice.injEq] at hv
    obtain ⟨rfl, hnm, rfl⟩ := hv
    rw [List.length_append] at hnc hnm
    rw [List.flatten_append] at hr
    exact .inr ⟨g, cap, by rw [hn], hb, hg, by omega, hcm, (range_append.1 hr).1, ht, fun x hx => hl x (by simp [hx])⟩
/-- An own row is such a list. -/
theorem lie_own {W : World} {base size n : Nat} {e : TypeId} {v : Value} {xs : List (List Value)} (h : W.ownsRow base e size v n xs.flatten) (hn : xs.length = n) (hl : ∀ x ∈ xs, x.length = size) : Lie W base size v xs := by
  rcases h.2 with ⟨rfl, h0⟩ | ⟨g, cap, cur, rfl, hb, hg, hnc, hcm, hsz, htk⟩
  · exact .inl ⟨rfl, List.eq_nil_of_length_eq_zero (by omega)⟩
  · refine .inr ⟨g, cap, by rw [hn], hb, (Array.getElem?_eq_some_iff.1 hg).1, by omega, hcm, fun j v hj => ?_, fun j hj => ⟨?_, frozen_of_row W g _ _ _ hg⟩, hl⟩
    · rw [cell_of_row W g _ cur e (0, 0) hg, Nat.zero_add]
      rw [← htk, List.getElem?_take] at hj
      split at hj
      · simpa using hj
      · cases hj
    · rw [cell_of_row W g (0 + j) _ _ (0, 0) hg, Nat.zero_add, Array.getElem?_eq_getElem (by omega)]
      rfl
/-- A longer list that began as another one: in its room, or in a block of its own. -/
structure Grown (W : World) (base size B : Nat) (v0 : Value) (xs : List (List Value)) (v : Value) (ys : List (List Value)) : Prop where
  now : Lie W base size v (xs ++ ys)
  old : Lie W base size v0 xs
  lo : ∀ k, v0.ownBlock = some k → k < B
  how : (∃ a cap, v0 = .slice a xs.length cap ∧ v = .slice a (xs.length + ys.length) cap) ∨ ∃ b, v.ownBlock = some b ∧ B ≤ b
theorem Grown.start {W : World} {base size B : Nat} {v : Value} {xs : List (List Value)} (h : Lie W base size v xs) (hB : W.heap.size ≤ B) : Grown W base size B v xs v [] := by
  obtain ⟨a, cap, hv⟩ := h.form
  exact ⟨by rw [List.append_nil]; exact h, h, fun k hk => Nat.lt_of_lt_of_le (h.lt k hk).2 hB, .inl ⟨a, cap, hv, hv⟩⟩
theorem Grown.keep {X : Nat → Prop} {W W' : World} {base size B : Nat} {v0 v : Value} {xs ys : List (List Value)} (h : Grown W base size B v0 xs v ys) (hk : Keeps X W W') (h0 : ∀ k, v0.ownBlock = some k → ¬ X k) (h1 : ∀ k, v.ownBlock = some k → ¬ X k) : Grown W' base size B v0 xs v ys :=
  ⟨h.now.keep hk h1, h.old.keep hk h0, h.lo, h.how⟩
theorem Grown.below {W W' : World} {base size B : Nat} {v0 v : Value} {xs ys : List (List Value)} (h : Grown W base size B v0 xs v ys) (hb : Below W.heap.size W W') : Grown W' base size B v0 xs v ys :=
  h.keep (Keeps.of_below (X := fun _ => False) hb) (fun _ _ h => h) (fun _ _ h => h)
/-- Where its block is: that of the one that it began as, or a new one. -/
theorem Grown.block {W : World} {base size B : Nat} {v0 v : Value} {xs ys : List (List Value)} (h : Grown W base size B v0 xs v ys) : ∀ k, v.ownBlock = some k → v0.ownBlock = some k ∨ B ≤ k := by
  intro k hk
  rcases h.how with ⟨a, cap, h0, h1⟩ | ⟨b, h1, h2⟩
  · left
    rw [h0]
    rw [h1] at hk
    cases a with
    | none => cases hk
    | some a => exact hk
  · rw [h1] at hk
    right
    simp only [Option.some.injEq] at hk
    omega
section
variable {P : Program}
/-- One element more. -/
theorem wp_append_grown {w : World} {o : Oper} {a : Act} {K : Act → World → Prop} {Q : Exit → Act → World → Prop} (s x : Operand) (t : TypeId)
    (ho : o.op = .call { callee := .builtin .append, args := #[s, x], argTypes := #[t, t] })
    (e : TypeId) (i : TypeInfo) (z : Value) (size bytes : Nat) (ht : P.underlying t = some (.slice e)) (hi : P.info? e = some i) (hz : i.zero = some z)
    (hsize : i.size = size) (hby : i.bytes = bytes) (hzs : z.cells.size = size) (hsz : 0 < size) (hb2 : bytes ≤ 1000000)
    {base B : Nat} {v0 v : Value} {xs ys : List (List Value)} (hs : a.eval s = v) (hG : Grown w base size B v0 xs v ys) (hbB : base ≤ B) (hB : B ≤ w.heap.size)
    (ad : Addr) (c : Nat) (y : List Value) (hx : a.eval x = .slice (some ad) 1 c) (hy : y.length = size) (hc : ∀ j u, y[j]? = some u → w.cell? (ad.add j) = some u) (h1 : ∀ u ∈ y, u.oneCell' = true)
    (hl : xs.length + ys.length < 1000000)
    (h : ∀ v' w', Grown w' base size B v0 xs v' (ys ++ [y]) → Keeps (fun k => v0.ownBlock = some k ∨ B ≤ k) w w' → (∃ a c, v' = .slice a (xs.length + ys.length + 1) c) → K (a.put o.dst v') w') : o.wp P a w K Q := by
  have hlY : ∀ z ∈ xs ++ (ys ++ [y]), z.length = size := fun z hz => by
    rw [← List.append_assoc] at hz
    rcases List.mem_append.1 hz with h | h
    · exact hG.now.each z h
    · rw [List.mem_singleton.1 h]; exact hy
  have hfl : ((xs ++ (ys ++ [y])).flatten) = (xs ++ ys).flatten ++ y := by simp
  have hlen : (xs ++ ys).length = xs.length + ys.length := List.length_append
  have hlf := length_flat hG.now.each
  -- a new row
  have new : ∀ v' w', w'.ownsRow w.heap.size e size v' ((xs ++ ys).length + 1) ((xs ++ ys).flatten ++ y) → w.grownBy w' none → K (a.put o.dst v') w' := by
    intro v' w' r1 r2
    have hk : Keeps (fun _ => False) w w' := Keeps.of_grown r2 (fun k hk => by cases hk)
    rw [← hfl] at r1
    have hlie := lie_own r1 (by simp; omega) hlY
    have hform : ∃ a c, v' = .slice a (xs.length + ys.length + 1) c := by
      obtain ⟨a, c, h⟩ := hlie.form
      exact ⟨a, c, by rw [h]; congr 1; simp; omega⟩
    have hblk : ∃ b, v'.ownBlock = some b ∧ w.heap.size ≤ b := by
      rcases r1.2 with ⟨_, h0⟩ | ⟨g, cap, cur, rfl, hb, _⟩
      · omega
      · exact ⟨g, rfl, hb⟩
    obtain ⟨b, hb, hb'⟩ := hblk
    exact h v' w' ⟨hlie.mono (Nat.le_trans hbB hB), hG.old.keep hk (fun _ _ h => h), hG.lo, .inr ⟨b, hb, Nat.le_trans hB hb'⟩⟩ (hk.mono fun _ h => h.elim) hform
  have hm1 : (xs ++ ys).length + 1 ≤ maxLen := by rw [hlen]; unfold maxLen; omega
  have hm2 : ((xs ++ ys).length + 1) * bytes ≤ 140737488355328 := by
    have : ((xs ++ ys).length + 1) * bytes ≤ 1000000 * 1000000 := Nat.mul_le_mul (by omega) hb2
    omega
  rcases hG.now with ⟨hv, h0⟩ | ⟨g, cap, hv, hb, hg, hnc, hcm, hr, hth, hle⟩
  · obtain ⟨v', w', hrun, r1, r2, _⟩ := run_append_own (P := P) w w.heap.size t o.type e i z size bytes ht hi hz hsize hby hzs hsz (.slice none 0 0) 0 [] (World.ownsRow_nil w _ e size) ad 1 c y (by omega) hc h1 (by unfold maxLen; omega) (by omega) (Nat.le_refl _)
    rw [hv] at hs
    unfold Oper.wp
    simp [execOp, ho, resolve, invoke, builtin, hs, hx, hrun, Result.andThen]
    rw [h0] at new
    exact new v' w' (by simpa using r1) r2
  · by_cases hroom : (xs ++ ys).length + 1 ≤ cap
    · subst hsize
      have hkc : (xs ++ ys).length * i.size + i.size ≤ cap * i.size := by
        have : ((xs ++ ys).length + 1) * i.size ≤ cap * i.size := Nat.mul_le_mul_right _ hroom
        rwa [Nat.add_mul, Nat.one_mul] at this
      have hrun := run_append_room_cells (P := P) w t o.type e i ht hi g 0 (xs ++ ys).length cap ad 1 c y (by rw [hy, Nat.one_mul]) hc h1 hroom
        (fun j hj => by have := (hth ((xs ++ ys).length * i.size + j) (by omega)).1; rwa [← Nat.add_assoc] at this) (fun j hj => by have := (hth ((xs ++ ys).length * i.size + j) (by omega)).2; rwa [← Nat.add_assoc] at this)
      have hs' := hs
      rw [hv] at hs'
      unfold Oper.wp
      simp only [execOp, ho, resolve, invoke, builtin, List.map_toArray, List.map_cons, List.map_nil, hs', hx, Sem.run_bind, Sem.run_pure, Result.andThen_ok, hrun]
      rw [Nat.zero_add]
      have hk : Keeps (fun k => k = g) w (w.setCells g ((xs ++ ys).length * i.size) y) := by
        have : ∀ (vs : List Value) (o : Nat) (w : World), Keeps (fun k => k = g) w (w.setCells g o vs) := by
          intro vs
          induction vs with
          | nil => intro o w; exact Keeps.refl _ _
          | cons v r ih =>
            intro o w
            rw [World.setCells]
            exact ((Keeps.refl (fun k => k = g) w).setCell (p := ⟨g, o, none⟩) (.inl rfl) v).trans (ih (o + 1) _)
        exact this _ _ _
      have hnow : Lie (w.setCells g ((xs ++ ys).length * i.size) y) base i.size (.slice (some ⟨g, 0, none⟩) ((xs ++ ys).length + 1) cap) (xs ++ (ys ++ [y])) := by
        refine .inr ⟨g, cap, by congr 1; simp; omega, hb, by rw [size_setCells]; exact hg, by simp; simp at hroom; omega, hcm, ?_, World.there_setCells hth _ _ _, hlY⟩
        rw [hfl]
        refine range_append.2 ⟨World.rangeAt_setCells_apart hr _ _ _ (.inr (.inl (by rw [hlf]; omega))), ?_⟩
        rw [Nat.zero_add, hlf]
        refine range_stored _ _ _ _ (World.there_setCells (fun j hj => ?_) _ _ _)
        have := hth ((xs ++ ys).length * i.size + j) (by omega)
        rwa [Nat.zero_add] at this
      have hg0 : v0.ownBlock = some g ∨ B ≤ g := hG.block g (by rw [hv]; rfl)
      refine h _ _ ⟨hnow, ?_, hG.lo, ?_⟩ (hk.mono fun k hk => by subst hk; exact hg0) ⟨_, _, by rw [hlen]⟩
      · rcases hG.how with ⟨a', cap', e0, e1⟩ | ⟨b, e1, e2⟩
        · rw [hv] at e1
          simp only [Value.slice.injEq] at e1
          obtain ⟨rfl, _, rfl⟩ := e1
          rw [e0]
          refine Lie.front (m := ys.length + 1) (ys := ys ++ [y]) ?_ rfl
          have e : (xs ++ ys).length + 1 = xs.length + (ys.length + 1) := by rw [hlen, Nat.add_assoc]
          rw [← e]
          exact hnow
        · refine hG.old.keep hk (fun k hk2 e => ?_)
          subst e
          have hlt := hG.lo _ hk2
          rw [hv] at e1
          simp only [Value.ownBlock, Option.some.injEq] at e1
          omega
      · rcases hG.how with ⟨a', cap', e0, e1⟩ | ⟨b, e1, e2⟩
        · rw [hv] at e1
          simp only [Value.slice.injEq] at e1
          obtain ⟨rfl, _, rfl⟩ := e1
          exact .inl ⟨_, _, e0, by rw [hlen, List.length_append, List.length_singleton, Nat.add_assoc]⟩
        · exact .inr ⟨b, by rw [← e1, hv]; rfl, e2⟩
    · obtain ⟨v', w', hrun, r1, r2⟩ := run_append_arg_grows (P := P) w t o.type e i z size bytes ht hi hz hsize hby hzs hsz ⟨g, 0, none⟩ (xs ++ ys).length cap (xs ++ ys).flatten hlf (fun j u hj => by rw [Addr.add_lit]; exact hr j u hj) ad 1 c y (by rw [hy, Nat.one_mul]) hc (by omega) hm1 hm2
      rw [hv] at hs
      unfold Oper.wp
      simp only [execOp, ho, resolve, invoke, builtin, List.map_toArray, List.map_cons, List.map_nil, hs, hx, Sem.run_bind, Sem.run_pure, Result.andThen_ok, hrun]
      exact new v' w' r1 r2
end
end Alm
