/-
  Joined: BL1, BL2.
-/
import Derived.Test.YtfmgoehnbaiamaaGreatDoorZAO
import Derived.ArgAppend
-- Plain: a list that lies in memory with its room (Lie), written over, appended to.
open Go Go.RowKit
namespace Alm
/-- A list of elements of so many cells each, in one block, with room behind it that is there and free. -/
def Lie (W : World) (base size : Nat) (v : Value) (xs : List (List Value)) : Prop :=
  (v = .slice none 0 0 ∧ xs = []) ∨ ∃ g cap, v = .slice (some ⟨g, 0, none⟩) xs.length cap ∧ base ≤ g ∧ g < W.heap.size ∧ xs.length ≤ cap ∧ cap ≤ maxLen ∧ W.rangeAt g 0 xs.flatten ∧ W.there g 0 (cap * size) ∧ ∀ x ∈ xs, x.length = size
theorem Lie.form {W : World} {base size : Nat} {v : Value} {xs : List (List Value)} (h : Lie W base size v xs) : ∃ a cap, v = .slice a xs.length cap := by
  rcases h with ⟨rfl, rfl⟩ | ⟨g, cap, rfl, _⟩
  · exact ⟨none, 0, rfl⟩
  · exact ⟨_, _, rfl⟩
theorem Lie.lt {W : World} {base size : Nat} {v : Value} {xs : List (List Value)} (h : Lie W base size v xs) : ∀ k, v.ownBlock = some k → base ≤ k ∧ k < W.heap.size := by
  intro k hk
  rcases h with ⟨rfl, _⟩ | ⟨g, cap, rfl, hb, hg, _⟩
  · cases hk
  · obtain rfl : g = k := by simpa [Value.ownBlock] using hk
    exact ⟨hb, hg⟩
theorem Lie.each {W : World} {base size : Nat} {v : Value} {xs : List (List Value)} (h : Lie W base size v xs) : ∀ x ∈ xs, x.length = size := by
  rcases h with ⟨_, rfl⟩ | ⟨g, cap, _, _, _, _, _, _, _, hl⟩
  · intro x hx; cases hx
  · exact hl
theorem length_flat {size : Nat} : ∀ {xs : List (List Value)}, (∀ x ∈ xs, x.length = size) → xs.flatten.length = xs.length * size
  | [], _ => by simp
  | x :: xs, h => by
    rw [List.flatten_cons, List.length_append, h x (by simp), length_flat (fun y hy => h y (by simp [hy])), List.length_cons, Nat.add_mul, Nat.one_mul, Nat.add_comm]
theorem Lie.keep {X : Nat → Prop} {W W' : World} {base size : Nat} {v : Value} {xs : List (List Value)} (h : Lie W base size v xs) (hk : Keeps X W W') (hx : ∀ k, v.ownBlock = some k → ¬ X k) : Lie W' base size v xs := by
  rcases h with h | ⟨g, cap, hv, hb, hg, hnc, hcm, hr, ht, hl⟩
  · exact .inl h
  · have hxg : ¬ X g := hx g (by rw [hv]; rfl)
    refine .inr ⟨g, cap, hv, hb, Nat.lt_of_lt_of_le hg hk.size, hnc, hcm, hk.range hr hxg, ?_, hl⟩
    rcases Nat.eq_zero_or_pos (cap * size) with h0 | h0
    · rw [h0]; intro j hj; omega
    · exact hk.there ht h0 hxg
theorem Lie.below {W W' : World} {base size : Nat} {v : Value} {xs : List (List Value)} (h : Lie W base size v xs) (hb : Below W.heap.size W W') : Lie W' base size v xs := h.keep (Keeps.of_below (X := fun _ => False) hb) (fun _ _ h => h)
theorem Lie.mono {W : World} {base base' size : Nat} {v : Value} {xs : List (List Value)} (h : Lie W base size v xs) (hb : base' ≤ base) : Lie W base' size v xs := by
  rcases h with h | ⟨g, cap, hv, h1, r⟩
  · exact .inl h
  · exact .inr ⟨g, cap, hv, Nat.le_trans hb h1, r⟩
theorem flat_split {size : Nat} {xs : List (List Value)} (h : ∀ x ∈ xs, x.length = size) {k : Nat} (hk : k < xs.length) : xs.flatten = (xs.take k).flatten ++ (xs[k] ++ (xs.drop (k + 1)).flatten) ∧ (xs.take k).flatten.length = k * size := by
  constructor
  · conv => lhs; rw [← List.take_append_drop k xs, List.drop_eq_getElem_cons hk]
    rw [List.flatten_append, List.flatten_cons]
  · rw [length_flat (fun x hx => h x (List.mem_of_mem_take hx)), List.length_take, Nat.min_eq_left (by omega)]
/-- An element of it is written over. -/
theorem Lie.set {W : World} {base size g n cap : Nat} {xs : List (List Value)} (h : Lie W base size (.slice (some ⟨g, 0, none⟩) n cap) xs) {k : Nat} (hk : k < xs.length) {c : List Value} (hc : c.length = size) : Lie (W.setCells g (k * size) c) base size (.slice (some ⟨g, 0, none⟩) n cap) (xs.set k c) := by
  rcases h with ⟨h0, _⟩ | ⟨g', cap', hv, hb, hg, hnc, hcm, hr, ht, hl⟩
  · cases h0
  · simp only [Value.slice.injEq, Option.some.injEq, Addr.mk.injEq, and_true] at hv
    obtain ⟨rfl, rfl, rfl⟩ := hv
    obtain ⟨e1, e2⟩ := flat_split hl hk
    have hkc : k * size + size ≤ cap * size := by
      have : (k + 1) * size ≤ cap * size := Nat.mul_le_mul_right _ (by omega)
      rwa [Nat.add_mul, Nat.one_mul] at this
    have hl' : ∀ x ∈ xs.set k c, x.length = size := fun x hx => by
      rcases List.mem_or_eq_of_mem_set hx with h | h
      · exact hl x h
      · rw [h]; exact hc
    have hk' : k < (xs.set k c).length := by rw [List.length_set]; exact hk
    obtain ⟨f1, f2⟩ := flat_split hl' hk'
    refine .inr ⟨g, cap, by rw [List.length_set], hb, by rw [size_setCells]; exact hg, by rw [List.length_set]; exact hnc, hcm, ?_, World.there_setCells ht _ _ _, hl'⟩
    rw [f1, List.take_set_of_le (Nat.le_refl k), List.getElem_set_self, List.drop_set_of_lt (by omega)]
    rw [e1] at hr
    obtain ⟨r1, r2⟩ := range_append.1 hr
    obtain ⟨r3, r4⟩ := range_append.1 r2
    rw [hl xs[k] (List.getElem_mem hk)] at r4
    rw [Nat.zero_add, e2] at r4
    refine range_append.2 ⟨World.rangeAt_setCells_apart r1 _ _ _ (.inr (.inl (by rw [e2]; omega))), range_append.2 ⟨?_, ?_⟩⟩
    · rw [e2, Nat.zero_add]
      refine range_stored _ _ _ _ (World.there_setCells (fun j hj => ?_) _ _ _)
      have := ht (k * size + j) (by omega)
      rwa [Nat.zero_add] at this
    · rw [e2, Nat.zero_add, hc]
      exact World.rangeAt_setCells_apart r4 _ _ _ (.inr (.inr (by rw [hc]; exact Nat.le_refl _)))
theorem Lie.front {W : World} {base size n m cap : Nat} {a : Option Addr} {xs ys : List (List Value)} (h : Lie W base size (.slice a (n + m) cap) (xs ++ ys)) (hn : xs.length = n) : Lie W base size (.slice a n cap) xs := by
  rcases h with ⟨h0, h1⟩ | ⟨g, cap', hv, hb, hg, hnc, hcm, hr, ht, hl⟩
  · obtain ⟨rfl, rfl⟩ := List.append_eq_nil_iff.1 h1
    simp only [Value.slice.injEq] at h0
    obtain ⟨rfl, h2, rfl⟩ := h0
    exact .inl ⟨by congr 1; exact hn.symm, rfl⟩
  · simp only [Value.slice.injEq] at hv
    obtain ⟨rfl, hnm, rfl⟩ := hv
    rw [List.length_append] at hnc hnm
    rw [List.flatten_append] at hr
    exact .inr ⟨g, cap, by rw [hn], hb, hg, by omega, hcm, (range_append.1 hr).1, ht, fun x hx => hl x (by simp [hx])⟩
/-- An own row is such a list. -/
theorem lie_own {W : World} {base size n : Nat} {e : TypeId} {v : Value} {xs : List (List Value)} (h : W.ownsRow base e size v n xs.flatten) (hn : xs.length = n) (hl : ∀ x ∈ xs, x.length = size) : Lie W base size v xs := by
  rcases h.2 with ⟨rfl, h0⟩ | ⟨g, cap, cur, rfl, hb, hg, hnc, hcm, hsz, htk⟩
  · exact .inl ⟨rfl, List.eq_nil_of_length_eq_zero (by omega)⟩
  · refine .inr ⟨g, cap, by rw [hn], hb, (Array.getElem?_eq_some_iff.1 hg).1, by omega, hcm, fun j v hj => ?_, fun j hj => ⟨?_, frozen_of_row W g _ _ _ hg⟩, hl⟩
    · rw [cell_of_row W g _ cur e (0, 0) hg, Nat.zero_add]
      rw [← htk, List.getElem?_take] at hj
      split at hj
      · simpa using hj
      · cases hj
    · rw [cell_of_row W g (0 + j) _ _ (0, 0) hg, Nat.zero_add, Array.getElem?_eq_getElem (by omega)]
      rfl
/-- A longer list that began as another one: in its room, or in a block of its own. -/
structure Grown (W : World) (base size B : Nat) (v0 : Value) (xs : List (List Value)) (v : Value) (ys : List (List Value)) : Prop where
  now : Lie W base size v (xs ++ ys)
  old : Lie W base size v0 xs
  lo : ∀ k, v0.ownBlock = some k → k < B
  how : (∃ a cap, v0 = .slice a xs.length cap ∧ v = .slice a (xs.length + ys.length) cap) ∨ ∃ b, v.ownBlock = some b ∧ B ≤ b
theorem Grown.start {W : World} {base size B : Nat} {v : Value} {xs : List (List Value)} (h : Lie W base size v xs) (hB : W.heap.size ≤ B) : Grown W base size B v xs v [] := by
  obtain ⟨a, cap, hv⟩ := h.form
  exact ⟨by rw [List.append_nil]; exact h, h, fun k hk => Nat.lt_of_lt_of_le (h.lt k hk).2 hB, .inl ⟨a, cap, hv, hv⟩⟩
theorem Grown.keep {X : Nat → Prop} {W W' : World} {base size B : Nat} {v0 v : Value} {xs ys : List (List Value)} (h : Grown W base size B v0 xs v ys) (hk : Keeps X W W') (h0 : ∀ k, v0.ownBlock = some k → ¬ X k) (h1 : ∀ k, v.ownBlock = some k → ¬ X k) : Grown W' base size B v0 xs v ys :=
  ⟨h.now.keep hk h1, h.old.keep hk h0, h.lo, h.how⟩
theorem Grown.below {W W' : World} {base size B : Nat} {v0 v : Value} {xs ys : List (List Value)} (h : Grown W base size B v0 xs v ys) (hb : Below W.heap.size W W') : Grown W' base size B v0 xs v ys :=
  h.keep (Keeps.of_below (X := fun _ => False) hb) (fun _ _ h => h) (fun _ _ h => h)
/-- Where its block is: that of the one that it began as, or a new one. -/
theorem Grown.block {W : World} {base size B : Nat} {v0 v : Value} {xs ys : List (List Value)} (h : Grown W base size B v0 xs v ys) : ∀ k, v.ownBlock = some k → v0.ownBlock = some k ∨ B ≤ k := by
  intro k hk
  rcases h.how with ⟨a, cap, h0, h1⟩ | ⟨b, h1, h2⟩
  · left
    rw [h0]
    rw [h1] at hk
    cases a with
    | none => cases hk
    | some a => exact hk
  · rw [h1] at hk
    right
    simp only [Option.some.injEq] at hk
    omega
section
variable {P : Program}
/-- One element more. -/
theorem wp_append_grown {w : World} {o : Oper} {a : Act} {K : Act → World → Prop} {Q : Exit → Act → World → Prop} (s x : Operand) (t : TypeId)
    (ho : o.op = .call { callee := .builtin .append, args := #[s, x], argTypes := #[t, t] })
    (e : TypeId) (i : TypeInfo) (z : Value) (size bytes : Nat) (ht : P.underlying t = some (.slice e)) (hi : P.info? e = some i) (hz : i.zero = some z)
    (hsize : i.size = size) (hby : i.bytes = bytes) (hzs : z.cells.size = size) (hsz : 0 < size) (hb2 : bytes ≤ 1000000)
    {base B : Nat} {v0 v : Value} {xs ys : List (List Value)} (hs : a.eval s = v) (hG : Grown w base size B v0 xs v ys) (hbB : base ≤ B) (hB : B ≤ w.heap.size)
    (ad : Addr) (c : Nat) (y : List Value) (hx : a.eval x = .slice (some ad) 1 c) (hy : y.length = size) (hc : ∀ j u, y[j]? = some u → w.cell? (ad.add j) = some u) (h1 : ∀ u ∈ y, u.oneCell' = true)
    (hl : xs.length + ys.length < 1000000)
    (h : ∀ v' w', Grown w' base size B v0 xs v' (ys ++ [y]) → Keeps (fun k => v0.ownBlock = some k ∨ B ≤ k) w w' → (∃ a c, v' = .slice a (xs.length + ys.length + 1) c) → K (a.put o.dst v') w') : o.wp P a w K Q := by
  have hlY : ∀ z ∈ xs ++ (ys ++ [y]), z.length = size := fun z hz => by
    rw [← List.append_assoc] at hz
    rcases List.mem_append.1 hz with h | h
    · exact hG.now.each z h
    · rw [List.mem_singleton.1 h]; exact hy
  have hfl : ((xs ++ (ys ++ [y])).flatten) = (xs ++ ys).flatten ++ y := by simp
  have hlen : (xs ++ ys).length = xs.length + ys.length := List.length_append
  have hlf := length_flat hG.now.each
  -- a new row
  have new : ∀ v' w', w'.ownsRow w.heap.size e size v' ((xs ++ ys).length + 1) ((xs ++ ys).flatten ++ y) → w.grownBy w' none → K (a.put o.dst v') w' := by
    intro v' w' r1 r2
    have hk : Keeps (fun _ => False) w w' := Keeps.of_grown r2 (fun k hk => by cases hk)
    rw [← hfl] at r1
    have hlie := lie_own r1 (by simp; omega) hlY
    have hform : ∃ a c, v' = .slice a (xs.length + ys.length + 1) c := by
      obtain ⟨a, c, h⟩ := hlie.form
      exact ⟨a, c, by rw [h]; congr 1; simp; omega⟩
    have hblk : ∃ b, v'.ownBlock = some b ∧ w.heap.size ≤ b := by
      rcases r1.2 with ⟨_, h0⟩ | ⟨g, cap, cur, rfl, hb, _⟩
      · omega
      · exact ⟨g, rfl, hb⟩
    obtain ⟨b, hb, hb'⟩ := hblk
    exact h v' w' ⟨hlie.mono (Nat.le_trans hbB hB), hG.old.keep hk (fun _ _ h => h), hG.lo, .inr ⟨b, hb, Nat.le_trans hB hb'⟩⟩ (hk.mono fun _ h => h.elim) hform
  have hm1 : (xs ++ ys).length + 1 ≤ maxLen := by rw [hlen]; unfold maxLen; omega
  have hm2 : ((xs ++ ys).length + 1) * bytes ≤ 140737488355328 := by
    have : ((xs ++ ys).length + 1) * bytes ≤ 1000000 * 1000000 := Nat.mul_le_mul (by omega) hb2
    omega
  rcases hG.now with ⟨hv, h0⟩ | ⟨g, cap, hv, hb, hg, hnc, hcm, hr, hth, hle⟩
  · obtain ⟨v', w', hrun, r1, r2, _⟩ := run_append_own (P := P) w w.heap.size t o.type e i z size bytes ht hi hz hsize hby hzs hsz (.slice none 0 0) 0 [] (World.ownsRow_nil w _ e size) ad 1 c y (by omega) hc h1 (by unfold maxLen; omega) (by omega) (Nat.le_refl _)
    rw [hv] at hs
    unfold Oper.wp
    simp [execOp, ho, resolve, invoke, builtin, hs, hx, hrun, Result.andThen]
    rw [h0] at new
    exact new v' w' (by simpa using r1) r2
  · by_cases hroom : (xs ++ ys).length + 1 ≤ cap
    · subst hsize
      have hkc : (xs ++ ys).length * i.size + i.size ≤ cap * i.size := by
        have : ((xs ++ ys).length + 1) * i.size ≤ cap * i.size := Nat.mul_le_mul_right _ hroom
        rwa [Nat.add_mul, Nat.one_mul] at this
      have hrun := run_append_room_cells (P := P) w t o.type e i ht hi g 0 (xs ++ ys).length cap ad 1 c y (by rw [hy, Nat.one_mul]) hc h1 hroom
        (fun j hj => by have := (hth ((xs ++ ys).length * i.size + j) (by omega)).1; rwa [← Nat.add_assoc] at this) (fun j hj => by have := (hth ((xs ++ ys).length * i.size + j) (by omega)).2; rwa [← Nat.add_assoc] at this)
      have hs' := hs
      rw [hv] at hs'
      unfold Oper.wp
      simp only [execOp, ho, resolve, invoke, builtin, List.map_toArray, List.map_cons, List.map_nil, hs', hx, Sem.run_bind, Sem.run_pure, Result.andThen_ok, hrun]
      rw [Nat.zero_add]
      have hk : Keeps (fun k => k = g) w (w.setCells g ((xs ++ ys).length * i.size) y) := by
        have : ∀ (vs : List Value) (o : Nat) (w : World), Keeps (fun k => k = g) w (w.setCells g o vs) := by
          intro vs
          induction vs with
          | nil => intro o w; exact Keeps.refl _ _
          | cons v r ih =>
            intro o w
            rw [World.setCells]
            exact ((Keeps.refl (fun k => k = g) w).setCell (p := ⟨g, o, none⟩) (.inl rfl) v).trans (ih (o + 1) _)
        exact this _ _ _
      have hnow : Lie (w.setCells g ((xs ++ ys).length * i.size) y) base i.size (.slice (some ⟨g, 0, none⟩) ((xs ++ ys).length + 1) cap) (xs ++ (ys ++ [y])) := by
        refine .inr ⟨g, cap, by congr 1; simp; omega, hb, by rw [size_setCells]; exact hg, by simp; simp at hroom; omega, hcm, ?_, World.there_setCells hth _ _ _, hlY⟩
        rw [hfl]
        refine range_append.2 ⟨World.rangeAt_setCells_apart hr _ _ _ (.inr (.inl (by rw [hlf]; omega))), ?_⟩
        rw [Nat.zero_add, hlf]
        refine range_stored _ _ _ _ (World.there_setCells (fun j hj => ?_) _ _ _)
        have := hth ((xs ++ ys).length * i.size + j) (by omega)
        rwa [Nat.zero_add] at this
      have hg0 : v0.ownBlock = some g ∨ B ≤ g := hG.block g (by rw [hv]; rfl)
      refine h _ _ ⟨hnow, ?_, hG.lo, ?_⟩ (hk.mono fun k hk => by subst hk; exact hg0) ⟨_, _, by rw [hlen]⟩
      · rcases hG.how with ⟨a', cap', e0, e1⟩ | ⟨b, e1, e2⟩
        · rw [hv] at e1
          simp only [Value.slice.injEq] at e1
          obtain ⟨rfl, _, rfl⟩ := e1
          rw [e0]
          refine Lie.front (m := ys.length + 1) (ys := ys ++ [y]) ?_ rfl
          have e : (xs ++ ys).length + 1 = xs.length + (ys.length + 1) := by rw [hlen, Nat.add_assoc]
          rw [← e]
          exact hnow
        · refine hG.old.keep hk (fun k hk2 e => ?_)
          subst e
          have hlt := hG.lo _ hk2
          rw [hv] at e1
          simp only [Value.ownBlock, Option.some.injEq] at e1
          omega
      · rcases hG.how with ⟨a', cap', e0, e1⟩ | ⟨b, e1, e2⟩
        · rw [hv] at e1
          simp only [Value.slice.injEq] at e1
          obtain ⟨rfl, _, rfl⟩ := e1
          exact .inl ⟨_, _, e0, by rw [hlen, List.length_append, List.length_singleton, Nat.add_assoc]⟩
        · exact .inr ⟨b, by rw [← e1, hv]; rfl, e2⟩
    · obtain ⟨v', w', hrun, r1, r2⟩ := run_append_arg_grows (P := P) w t o.type e i z size bytes ht hi hz hsize hby hzs hsz ⟨g, 0, none⟩ (xs ++ ys).length cap (xs ++ ys).flatten hlf (fun j u hj => by rw [Addr.add_lit]; exact hr j u hj) ad 1 c y (by rw [hy, Nat.one_mul]) hc (by omega) hm1 hm2
      rw [hv] at hs
      unfold Oper.wp
      simp only [execOp, ho, resolve, invoke, builtin, List.map_toArray, List.map_cons, List.map_nil, hs, hx, Sem.run_bind, Sem.run_pure, Result.andThen_ok, hrun]
      exact new v' w' r1 r2
end
end Alm
-- Plain: what a Book holds: lists of one kind, written over, then grown.
namespace Alm
/-- What is held: the list, the longer one, its number. -/
abbrev Held := Value × Value × Nat
def cellsH (h : Held) : List Value := [h.1, h.2.1, .int .i64 ((h.2.2 : Nat) : Int)]
def cellsHs (l : List Held) : List Value := l.flatMap cellsH
theorem length_cellsH (h : Held) : (cellsH h).length = 3 := rfl
theorem length_cellsHs (l : List Held) : (cellsHs l).length = 3 * l.length := by
  induction l with
  | nil => rfl
  | cons x l ih => rw [cellsHs, List.flatMap_cons, List.length_append, length_cellsH]; rw [cellsHs] at ih; rw [ih, List.length_cons]; omega
theorem cellsHs_append (a b : List Held) : cellsHs (a ++ b) = cellsHs a ++ cellsHs b := by simp [cellsHs]
theorem cellsHs_one (h : Held) : cellsHs [h] = cellsH h := by simp [cellsHs]
theorem keepsC (b : Nat) : ∀ (vs : List Value) (o : Nat) (w : World), Keeps (· = b) w (w.setCells b o vs)
  | [], _, _ => Keeps.refl _ _
  | v :: r, o, w => by
    rw [World.setCells]
    exact ((Keeps.refl (· = b) w).setCell (p := ⟨b, o, none⟩) (.inl rfl) v).trans (keepsC b r (o + 1) _)
theorem cell_range {W : World} {b o : Nat} {v : Value} (h : W.cell? ⟨b, o, none⟩ = some v) : W.rangeAt b o [v] := fun j u hj => by
  cases j with
  | zero =>
    simp only [List.getElem?_cons_zero, Option.some.injEq] at hj
    rw [← hj]; exact h
  | succ j => simp at hj
/-- A Book at q: how many it has numbered, and its nine lists. -/
structure Book (W : World) (q n : Nat) (F : Nat → Value) : Prop where
  th : W.there q 0 10
  cn : W.cell? ⟨q, 0, none⟩ = some (.int .i64 ((n : Nat) : Int))
  cs : ∀ j, 1 ≤ j → j < 10 → W.cell? ⟨q, j, none⟩ = some (F j)
theorem Book.lt {W : World} {q n : Nat} {F : Nat → Value} (h : Book W q n F) : q < W.heap.size := there_lt h.th (by omega)
theorem Book.keep {X : Nat → Prop} {W W' : World} {q n : Nat} {F : Nat → Value} (h : Book W q n F) (hk : Keeps X W W') (hq : ¬ X q) : Book W' q n F :=
  ⟨hk.there h.th (by decide) hq, hk.cell h.cn hq, fun j h1 h2 => hk.cell (h.cs j h1 h2) hq⟩
theorem Book.below {W W' : World} {q n : Nat} {F : Nat → Value} (h : Book W q n F) (hb : Below W.heap.size W W') : Book W' q n F := h.keep (Keeps.of_below (X := fun _ => False) hb) (fun h => h)
theorem Book.count {W : World} {q n : Nat} {F : Nat → Value} (h : Book W q n F) (m : Nat) : Book (W.setCell ⟨q, 0, none⟩ (.int .i64 ((m : Nat) : Int))) q m F := by
  have ht := World.there_setCells h.th q 0 [.int .i64 ((m : Nat) : Int)]
  refine ⟨ht, ?_, fun j h1 h2 => ?_⟩
  · exact range_stored q [.int .i64 ((m : Nat) : Int)] 0 W (fun j hj => by have := ht j (by simp at hj; omega); exact this) 0 _ rfl
  · exact World.rangeAt_setCells_apart (cell_range (h.cs j h1 h2)) q 0 [.int .i64 ((m : Nat) : Int)] (by right; right; simpa using h1) 0 _ rfl
/-- One of its lists is another one. -/
def put (F : Nat → Value) (k : Nat) (v : Value) : Nat → Value := fun j => if j = k then v else F j
theorem put_self (F : Nat → Value) (k : Nat) (v : Value) : put F k v k = v := if_pos rfl
theorem put_other (F : Nat → Value) {j k : Nat} (v : Value) (h : j ≠ k) : put F k v j = F j := if_neg h
theorem Book.list {W : World} {q n : Nat} {F : Nat → Value} (h : Book W q n F) {k : Nat} (h1 : 1 ≤ k) (h2 : k < 10) (v : Value) : Book (W.setCell ⟨q, k, none⟩ v) q n (put F k v) := by
  have ht := World.there_setCells h.th q k [v]
  refine ⟨ht, ?_, fun j h3 h4 => ?_⟩
  · exact World.rangeAt_setCells_apart (cell_range h.cn) q k [v] (by right; left; simpa using h1) 0 _ rfl
  · by_cases e : j = k
    · subst e
      rw [put_self]
      exact range_stored q [v] j W (fun i hi => by have := ht (j + i) (by simp at hi; omega); rwa [Nat.zero_add] at this) 0 _ rfl
    · rw [put_other F v e]
      exact World.rangeAt_setCells_apart (cell_range (h.cs j h3 h4)) q k [v] (by right; simp; omega) 0 _ rfl
/-- The list that is held at a place; the longer one; its number; the block of each. -/
def hd (H : List Held) (i : Nat) : Held := H.getD i (.slice none 0 0, .slice none 0 0, 0)
def lst (H : List Held) (i : Nat) : Value := (hd H i).1
def lng (H : List Held) (i : Nat) : Value := (hd H i).2.1
def num (H : List Held) (i : Nat) : Nat := (hd H i).2.2
/-- A row of what is held, in a block of its own. -/
def Row3 (W : World) (t : TypeId) (base q : Nat) (hv : Value) (H : List Held) : Prop := W.ownsRow base t 3 hv H.length (cellsHs H) ∧ hv.ownBlock ≠ some q
theorem Row3.keep {X : Nat → Prop} {W W' : World} {t : TypeId} {base q : Nat} {hv : Value} {H : List Held} (h : Row3 W t base q hv H) (hk : Keeps X W W') (hx : ∀ k, hv.ownBlock = some k → ¬ X k) : Row3 W' t base q hv H := ⟨hk.owns h.1 hx, h.2⟩
theorem Row3.below {W W' : World} {t : TypeId} {base q : Nat} {hv : Value} {H : List Held} (h : Row3 W t base q hv H) (hb : Below W.heap.size W W') : Row3 W' t base q hv H := h.keep (Keeps.of_below (X := fun _ => False) hb) (fun _ _ h => h)
theorem Row3.form {W : World} {t : TypeId} {base q : Nat} {hv : Value} {H : List Held} (h : Row3 W t base q hv H) : ∃ a c, hv = .slice a H.length c := by
  rcases h.1.2 with ⟨h1, h2⟩ | ⟨g, cap, cur, h1, _⟩
  · exact ⟨none, 0, by rw [h2]; exact h1⟩
  · exact ⟨_, _, h1⟩
theorem own_lies {w : World} {base : Nat} {e : TypeId} {size : Nat} {v : Value} {n : Nat} {xs : List Value} (h : w.ownsRow base e size v n xs) (hn : 1 ≤ n) : ∃ g cap, v = .slice (some ⟨g, 0, none⟩) n cap ∧ n ≤ cap ∧ cap ≤ maxLen ∧ base ≤ g ∧ g < w.heap.size ∧ w.rangeAt g 0 xs := by
  rcases h.2 with ⟨rfl, h0⟩ | ⟨g, cap, cur, rfl, h4, hg, hnc, hcm, hsz, htk⟩
  · omega
  · refine ⟨g, cap, rfl, hnc, hcm, h4, (Array.getElem?_eq_some_iff.1 hg).1, fun j v hj => ?_⟩
    rw [cell_of_row w g _ cur e (0, 0) hg, Nat.zero_add]
    rw [← htk, List.getElem?_take] at hj
    split at hj
    · simpa using hj
    · cases hj
theorem held_at {W : World} {g o : Nat} : ∀ {H : List Held} {i : Nat}, W.rangeAt g o (cellsHs H) → i < H.length → W.rangeAt g (o + i * 3) (cellsH (hd H i))
  | [], i, _, hi => by simp at hi
  | h :: H, 0, hr, _ => (range_append.1 (show W.rangeAt g o (cellsH h ++ cellsHs H) from hr)).1
  | h :: H, i + 1, hr, hi => by
    have h1 := (range_append.1 (show W.rangeAt g o (cellsH h ++ cellsHs H) from hr)).2
    rw [length_cellsH] at h1
    have h2 := held_at (i := i) h1 (by simpa using hi)
    rw [show o + (i + 1) * 3 = o + 3 + i * 3 by omega]
    exact h2
/-- Where the i-th of what is held stands. -/
theorem Row3.at {W : World} {t : TypeId} {base q : Nat} {hv : Value} {H : List Held} (h : Row3 W t base q hv H) {i : Nat} (hi : i < H.length) : ∃ g c, hv = .slice (some ⟨g, 0, none⟩) H.length c ∧ base ≤ g ∧ g < W.heap.size ∧ g ≠ q ∧ W.rangeAt g (i * 3) (cellsH (hd H i)) := by
  obtain ⟨g, c, hv', _, _, hb, hg, hr⟩ := own_lies h.1 (by omega)
  refine ⟨g, c, hv', hb, hg, fun e => h.2 (by rw [hv', e]; rfl), ?_⟩
  have := held_at hr hi
  rwa [Nat.zero_add] at this
/-- The lists that are held lie in memory. -/
def Lies (W : World) (base size : Nat) (H : List Held) (S : Nat → List (List Value)) : Prop := ∀ i, i < H.length → Lie W base size (lst H i) (S i)
/-- They lie apart: of one another, of the Book, of its row. -/
def ApartH (H : List Held) (q : Nat) (hv : Value) : Prop := ∀ i, i < H.length → ∀ g, (lst H i).ownBlock = some g → g ≠ q ∧ hv.ownBlock ≠ some g ∧ ∀ j, j < H.length → j ≠ i → (lst H j).ownBlock ≠ some g
/-- The blocks of what is held. -/
def InH (H : List Held) (k : Nat) : Prop := ∃ i, i < H.length ∧ (lst H i).ownBlock = some k
/-- What stands in the lists when those ahead of a place, and so many of its own, are written over. -/
def fillTo (mk : Nat → List Value) (H : List Held) (S : Nat → List (List Value)) (i k : Nat) : Nat → List (List Value) := fun j => if j < i then List.replicate (S j).length (mk (num H j)) else if j = i then List.replicate k (mk (num H i)) ++ (S i).drop k else S j
theorem fillTo_zero (mk : Nat → List Value) (H : List Held) (S : Nat → List (List Value)) : fillTo mk H S 0 0 = S := by
  funext j
  unfold fillTo
  rw [if_neg (by omega)]
  by_cases h : j = 0
  · rw [if_pos h, h]; rfl
  · rw [if_neg h]
theorem fillTo_next (mk : Nat → List Value) (H : List Held) (S : Nat → List (List Value)) (i : Nat) : fillTo mk H S i (S i).length = fillTo mk H S (i + 1) 0 := by
  funext j
  unfold fillTo
  by_cases h : j < i
  · rw [if_pos h, if_pos (by omega)]
  · by_cases e : j = i
    · rw [if_neg h, if_pos e, if_pos (by omega), e, List.drop_length, List.append_nil]
    · rw [if_neg h, if_neg e, if_neg (by omega)]
      by_cases e2 : j = i + 1
      · rw [if_pos e2, e2]; rfl
      · rw [if_neg e2]
theorem length_fillTo (mk : Nat → List Value) (H : List Held) (S : Nat → List (List Value)) (i k j : Nat) (hk : k ≤ (S i).length) : (fillTo mk H S i k j).length = (S j).length := by
  unfold fillTo
  by_cases h : j < i
  · rw [if_pos h, List.length_replicate]
  · by_cases e : j = i
    · rw [if_neg h, if_pos e, List.length_append, List.length_replicate, List.length_drop, e]; omega
    · rw [if_neg h, if_neg e]
theorem fillTo_set (mk : Nat → List Value) (H : List Held) (S : Nat → List (List Value)) (i k : Nat) (hk : k < (S i).length) : (fillTo mk H S i k i).set k (mk (num H i)) = fillTo mk H S i (k + 1) i := by
  unfold fillTo
  rw [if_neg (Nat.lt_irrefl i), if_pos rfl, if_neg (Nat.lt_irrefl i), if_pos rfl]
  rw [List.set_append_right _ _ (by simp), List.length_replicate, Nat.sub_self, List.drop_eq_getElem_cons hk, List.set_cons_zero, List.replicate_succ', List.append_assoc]
  rfl
theorem fillTo_other (mk : Nat → List Value) (H : List Held) (S : Nat → List (List Value)) (i k j : Nat) (hj : j ≠ i) : fillTo mk H S i k j = fillTo mk H S i (k + 1) j := by
  unfold fillTo
  by_cases h : j < i
  · rw [if_pos h, if_pos h]
  · rw [if_neg h, if_neg h, if_neg hj, if_neg hj]
/-- What stands in them when all are written over. -/
def filled (mk : Nat → List Value) (H : List Held) (S : Nat → List (List Value)) : Nat → List (List Value) := fun j => List.replicate (S j).length (mk (num H j))
theorem lies_filled {W : World} {base size : Nat} {mk : Nat → List Value} {H : List Held} {S : Nat → List (List Value)} (h : Lies W base size H (fillTo mk H S H.length 0)) : Lies W base size H (filled mk H S) := fun i hi => by
  have := h i hi
  rwa [fillTo, if_pos hi] at this
theorem Lies.keep {X : Nat → Prop} {W W' : World} {base size : Nat} {H : List Held} {S : Nat → List (List Value)} (h : Lies W base size H S) (hk : Keeps X W W') (hx : ∀ k, InH H k → ¬ X k) : Lies W' base size H S := fun i hi => (h i hi).keep hk fun k hk2 => hx k ⟨i, hi, hk2⟩
theorem Lies.below {W W' : World} {base size : Nat} {H : List Held} {S : Nat → List (List Value)} (h : Lies W base size H S) (hb : Below W.heap.size W W') : Lies W' base size H S := h.keep (Keeps.of_below (X := fun _ => False) hb) (fun _ _ h => h)
/-- One element more is written over. -/
theorem lies_set {W : World} {base size : Nat} {mk : Nat → List Value} {H : List Held} {S : Nat → List (List Value)} {i k q : Nat} {hv : Value} (h : Lies W base size H (fillTo mk H S i k)) (ha : ApartH H q hv) (hi : i < H.length) (hk : k < (S i).length) (hm : (mk (num H i)).length = size) {g n cap : Nat} (hl : lst H i = .slice (some ⟨g, 0, none⟩) n cap) : Lies (W.setCells g (k * size) (mk (num H i))) base size H (fillTo mk H S i (k + 1)) := fun j hj => by
  have hb : (lst H i).ownBlock = some g := by rw [hl]; rfl
  by_cases e : j = i
  · subst e
    have h1 := h j hj
    rw [hl] at h1 ⊢
    have h2 := Lie.set h1 (k := k) (by rw [length_fillTo mk H S j k j (by omega)]; exact hk) hm
    rwa [fillTo_set mk H S j k hk] at h2
  · have h1 := (h j hj).keep (keepsC g (mk (num H i)) (k * size) W) (fun b hb2 e2 => (ha i hi g hb).2.2 j hj e (by rw [hb2, e2]))
    rwa [fillTo_other mk H S i k j e] at h1
/-- What is held when the longer ones of those ahead of a place are told. -/
def longTo (H : List Held) (L : Nat → Value) (i : Nat) : List Held := H.mapIdx fun j h => if j < i then (h.1, L j, h.2.2) else h
theorem length_longTo (H : List Held) (L : Nat → Value) (i : Nat) : (longTo H L i).length = H.length := List.length_mapIdx
theorem hd_longTo (H : List Held) (L : Nat → Value) (i j : Nat) (hj : j < H.length) : hd (longTo H L i) j = if j < i then (lst H j, L j, num H j) else hd H j := by
  unfold hd lst num hd longTo
  simp only [List.getD_eq_getElem?_getD, List.getElem?_mapIdx, List.getElem?_eq_getElem hj, Option.map_some, Option.getD_some]
theorem longTo_zero (H : List Held) (L : Nat → Value) : longTo H L 0 = H := by
  apply List.ext_getElem
  · exact length_longTo H L 0
  · intro j h1 h2; simp [longTo]
theorem longTo_set (H : List Held) (L : Nat → Value) (i : Nat) (v : Value) (hi : i < H.length) : longTo H (fun j => if j = i then v else L j) (i + 1) = (longTo H L i).set i (lst H i, v, num H i) := by
  apply List.ext_getElem
  · rw [List.length_set, length_longTo, length_longTo]
  · intro j h1 h2
    rw [length_longTo] at h1
    rw [List.getElem_set]
    unfold longTo
    simp only [List.getElem_mapIdx]
    by_cases e : i = j
    · subst e
      rw [if_pos (by omega), if_pos rfl, if_pos rfl]
      simp [lst, num, hd, List.getD_eq_getElem?_getD, List.getElem?_eq_getElem hi]
    · rw [if_neg e]
      by_cases h : j < i
      · rw [if_pos (by omega), if_pos h, if_neg (by omega)]
      · rw [if_neg (by omega), if_neg h]
theorem cellsHs_set {H : List Held} {i : Nat} (hi : i < H.length) (h : Held) : cellsHs (H.set i h) = (cellsHs H).take (i * 3) ++ (cellsH h ++ (cellsHs H).drop (i * 3 + 3)) := by
  have hl : ∀ x ∈ H.map cellsH, x.length = 3 := fun x hx => by
    obtain ⟨y, _, rfl⟩ := List.mem_map.1 hx
    rfl
  have e : ∀ l : List Held, cellsHs l = (l.map cellsH).flatten := fun l => List.flatMap_def
  rw [e, e, List.map_set]
  obtain ⟨f1, f2⟩ := flat_split (xs := (H.map cellsH).set i (cellsH h)) (size := 3) (fun x hx => by
    rcases List.mem_or_eq_of_mem_set hx with h1 | h1
    · exact hl x h1
    · rw [h1]; rfl) (k := i) (by simpa using hi)
  obtain ⟨g1, g2⟩ := flat_split hl (k := i) (by simpa using hi)
  rw [f1, List.take_set_of_le (Nat.le_refl i), List.getElem_set_self, List.drop_set_of_lt (by omega)]
  congr 1
  · rw [g1, ← g2, List.take_left]
  · congr 1
    have g3 : i * 3 + 3 = ((List.take i (List.map cellsH H)).flatten ++ (List.map cellsH H)[i]'(by simpa using hi)).length := by rw [List.length_append, g2, hl _ (List.getElem_mem _)]
    conv => rhs; rw [g1, ← List.append_assoc, g3, List.drop_left]
theorem own_setCell {w : World} {base : Nat} {e : TypeId} {size g n cap : Nat} {xs : List Value} (h : w.ownsRow base e size (.slice (some ⟨g, 0, none⟩) n cap) n xs) (k : Nat) (u : Value) : (w.setCell ⟨g, k, none⟩ u).ownsRow base e size (.slice (some ⟨g, 0, none⟩) n cap) n (xs.set k u) := by
  refine ⟨by rw [List.length_set]; exact h.1, ?_⟩
  rcases h.2 with ⟨h0, _⟩ | ⟨g', cap', cur, he, hb, hg, hnc, hcm, hsz, htk⟩
  · cases h0
  · simp only [Value.slice.injEq, Option.some.injEq, Addr.mk.injEq, and_true, true_and] at he
    obtain ⟨rfl, rfl⟩ := he
    exact .inr ⟨g, cap, cur.setIfInBounds k u, rfl, hb, heap_setCell_same w g k _ _ u hg, hnc, hcm, by simpa using hsz, by rw [← htk, Array.toList_setIfInBounds, List.take_set]⟩
/-- The longer one of what is held at a place is told. -/
theorem Row3.long {W : World} {t : TypeId} {base q : Nat} {hv : Value} {H : List Held} (h : Row3 W t base q hv H) {i : Nat} (hi : i < H.length) {g n c : Nat} (hg : hv = .slice (some ⟨g, 0, none⟩) n c) (v : Value) : Row3 (W.setCell ⟨g, i * 3 + 1, none⟩ v) t base q hv (H.set i (lst H i, v, num H i)) := by
  refine ⟨?_, h.2⟩
  subst hg
  have hn : n = H.length := by
    obtain ⟨a, c', e⟩ := h.form
    simp only [Value.slice.injEq] at e
    exact e.2.1
  subst hn
  rw [List.length_set]
  have h1 := own_setCell h.1 (i * 3 + 1) v
  have e : (cellsHs H).set (i * 3 + 1) v = cellsHs (H.set i (lst H i, v, num H i)) := by
    have hl := length_cellsHs H
    rw [cellsHs_set hi]
    have e2 : H = H.set i (hd H i) := by
      unfold hd
      rw [List.getD_eq_getElem?_getD, List.getElem?_eq_getElem hi, Option.getD_some, List.set_getElem_self]
    conv => lhs; rw [e2, cellsHs_set hi]
    have h3 : ((cellsHs H).take (i * 3)).length = i * 3 := by rw [List.length_take, hl]; omega
    rw [List.set_append_right _ _ (by omega), h3, show i * 3 + 1 - i * 3 = 1 by omega]
    rfl
  rwa [e] at h1
end Alm
