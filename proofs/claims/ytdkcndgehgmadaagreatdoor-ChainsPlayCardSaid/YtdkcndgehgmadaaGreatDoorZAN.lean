/-
  Joined: Keep, Merkle2, F0.
-/
import Derived.Test.YtdkcndgehgmadaaGreatDoorBase
import Derived.Test.YtdkcndgehgmadaaGreatDoorMerkle
import Derived.Test.YtdkcndgehgmadaaGreatDoorZAL
import Derived.Test.YtdkcndgehgmadaaGreatDoorSched
import Derived.Deep.AppendLies
import Derived.WalkMore
import Derived.Great.BuildSlice
-- Plain: what a call has written: some blocks, and none else.
open Go Go.RowKit
namespace Alm
/-- Of the blocks that were there none but those of X have turned. -/
structure Keeps (X : Nat → Prop) (w w' : World) : Prop where
  os : w'.os = w.os
  tape : w'.tape = w.tape
  output : w'.output = w.output
  size : w.heap.size ≤ w'.heap.size
  block : ∀ k, k < w.heap.size → ¬ X k → w'.heap[k]? = w.heap[k]?
theorem Keeps.refl (X : Nat → Prop) (w : World) : Keeps X w w := ⟨rfl, rfl, rfl, Nat.le_refl _, fun _ _ _ => rfl⟩
theorem Keeps.trans {X : Nat → Prop} {a b c : World} (h : Keeps X a b) (k : Keeps X b c) : Keeps X a c :=
  ⟨k.os.trans h.os, k.tape.trans h.tape, k.output.trans h.output, Nat.le_trans h.size k.size, fun i hi hx => (k.block i (Nat.lt_of_lt_of_le hi h.size) hx).trans (h.block i hi hx)⟩
/-- What X allows more is new, or is allowed. -/
theorem Keeps.trans' {X Y : Nat → Prop} {a b c : World} (h : Keeps X a b) (k : Keeps Y b c) (hy : ∀ i, Y i → X i ∨ a.heap.size ≤ i) : Keeps X a c :=
  ⟨k.os.trans h.os, k.tape.trans h.tape, k.output.trans h.output, Nat.le_trans h.size k.size, fun i hi hx => (k.block i (Nat.lt_of_lt_of_le hi h.size) (fun hyi => by rcases hy i hyi with h1 | h1; exact hx h1; omega)).trans (h.block i hi hx)⟩
theorem Keeps.mono {X Y : Nat → Prop} {w w' : World} (h : Keeps X w w') (hx : ∀ k, X k → Y k) : Keeps Y w w' := ⟨h.os, h.tape, h.output, h.size, fun k hk hy => h.block k hk fun e => hy (hx k e)⟩
theorem Keeps.below {X : Nat → Prop} {B : Nat} {w w' : World} (h : Keeps X w w') (hB : B ≤ w.heap.size) (hx : ∀ k, X k → B ≤ k) : Below B w w' :=
  ⟨h.os, h.tape, h.output, h.size, fun k hk => h.block k (Nat.lt_of_lt_of_le hk hB) fun e => by have := hx k e; omega⟩
theorem Keeps.of_below {X : Nat → Prop} {w w' : World} (h : Below w.heap.size w w') : Keeps X w w' := ⟨h.os, h.tape, h.output, h.size, fun k hk _ => h.block k hk⟩
theorem Keeps.of_grown {X : Nat → Prop} {w w' : World} {row : Option Nat} (h : w.grownBy w' row) (hr : ∀ k, row = some k → X k) : Keeps X w w' :=
  ⟨h.os, h.tape, h.output, h.size, fun k hk hx => h.block k hk fun e => hx (hr k e.symm)⟩
theorem Keeps.alloc {X : Nat → Prop} {a w : World} (h : Keeps X a w) (o : Obj) : Keeps X a (w.alloc o) := h.trans (.of_below ((Below.refl _ _).alloc (Nat.le_refl _) o))
theorem Keeps.drew {X : Nat → Prop} {a w : World} (h : Keeps X a w) : Keeps X a w.drew := h.trans ⟨rfl, rfl, rfl, Nat.le_refl _, fun _ _ _ => rfl⟩
theorem Keeps.setCell {X : Nat → Prop} {a w : World} (h : Keeps X a w) {p : Addr} (hp : X p.block ∨ a.heap.size ≤ p.block) (u : Value) : Keeps X a (w.setCell p u) :=
  ⟨h.os, h.tape, h.output, by simpa [World.setCell] using h.size, fun k hk hx => (Below.heap_setCell w p u k (fun e => by subst e; rcases hp with h1 | h1; exact hx h1; omega)).trans (h.block k hk hx)⟩
theorem Keeps.cell {X : Nat → Prop} {w w' : World} (h : Keeps X w w') {a : Addr} {v : Value} (hc : w.cell? a = some v) (hx : ¬ X a.block) : w'.cell? a = some v :=
  (World.cell?_of_block (w := w) (h.block a.block (World.block_lt_of_cell? w a hc) hx)).trans hc
theorem Keeps.range {X : Nat → Prop} {w w' : World} (h : Keeps X w w') {b o : Nat} {cs : List Value} (hr : w.rangeAt b o cs) (hx : ¬ X b) : w'.rangeAt b o cs :=
  fun j v hj => h.cell (a := ⟨b, o + j, none⟩) (hr j v hj) hx
theorem Keeps.heap {X : Nat → Prop} {w w' : World} (h : Keeps X w w') {b : Nat} {o : Obj} (hb : w.heap[b]? = some o) (hx : ¬ X b) : w'.heap[b]? = some o :=
  (h.block b (Array.getElem?_eq_some_iff.1 hb).1 hx).trans hb
theorem Keeps.owns {X : Nat → Prop} {w w' : World} (h : Keeps X w w') {base : Nat} {e : TypeId} {size : Nat} {v : Value} {n : Nat} {xs : List Value} (ho : w.ownsRow base e size v n xs) (hx : ∀ k, v.ownBlock = some k → ¬ X k) : w'.ownsRow base e size v n xs := by
  refine ⟨ho.1, ?_⟩
  rcases ho.2 with h0 | ⟨g, cap, cur, hv, hb, hg, r⟩
  · exact .inl h0
  · exact .inr ⟨g, cap, cur, hv, hb, h.heap hg (hx g (by rw [hv]; rfl)), r⟩
theorem Keeps.there {X : Nat → Prop} {w w' : World} (h : Keeps X w w') {b o n : Nat} (ht : w.there b o n) (hn : 0 < n) (hx : ¬ X b) : w'.there b o n :=
  there_block (h.block b (there_lt ht hn) hx) ht
theorem Keeps.sums {X : Nat → Prop} {w w' : World} (h : Keeps X w w') {v : Value} {l : List Sum} (hs : SumsAt w v l) (hx : ∀ k, v.ownBlock = some k → ¬ X k) : SumsAt w' v l := by
  obtain ⟨a, cap, rfl, h1, h2, h3⟩ := hs
  refine ⟨a, cap, rfl, h1, h2, ?_⟩
  rcases h3 with h0 | ⟨b, o, rfl, hr⟩
  · exact .inl h0
  · exact .inr ⟨b, o, rfl, h.range hr (hx b rfl)⟩
/-- An owned row of sums reads as sums. -/
theorem sums_own {w : World} {base : Nat} {e : TypeId} {v : Value} {l : List Sum} (h : w.ownsRow base e 32 v l.length (cellsAll l)) : SumsAt w v l := by
  rcases h.2 with ⟨rfl, h0⟩ | ⟨g, cap, cur, rfl, hb, hg, hnc, hcm, hsz, htk⟩
  · have : l = [] := List.length_eq_zero_iff.1 h0
    subst this
    exact ⟨none, 0, rfl, Nat.le_refl _, by unfold maxLen; omega, .inl rfl⟩
  · refine ⟨_, cap, rfl, hnc, hcm, .inr ⟨g, 0, rfl, fun j u hj => ?_⟩⟩
    rw [cell_of_row w g _ cur e (0, 0) hg, Nat.zero_add]
    rw [← htk, List.getElem?_take] at hj
    split at hj
    · simpa using hj
    · cases hj
end Alm
-- Plain: trees, more: a front put together from its end.
namespace Alm
section
variable {α : Type} (nd : α → α → α) (e0 : α)
theorem exists_last : ∀ {l : List α}, l ≠ [] → ∃ r x, l = r ++ [x]
  | l, h => ⟨l.dropLast, l.getLast h, (List.dropLast_concat_getLast h).symm⟩
/-- All put together from the end. -/
theorem fold2_all : ∀ (n : Nat) (r : List α) (x : α), r.length = n → fold2 nd n (r ++ [x]) = [r.foldr nd x]
  | 0, r, x, h => by obtain rfl := List.length_eq_zero_iff.1 h; rfl
  | n + 1, r, x, h => by
    obtain ⟨r', y, rfl⟩ := exists_last (l := r) (by intro e; rw [e] at h; cases h)
    rw [List.append_assoc, List.singleton_append, fold2_two, fold2_all n r' _ (by simpa using h), List.foldr_append]; rfl
theorem stk_root' (j : Nat) (l : List α) (hl : l ≠ []) (h : l.length < 2 ^ j) : ∃ r x, stk nd e0 j l = r ++ [x] ∧ r.foldr nd x = root nd e0 l := by
  have hb := length_stk nd e0 j l h
  have hp := bits_pos (List.length_pos_iff.2 hl)
  obtain ⟨r, x, hr⟩ := exists_last (l := stk nd e0 j l) (by intro e; rw [e] at hb; simp at hb; omega)
  refine ⟨r, x, hr, ?_⟩
  have h1 := stk_root nd e0 j l hl h
  rw [hr, List.length_append, List.length_singleton, Nat.add_sub_cancel, fold2_all nd r.length r x rfl] at h1
  simpa using h1
end
end Alm
-- The seat's words for lists of sums that grow.
open Go Go.RowKit Alm
namespace Go.Proofs.YtdkcndgehgmadaaGreatDoor
/-- The node, the empty tree's sum, the root: behind names that nothing opens. -/
noncomputable def nd : Sum → Sum → Sum := Classical.choose (⟨node, rfl⟩ : ∃ f : Sum → Sum → Sum, f = node)
theorem nd_eq : nd = node := Classical.choose_spec (⟨node, rfl⟩ : ∃ f : Sum → Sum → Sum, f = node)
noncomputable def e0 : Sum := Classical.choose (⟨sha [], rfl⟩ : ∃ s : Sum, s = sha [])
theorem e0_eq : e0 = sha [] := Classical.choose_spec (⟨sha [], rfl⟩ : ∃ s : Sum, s = sha [])
noncomputable def rt : List Sum → Sum := Classical.choose (⟨root nd e0, rfl⟩ : ∃ f : List Sum → Sum, f = root nd e0)
theorem rt_eq : rt = root nd e0 := Classical.choose_spec (⟨root nd e0, rfl⟩ : ∃ f : List Sum → Sum, f = root nd e0)
theorem nd_any (l r : Sum) (w : World) : Calls Tryz.prog 69 #[sv l, sv r] w fun e w' => e = .returned (sv (nd l r)) ∧ Below w.heap.size w w' := by
  rw [nd_eq]; exact node_any l r w
theorem rt_any (l : List Sum) (v : Value) (w : World) (hv : SumsAt w v l) : Calls Tryz.prog 62 #[v] w fun e w' => e = .returned (sv (rt l)) ∧ Below w.heap.size w w' := by
  rw [rt_eq, nd_eq, e0_eq]; exact root_any l v w hv
/-- The sum of noughts. -/
def zeroSum : Sum := Vector.replicate 32 0
theorem cellsOf_zeroSum : cellsOf zeroSum = cells8 (List.replicate 32 0) := by rfl
theorem info_sum : ∃ i z, Tryz.prog.info? 24 = some i ∧ i.zero = some z ∧ i.size = 32 ∧ i.bytes = 32 ∧ z.cells.size = 32 := by
  have h : (Tryz.prog.info? 24).map (fun i => (i.zero.map fun z => z.cells.size, i.size, i.bytes)) = some (some 32, 32, 32) := by kernel_rfl
  obtain ⟨i, hi, h2⟩ := Option.map_eq_some_iff.1 h
  simp only [Prod.mk.injEq] at h2
  obtain ⟨z, hz, hz2⟩ := Option.map_eq_some_iff.1 h2.1
  exact ⟨i, z, hi, hz, h2.2.1, h2.2.2, hz2⟩
theorem size_of_info {i : TypeInfo} (h : Tryz.prog.info? 24 = some i) : i.size = 32 := by
  have := infoSum; rw [h] at this; simpa using this
theorem wp_load_sum {op : Oper} {a : Act} {w : World} {K : Act → World → Prop} {Q : Exit → Act → World → Prop} (x : Operand) (ho : op.op = .load 24 x)
    (b o : Nat) (hx : a.eval x = .pointer (some ⟨b, o, none⟩)) (s : Sum) (hc : w.rangeAt b o (cellsOf s)) (h : K (a.put op.dst (sv s)) w) : op.wp Tryz.prog a w K Q :=
  wp_load_mid _ x ho b o hx (cellsOf s) _ hc Tryz.underlying24 rfl (by rw [length_cellsOf]; exact infoSum) h
theorem wp_store_sum {op : Oper} {a : Act} {w : World} {K : Act → World → Prop} {Q : Exit → Act → World → Prop} (x y : Operand) (ho : op.op = .store 24 x y)
    (b o : Nat) (s : Sum) (hx : a.eval x = .pointer (some ⟨b, o, none⟩)) (hy : a.eval y = sv s) (ht : w.there b o 32) (h : K (a.put op.dst undef) (w.setCells b o (cellsOf s))) : op.wp Tryz.prog a w K Q :=
  wp_store_mid _ x y ho b o _ hx hy (by rw [size_cellsOf]; exact ht) (by rw [size_cellsOf]; exact infoSum) (all_cellsOf s) h
/-- append of one sum, into a row of sums. -/
theorem wp_append_sum {w : World} {o : Oper} {a : Act} {K : Act → World → Prop} {Q : Exit → Act → World → Prop} (s x : Operand)
    (ho : o.op = .call { callee := .builtin .append, args := #[s, x], argTypes := #[22, 22] })
    (v : Value) (l : List Sum) (hs : a.eval s = v) (hown : w.ownsRow 0 24 32 v l.length (cellsAll l))
    (b off c : Nat) (y : Sum) (hx : a.eval x = .slice (some ⟨b, off, none⟩) 1 c) (hr : w.rangeAt b off (cellsOf y)) (hl : l.length < 4000000000000)
    (h : ∀ g cap w', w'.ownsRow 0 24 32 (.slice (some ⟨g, 0, none⟩) (l.length + 1) cap) (l.length + 1) (cellsAll (l ++ [y])) → w.grownBy w' v.ownBlock → (v.ownBlock = some g ∨ g = w.heap.size) → g < w'.heap.size → K (a.put o.dst (.slice (some ⟨g, 0, none⟩) (l.length + 1) cap)) w') : o.wp Tryz.prog a w K Q := by
  obtain ⟨i, z, hi, hz, h1, h2, h3⟩ := info_sum
  refine wp_append_lies w s x _ ho 0 _ i z 32 32 Tryz.underlying22 hi hz h1 h2 h3 (by omega) v l.length (cellsAll l) hs hown ⟨b, off, none⟩ 1 c (cellsOf y) hx (by rw [length_cellsOf]) (fun j u hj => by rw [Addr.add_mid]; exact hr j u hj) (oneCell_cellsOf y) (by omega) (by unfold maxLen; omega) (by omega) (by omega) w.heap.size rfl ?_
  intro g cap w' ho' hg hat hlt
  refine h g cap w' ?_ hg hat hlt
  rw [cellsAll_append, cellsAll_one]; exact ho'
/-- append of a row of sums. -/
theorem wp_append_sums {w : World} {o : Oper} {a : Act} {K : Act → World → Prop} {Q : Exit → Act → World → Prop} (s x : Operand)
    (ho : o.op = .call { callee := .builtin .append, args := #[s, x], argTypes := #[22, 22] })
    (base : Nat) (v : Value) (l ys : List Sum) (n m : Nat) (_hn : l.length = n) (hm : ys.length = m) (hs : a.eval s = v) (hown : w.ownsRow base 24 32 v n (cellsAll l))
    (b off c : Nat) (hx : a.eval x = .slice (some ⟨b, off, none⟩) m c) (hr : w.rangeAt b off (cellsAll ys)) (h0 : 0 < m) (hl : n + m < 4000000000000) (hB : base ≤ w.heap.size)
    (h : ∀ g cap w', w'.ownsRow base 24 32 (.slice (some ⟨g, 0, none⟩) (n + m) cap) (n + m) (cellsAll (l ++ ys)) → w.grownBy w' v.ownBlock → (v.ownBlock = some g ∨ g = w.heap.size) → g < w'.heap.size → K (a.put o.dst (.slice (some ⟨g, 0, none⟩) (n + m) cap)) w') : o.wp Tryz.prog a w K Q := by
  obtain ⟨i, z, hi, hz, h1, h2, h3⟩ := info_sum
  refine wp_append_lies w s x _ ho base _ i z 32 32 Tryz.underlying22 hi hz h1 h2 h3 (by omega) v n (cellsAll l) hs hown ⟨b, off, none⟩ m c (cellsAll ys) hx (by rw [length_cellsAll, hm]; omega) (fun j u hj => by rw [Addr.add_mid]; exact hr j u hj) (oneCell_cellsAll ys) h0 (by unfold maxLen; omega) (by omega) hB w.heap.size rfl ?_
  intro g cap w' ho' hg hat hlt
  refine h g cap w' ?_ hg hat hlt
  rw [cellsAll_append]; exact ho'
theorem wpList_append_sums {w : World} {ops : Array Oper} {rest : List Oper} {o : Oper} {a : Act} {Q : Exit → Act → World → Prop} (hgd : o.guard = none) (s x : Operand)
    (ho : o.op = .call { callee := .builtin .append, args := #[s, x], argTypes := #[22, 22] })
    (base : Nat) (v : Value) (l ys : List Sum) (n m : Nat) (hn : l.length = n) (hm : ys.length = m) (hs : a.eval s = v) (hown : w.ownsRow base 24 32 v n (cellsAll l))
    (b off c : Nat) (hx : a.eval x = .slice (some ⟨b, off, none⟩) m c) (hr : w.rangeAt b off (cellsAll ys)) (h0 : 0 < m) (hl : n + m < 4000000000000) (hB : base ≤ w.heap.size)
    (h : ∀ g cap w', w'.ownsRow base 24 32 (.slice (some ⟨g, 0, none⟩) (n + m) cap) (n + m) (cellsAll (l ++ ys)) → w.grownBy w' v.ownBlock → (v.ownBlock = some g ∨ g = w.heap.size) → g < w'.heap.size → wpList Tryz.prog ops Q rest (a.put o.dst (.slice (some ⟨g, 0, none⟩) (n + m) cap)) w') : wpList Tryz.prog ops Q (o :: rest) a w :=
  wpList_plain hgd fun _ hK => wp_append_sums s x ho base v l ys n m hn hm hs hown b off c hx hr h0 hl hB fun g cap w' h1 h2 h3 h4 => hK _ _ (h g cap w' h1 h2 h3 h4)
/-- The same, where there is room. -/
theorem wp_append_sum_fits {w : World} {o : Oper} {a : Act} {K : Act → World → Prop} {Q : Exit → Act → World → Prop} (s x : Operand)
    (ho : o.op = .call { callee := .builtin .append, args := #[s, x], argTypes := #[22, 22] })
    (base g n cap : Nat) (l : List Sum) (_hln : l.length = n) (hs : a.eval s = .slice (some ⟨g, 0, none⟩) n cap) (hown : w.ownsRow base 24 32 (.slice (some ⟨g, 0, none⟩) n cap) n (cellsAll l))
    (b off c : Nat) (y : Sum) (hx : a.eval x = .slice (some ⟨b, off, none⟩) 1 c) (hr : w.rangeAt b off (cellsOf y)) (hroom : n + 1 ≤ cap)
    (h : ∀ w', w'.ownsRow base 24 32 (.slice (some ⟨g, 0, none⟩) (n + 1) cap) (n + 1) (cellsAll (l ++ [y])) → w.grownBy w' (some g) → K (a.put o.dst (.slice (some ⟨g, 0, none⟩) (n + 1) cap)) w') : o.wp Tryz.prog a w K Q := by
  obtain ⟨i, z, hi, hz, h1, h2, h3⟩ := info_sum
  obtain ⟨w', hrun, r1, r2⟩ := run_append_fits (P := Tryz.prog) w base 22 o.type _ i 32 Tryz.underlying22 hi h1 g n cap (cellsAll l) hown ⟨b, off, none⟩ 1 c (cellsOf y) (by rw [length_cellsOf]) (fun j u hj => by rw [Addr.add_mid]; exact hr j u hj) (oneCell_cellsOf y) hroom
  unfold Oper.wp
  simp [execOp, ho, resolve, invoke, builtin, hs, hx, hrun, Result.andThen]
  refine h w' ?_ r2
  rw [cellsAll_append, cellsAll_one]; exact r1
/-- A slice literal of sums. -/
theorem wp_build_sums {w : World} {o : Oper} {a : Act} {K : Act → World → Prop} {Q : Exit → Act → World → Prop} (len : Nat) (parts : Array (Nat × Operand)) (ho : o.op = .buildSlice 22 len parts) (l : List Sum) (hl : l.length = len) (h0 : 0 < len) (h1 : len ≤ 1000)
    (hp : (parts.toList.map fun (i, x) => (i, a.eval x)) = (((l.map fun s => sv s)).zipIdx 0).map fun x => (x.2, x.1))
    (h : K (a.put o.dst (.slice (some ⟨w.heap.size, 0, none⟩) len len)) (w.alloc (.cells (cellsAll l).toArray 24))) : o.wp Tryz.prog a w K Q := by
  obtain ⟨i, z, hi, hz, hs, hb, hzs⟩ := info_sum
  refine wp_buildSlice _ 24 len parts ho (cellsAll l).toArray i z Tryz.underlying22 hi hz (by rw [hs]; omega) (by rw [hs]; omega) ?_ h
  have hc : (l.map fun s => sv s).flatMap (fun v => v.cells.toList) = cellsAll l := by
    rw [List.flatMap_map, cellsAll]
    rfl
  rw [Array.toList_map, hp, hs, Great.fill_whole (by omega) (l.map fun s => sv s) _ (fun v hv => by obtain ⟨s, _, rfl⟩ := List.mem_map.1 hv; exact size_cellsOf s) (by simp [hl]), hc]
/-- A load of a sum, as a move of a scheduled walk. -/
theorem wpS_load_sum {md : Region.Mode} {S : World → Prop} {ops : List Oper} {Q : Exit → Act → World → Prop} {r : List Mv} {a : Act} {w : World} {o : Oper} {i : Nat} (hS : S w) (ho : ops[i]? = some o) (hg : Region.wanted o (yielded ops.toArray a.tmps) = true) (x : Operand) (hop : o.op = .load 24 x) (b off : Nat) (hx : a.eval x = .pointer (some ⟨b, off, none⟩)) (s : Sum)
    (hc : ∀ W, S W → W.rangeAt b off (cellsOf s)) (h : wpS Tryz.prog md ops.toArray Q S r (a.put o.dst (sv s)) w) : wpS Tryz.prog md ops.toArray Q S (.s i :: r) a w :=
  wpS_load_mid hS ho hg _ x hop b off hx (cellsOf s) _ hc Tryz.underlying24 rfl (by rw [length_cellsOf]; exact infoSum) h
theorem own_take {w : World} {base : Nat} {e : TypeId} {size g n m cap : Nat} {xs ys : List Value} (h : w.ownsRow base e size (.slice (some ⟨g, 0, none⟩) (n + m) cap) (n + m) (xs ++ ys)) (hx : xs.length = n * size) : w.ownsRow base e size (.slice (some ⟨g, 0, none⟩) n cap) n xs := by
  refine ⟨hx, ?_⟩
  rcases h.2 with ⟨h2, _⟩ | ⟨g', cap', cur, h2, hb, hg, hnc, hcm, hsz, htk⟩
  · cases h2
  · simp only [Value.slice.injEq, Option.some.injEq, Addr.mk.injEq, and_true, true_and] at h2
    obtain ⟨rfl, rfl⟩ := h2
    refine .inr ⟨g, cap, cur, rfl, hb, hg, by omega, hcm, hsz, ?_⟩
    have := congrArg (List.take (n * size)) htk
    rw [List.take_take, Nat.min_eq_left (Nat.mul_le_mul_right _ (by omega)), ← hx, List.take_left' rfl] at this
    rw [← hx]; exact this
theorem own_lt {w : World} {base : Nat} {e : TypeId} {size : Nat} {v : Value} {n : Nat} {xs : List Value} (h : w.ownsRow base e size v n xs) {k : Nat} (hk : v.ownBlock = some k) : k < w.heap.size := (h.lt k hk).2
theorem own_sum_range {w : World} {base : Nat} {e : TypeId} {g n cap : Nat} {l : List Sum} (h : w.ownsRow base e 32 (.slice (some ⟨g, 0, none⟩) n cap) n (cellsAll l)) : w.rangeAt g 0 (cellsAll l) := fun j u hj => by
  have := h.cells (g := g) rfl j u hj
  rwa [Addr.add_mid] at this
end Go.Proofs.YtdkcndgehgmadaaGreatDoor
