/-
  Walks: chains' last of a chain's first ones; an entry in a variable.
-/
import Derived.Test.YtdkcndgehgmadaaK2
open Go Go.RowKit Alm
namespace Go.Proofs.Ytdkcndgehgmadaa
theorem ChainIn.take {base : Nat} {w : World} {c f : Nat} {v vf : Value} {es : List Ent} {l : List (List UInt8)} (h : ChainIn base w c f v vf es l) (k : Nat) (hk : k ≤ l.length) (a : Option Addr) (cap : Nat) (hv : v = .slice a l.length cap) : EntsAt w (.slice a k cap) (es.take k) := by
  obtain ⟨a', cap', e, h1, h2, h3⟩ := h.form
  rw [hv] at e
  simp only [Value.slice.injEq, true_and] at e
  obtain ⟨rfl, rfl⟩ := e
  have hl : (es.take k).length = k := by rw [List.length_take, h.len]; omega
  refine ⟨a, cap, by rw [hl], by rw [hl]; omega, h2, ?_⟩
  rcases h3 with rfl | ⟨g, rfl, hr⟩
  · left
    have : es = [] := List.length_eq_zero_iff.1 (by rw [h.len]; rfl)
    rw [this]; simp
  · right
    refine ⟨g, rfl, ?_⟩
    rw [← List.take_append_drop k es, cellsEnts_append, range_append] at hr
    exact hr.1
theorem last_at {base : Nat} {w : World} {c f : Nat} {v vf : Value} {es : List Ent} {l : List (List UInt8)} (h : ChainIn base w c f v vf es l) (k : Nat) (hk : k ≤ l.length) (a : Option Addr) (cap : Nat) (hv : v = .slice a l.length cap) :
    Calls Try.prog 80 #[.slice a k cap] w fun e w' => (∃ p r, e = .returned (tv p (mk (l.take k)) r) ∧ (k ≠ 0 → r = rt ((l.take k).map lf))) ∧ Below w.heap.size w w' := by
  have ht := h.take k hk a cap hv
  by_cases h0 : k = 0
  · subst h0
    rw [List.take_zero] at ht
    refine (last_nil _ w ht).mono ?_
    rintro e w' ⟨rfl, hb⟩
    exact ⟨⟨_, _, by rw [List.take_zero, mk_nil], fun h => (h rfl).elim⟩, hb⟩
  · obtain ⟨j, rfl⟩ : ∃ j, k = j + 1 := ⟨k - 1, by omega⟩
    have hje : j < es.length := by rw [h.len]; omega
    have hjl : j < l.length := by omega
    rw [List.take_succ_eq_append_getElem hje] at ht
    have hE := h.ents j es[j] l[j] (List.getElem?_eq_getElem hje) (List.getElem?_eq_getElem hjl)
    refine (last_snoc _ _ _ w ht).mono ?_
    rintro e w' ⟨rfl, hb⟩
    refine ⟨⟨_, _, by rw [hE.mark, List.take_succ_eq_append_getElem hjl], fun _ => ?_⟩, hb⟩
    rw [hE.root, List.take_succ_eq_append_getElem hjl]
/-- A variable that is an entry. -/
def EntRow (W : World) (X : Nat) (e : Ent) : Prop := W.heap[X]? = some (.cells (cellsEnt e).toArray 113 (0, 0))
theorem EntRow.range {W : World} {X : Nat} {e : Ent} (h : EntRow W X e) : W.rangeAt X 0 (cellsEnt e) := fun j u hj => by
  rw [cell_of_row W X _ _ _ (0, 0) h, Nat.zero_add]; simpa using hj
theorem EntRow.there {W : World} {X : Nat} {e : Ent} (h : EntRow W X e) (o n : Nat) (ho : o + n ≤ 97) : W.there X o n := fun j hj => by
  refine ⟨?_, frozen_of_row W X _ _ _ h⟩
  rw [cell_of_row W X _ _ _ (0, 0) h, List.getElem?_toArray, List.getElem?_eq_getElem (by rw [length_cellsEnt]; omega)]; rfl
theorem EntRow.lt {W : World} {X : Nat} {e : Ent} (h : EntRow W X e) : X < W.heap.size := (Array.getElem?_eq_some_iff.1 h).1
theorem EntRow.set0 {W : World} {X : Nat} {e : Ent} (h : EntRow W X e) (s : Sum) : EntRow (W.setCells X 0 (cellsOf s)) X { e with leaf := s } := by
  have := heap_setCells X 113 (cellsOf s) 0 (cellsEnt e) W h (by rw [length_cellsOf, length_cellsEnt]; omega)
  rw [EntRow, this]
  simp [cellsEnt, cells3, List.drop_append, length_cellsOf, Ent.v]
theorem EntRow.set1 {W : World} {X : Nat} {e : Ent} (h : EntRow W X e) (s : Sum) : EntRow (W.setCells X 32 (cellsOf s)) X { e with mark := s } := by
  have := heap_setCells X 113 (cellsOf s) 32 (cellsEnt e) W h (by rw [length_cellsOf, length_cellsEnt]; omega)
  rw [EntRow, this]
  simp [cellsEnt, cells3, List.take_append, List.drop_append, length_cellsOf, Ent.v]
theorem EntRow.set2 {W : World} {X : Nat} {e : Ent} (h : EntRow W X e) (s : Sum) : EntRow (W.setCells X 64 (cellsOf s)) X { e with root := s } := by
  have := heap_setCells X 113 (cellsOf s) 64 (cellsEnt e) W h (by rw [length_cellsOf, length_cellsEnt]; omega)
  rw [EntRow, this]
  simp [cellsEnt, cells3, List.take_append, List.drop_append, length_cellsOf, Ent.v]
  rw [List.take_of_length_le (by rw [length_cellsOf]; omega), List.drop_of_length_le (by rw [length_cellsOf]; omega), List.drop_of_length_le (by rw [length_cellsOf]; omega)]
  rfl
theorem wpList_var_ent {ops : Array Oper} {rest : List Oper} {op : Oper} {a : Act} {w : World} {C : Array Value} {Q : Exit → Act → World → Prop} (hC : C.size = 97) (hgd : op.guard = none) (x y : Operand) (ho : op.op = .store 113 x y)
    (e : Ent) (hx : a.eval x = .pointer (some ⟨w.heap.size, 0, none⟩)) (hy : a.eval y = .agg (cellsEnt e).toArray)
    (h : ∀ W', Below w.heap.size w W' → EntRow W' w.heap.size e → wpList Try.prog ops Q rest (a.put op.dst undef) W') : wpList Try.prog ops Q (op :: rest) a (w.alloc (.cells C 113)) := by
  have ht : (w.alloc (.cells C 113)).there w.heap.size 0 97 := by rw [← hC]; exact there_new _ _ _
  have hr := heap_setCells_all (w.alloc (.cells C 113)) w.heap.size 113 C (cellsEnt e) (heap_alloc_new w _) (by rw [hC, length_cellsEnt])
  exact wpList_store_mid hgd _ x y ho w.heap.size 0 _ hx hy (by simpa [length_cellsEnt] using ht) (by simpa [length_cellsEnt] using infoEnt) (all_oneCell_toArray (oneCell_cellsEnt e)) (h _ (setCells_below _ (Nat.le_refl _) _ 0 _ _ (al (Below.refl _ _) _)) hr)
/-- append of one entry. -/
theorem wp_append_ent {w : World} {o : Oper} {a : Act} {K : Act → World → Prop} {Q : Exit → Act → World → Prop} (s x : Operand)
    (ho : o.op = .call { callee := .builtin .append, args := #[s, x], argTypes := #[56, 56] })
    (base : Nat) (v : Value) (l : List Ent) (n : Nat) (hn : l.length = n) (hs : a.eval s = v) (hown : w.ownsRow base 113 97 v n (cellsEnts l))
    (b off c : Nat) (y : Ent) (hx : a.eval x = .slice (some ⟨b, off, none⟩) 1 c) (hr : w.rangeAt b off (cellsEnt y)) (hl : n < 1000000000) (hB : base ≤ w.heap.size)
    (h : ∀ g cap w', w'.ownsRow base 113 97 (.slice (some ⟨g, 0, none⟩) (n + 1) cap) (n + 1) (cellsEnts (l ++ [y])) → w.grownBy w' v.ownBlock → (v.ownBlock = some g ∨ g = w.heap.size) → g < w'.heap.size → K (a.put o.dst (.slice (some ⟨g, 0, none⟩) (n + 1) cap)) w') : o.wp Try.prog a w K Q := by
  obtain ⟨i, z, hi, hz, h1, h2, h3⟩ := info_ent
  refine wp_append_lies w s x _ ho base _ i z 97 120 Try.underlying56 hi hz h1 h2 h3 (by omega) v n (cellsEnts l) hs hown ⟨b, off, none⟩ 1 c (cellsEnt y) hx (by rw [length_cellsEnt]) (fun j u hj => by rw [Addr.add_mid]; exact hr j u hj) (oneCell_cellsEnt y) (by omega) (by unfold maxLen; omega) (by omega) hB w.heap.size rfl ?_
  intro g cap w' ho' hg hat hlt
  refine h g cap w' ?_ hg hat hlt
  rw [cellsEnts_append, cellsEnts_one]; exact ho'
/-- A slice literal of one entry. -/
theorem wp_build_ents {w : World} {o : Oper} {a : Act} {K : Act → World → Prop} {Q : Exit → Act → World → Prop} (x : Operand) (ho : o.op = .buildSlice 56 1 #[(0, x)]) (e : Ent) (hx : a.eval x = .agg (cellsEnt e).toArray)
    (h : K (a.put o.dst (.slice (some ⟨w.heap.size, 0, none⟩) 1 1)) (w.alloc (.cells (cellsEnt e).toArray 113))) : o.wp Try.prog a w K Q := by
  obtain ⟨i, z, hi, hz, hs, hb, hzs⟩ := info_ent
  refine wp_buildSlice _ 113 1 _ ho (cellsEnt e).toArray i z Try.underlying56 hi hz (by rw [hs]; omega) (by rw [hs]; omega) ?_ h
  have hp : ((#[(0, x)] : Array (Nat × Operand)).toList.map fun (i, x) => (i, a.eval x)) = ([Value.agg (cellsEnt e).toArray].zipIdx 0).map fun x => (x.2, x.1) := by simp [hx]
  rw [Array.toList_map, hp, hs, Great.fill_whole (s := 97) (by omega) [Value.agg (cellsEnt e).toArray] _ (fun v hv => by rw [List.mem_singleton.1 hv]; simp [Value.cells, length_cellsEnt]) (by simp)]
  simp [Value.cells]
theorem wp_load_ent {op : Oper} {a : Act} {w : World} {K : Act → World → Prop} {Q : Exit → Act → World → Prop} (x : Operand) (ho : op.op = .load 113 x)
    (b o : Nat) (hx : a.eval x = .pointer (some ⟨b, o, none⟩)) (e : Ent) (hc : w.rangeAt b o (cellsEnt e)) (h : K (a.put op.dst (.agg (cellsEnt e).toArray)) w) : op.wp Try.prog a w K Q :=
  wp_load_mid _ x ho b o hx (cellsEnt e) _ hc Try.underlying113 rfl (by rw [length_cellsEnt]; exact infoEnt) h
end Go.Proofs.Ytdkcndgehgmadaa
