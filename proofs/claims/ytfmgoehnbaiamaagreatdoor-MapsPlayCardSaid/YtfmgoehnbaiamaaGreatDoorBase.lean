/-
  The words of all walks: sums and lists of sums in memory. Plain facts on worlds; no program in sight.
-/
import Derived.WalkKit
import Derived.Deep.MidRow
import Derived.Deep.DeepFit
import Derived.Deep.RegionHeld3
import Derived.Lib.Hide
open Go Go.RowKit
namespace Alm

/-- A byte, as a value. -/
def u8v (b : UInt8) : Value := .int .u8 (b.toNat : Int)
/-- A sum: 32 bytes. -/
abbrev Sum := Vector UInt8 32
/-- Its cells. -/
def cellsOf (s : Sum) : List Value := s.toList.map u8v
/-- It, as a value. -/
abbrev sv (s : Sum) : Value := .agg (cellsOf s).toArray
/-- The cells of a list of sums. -/
def cellsAll (l : List Sum) : List Value := l.flatMap cellsOf

theorem length_cellsOf (s : Sum) : (cellsOf s).length = 32 := by simp [cellsOf]
theorem size_cellsOf (s : Sum) : (cellsOf s).toArray.size = 32 := by simp [cellsOf]
theorem oneCell_cellsOf (s : Sum) : ∀ v ∈ cellsOf s, v.oneCell' = true := by
  intro v hv
  obtain ⟨b, _, rfl⟩ := List.mem_map.1 hv
  rfl
theorem all_cellsOf (s : Sum) : (cellsOf s).toArray.all (·.oneCell') = true := all_oneCell_toArray (oneCell_cellsOf s)
theorem length_cellsAll (l : List Sum) : (cellsAll l).length = 32 * l.length := by
  induction l with
  | nil => rfl
  | cons s l ih => rw [cellsAll, List.flatMap_cons, List.length_append, length_cellsOf, List.length_cons]; have := ih; rw [cellsAll] at this; omega
theorem oneCell_cellsAll (l : List Sum) : ∀ v ∈ cellsAll l, v.oneCell' = true := by
  intro v hv
  obtain ⟨s, _, hs⟩ := List.mem_flatMap.1 hv
  exact oneCell_cellsOf s v hs
theorem cellsAll_append (a b : List Sum) : cellsAll (a ++ b) = cellsAll a ++ cellsAll b := by simp [cellsAll]
theorem cellsAll_cons (s : Sum) (b : List Sum) : cellsAll (s :: b) = cellsOf s ++ cellsAll b := by simp [cellsAll]
theorem cellsAll_one (s : Sum) : cellsAll [s] = cellsOf s := by simp [cellsAll]
theorem u8v_inj {a b : UInt8} (h : u8v a = u8v b) : a = b := by
  simp only [u8v, Value.int.injEq, true_and] at h
  exact UInt8.toNat_inj.1 (by omega)
theorem map_u8v_inj : ∀ {a b : List UInt8}, a.map u8v = b.map u8v → a = b
  | [], [], _ => rfl
  | [], _ :: _, h => by cases h
  | _ :: _, [], h => by cases h
  | x :: a, y :: b, h => by
    simp only [List.map_cons, List.cons.injEq] at h
    rw [u8v_inj h.1, map_u8v_inj h.2]
theorem cellsOf_inj {a b : Sum} (h : cellsOf a = cellsOf b) : a = b := Vector.toList_inj.1 (map_u8v_inj h)
theorem sv_inj {a b : Sum} (h : sv a = sv b) : a = b := by
  simp only [Value.agg.injEq] at h
  exact cellsOf_inj (by simpa using congrArg Array.toList h)

/-! ### Ranges of cells -/
theorem range_nil (w : World) (b o : Nat) : w.rangeAt b o [] := fun j v h => by simp at h
theorem range_append {w : World} {b o : Nat} {x y : List Value} : w.rangeAt b o (x ++ y) ↔ w.rangeAt b o x ∧ w.rangeAt b (o + x.length) y := by
  constructor
  · intro h
    refine ⟨fun j v hj => h j v ?_, fun j v hj => ?_⟩
    · rw [List.getElem?_append_left (List.getElem?_eq_some_iff.1 hj).1]; exact hj
    · have := h (x.length + j) v (by rw [List.getElem?_append_right (by omega)]; simpa using hj)
      rwa [Nat.add_assoc]
  · rintro ⟨h1, h2⟩ j v hj
    by_cases hx : j < x.length
    · exact h1 j v (by rwa [List.getElem?_append_left hx] at hj)
    · rw [List.getElem?_append_right (by omega)] at hj
      have := h2 (j - x.length) v hj
      rwa [show o + x.length + (j - x.length) = o + j from by omega] at this
theorem range_below {B : Nat} {w w' : World} (h : Below B w w') {b o : Nat} {cs : List Value} (hr : w.rangeAt b o cs) (hb : b < B) : w'.rangeAt b o cs :=
  fun j v hj => (h.cell (p := ⟨b, o + j, none⟩) hb).trans (hr j v hj)
theorem range_lt {w : World} {b o : Nat} {cs : List Value} (h : w.rangeAt b o cs) (hn : cs ≠ []) : b < w.heap.size := by
  match cs, hn with
  | v :: r, _ => exact World.block_lt_of_cell? w _ (h 0 v rfl)

/-- A slice of sums in memory reads so. -/
def SumsAt (w : World) (v : Value) (l : List Sum) : Prop :=
  ∃ a cap, v = .slice a l.length cap ∧ l.length ≤ cap ∧ cap ≤ maxLen ∧ (l = [] ∨ ∃ b o, a = some ⟨b, o, none⟩ ∧ w.rangeAt b o (cellsAll l))

theorem SumsAt.below {B : Nat} {w w' : World} {v : Value} {l : List Sum} (h : SumsAt w v l) (hb : Below B w w') (hB : w.heap.size ≤ B) : SumsAt w' v l := by
  obtain ⟨a, cap, hv, h1, h2, h3⟩ := h
  refine ⟨a, cap, hv, h1, h2, ?_⟩
  rcases h3 with rfl | ⟨b, o, ha, hr⟩
  · exact .inl rfl
  · by_cases hl : l = []
    · exact .inl hl
    · refine .inr ⟨b, o, ha, range_below hb hr ?_⟩
      have : cellsAll l ≠ [] := fun h => by have := length_cellsAll l; rw [h] at this; match l, hl with | _ :: _, _ => simp at this
      exact Nat.lt_of_lt_of_le (range_lt hr this) hB

theorem cellsAll_split {l : List Sum} {i : Nat} (h : i < l.length) : cellsAll l = cellsAll (l.take i) ++ (cellsOf l[i] ++ cellsAll (l.drop (i + 1))) := by
  conv => lhs; rw [← List.take_append_drop i l, cellsAll_append, List.drop_eq_getElem_cons h, cellsAll_cons]

/-- One of a list of sums. -/
theorem range_at {w : World} {b o : Nat} {l : List Sum} (h : w.rangeAt b o (cellsAll l)) {i : Nat} (hi : i < l.length) : w.rangeAt b (o + i * 32) (cellsOf l[i]) := by
  rw [cellsAll_split hi, range_append, length_cellsAll, range_append, List.length_take, Nat.min_eq_left (by omega)] at h
  rw [Nat.mul_comm]; exact h.2.1
/-! ### The frame -/
/-- Behind a store of cells over the whole of what is there. -/
theorem setCells_below {B : Nat} (b : Nat) (hB : B ≤ b) : ∀ (vs : List Value) (o : Nat) (w0 w : World), Below B w0 w → Below B w0 (w.setCells b o vs)
  | [], _, _, _, h => h
  | v :: r, o, w0, w, h => by
    rw [World.setCells]
    exact setCells_below b hB r (o + 1) w0 _ (h.setCell (p := ⟨b, o, none⟩) hB v)

/-- A call's own first block, of n cells, is there; what was there before is as it was. -/
structure Res (w : World) (n : Nat) (W : World) : Prop where
  below : Below w.heap.size w W
  there : W.there w.heap.size 0 n
theorem there_block {w W : World} {b o n : Nat} (h : W.heap[b]? = w.heap[b]?) (ht : w.there b o n) : W.there b o n := fun j hj => by
  rw [World.cell?_of_block (w := w) (w' := W) (a := ⟨b, o + j, none⟩) h, World.frozen?_of_block (w := w) (w' := W) (a := ⟨b, o + j, none⟩) h]
  exact ht j hj
theorem there_lt {w : World} {b o n : Nat} (h : w.there b o n) (hn : 0 < n) : b < w.heap.size := by
  obtain ⟨v, hv⟩ := Option.isSome_iff_exists.1 (h 0 hn).1
  exact World.block_lt_of_cell? w _ hv
theorem there_new (w : World) (cs : Array Value) (t : TypeId) : (w.alloc (.cells cs t)).there w.heap.size 0 cs.size := fun j hj => by
  have hb := heap_alloc_new w (.cells cs t)
  refine ⟨?_, ?_⟩
  · rw [cell_of_row _ _ _ cs t (0, 0) hb, Nat.zero_add, Array.getElem?_eq_getElem hj]; rfl
  · exact frozen_of_row _ _ _ cs t hb
theorem Res.start (w : World) (n : Nat) (cs : Array Value) (t : TypeId) (h : cs.size = n) : Res w n (w.alloc (.cells cs t)) :=
  ⟨(Below.refl _ _).alloc (Nat.le_refl _) _, h ▸ there_new w cs t⟩
theorem Res.drew {w W : World} {n : Nat} (h : Res w n W) : Res w n W.drew := ⟨h.below.drew, h.there⟩
theorem Res.alloc {w W : World} {n : Nat} (h : Res w n W) (o : Obj) : Res w n (W.alloc o) := ⟨h.below.alloc h.below.size _, World.there_alloc h.there o⟩
theorem Res.call {w W W' : World} {n : Nat} (h : Res w n W) (hn : 0 < n) (hb : Below W.heap.size W W') : Res w n W' :=
  ⟨h.below.trans (hb.mono h.below.size), there_block (hb.block _ (there_lt h.there hn)) h.there⟩
theorem Res.lt {w W : World} {n : Nat} (h : Res w n W) (hn : 0 < n) : w.heap.size < W.heap.size := there_lt h.there hn
/-- The same, where the callee's own bound is spelled out. -/
theorem Res.call_at {w W W' : World} {n B : Nat} (h : Res w n W) (hb : Below B W W') (hB : w.heap.size < B) : Res w n W' :=
  ⟨h.below.trans (hb.mono (Nat.le_of_lt hB)), there_block (hb.block _ hB) h.there⟩
theorem Res.store {w W : World} {n : Nat} (h : Res w n W) (cs : List Value) : Res w n (W.setCells w.heap.size 0 cs) :=
  ⟨setCells_below _ (Nat.le_refl _) cs 0 _ _ h.below, World.there_setCells h.there _ _ _⟩
theorem Res.cell {w W : World} {n : Nat} (h : Res w n W) {a : Addr} {v : Value} (hc : w.cell? a = some v) : W.cell? a = some v :=
  (h.below.cell (World.block_lt_of_cell? w a hc)).trans hc
theorem Res.range {w W : World} {n : Nat} (h : Res w n W) {b o : Nat} {cs : List Value} (hr : w.rangeAt b o cs) : W.rangeAt b o cs := by
  by_cases hn : cs = []
  · subst hn; exact range_nil _ _ _
  · exact range_below h.below hr (range_lt hr hn)

/-- A result that lies in a cell of its own, of many cells. -/
theorem results_mid {P : Program} {fn : Func} {p : Tmp} {ty : TypeId} (h : fn.results = #[.cell p ty]) (tmps : Array Value) (w : World) (b o : Nat) (cs : List Value) (d : TypeDesc)
    (hp : tmps.getD p undef = .pointer (some ⟨b, o, none⟩)) (hc : w.rangeAt b o cs) (hu : P.underlying ty = some d) (hd : d.isRow = true) (hi : (P.info? ty).map (·.size) = some cs.length) :
    (results fn tmps).run P w = .ok (.agg cs.toArray) w := by
  have hp' : tmps[p]?.getD undef = .pointer (some ⟨b, o, none⟩) := by simpa using hp
  simp [results, h, hp', asAddr, run_loadVar_mid w b o ty cs d hc hu hd hi]
/-- What was stored lies there. -/
theorem range_stored (b : Nat) (vs : List Value) (o : Nat) (w : World) (h : (w.setCells b o vs).there b o vs.length) : (w.setCells b o vs).rangeAt b o vs := by
  have one : ∀ (w : World) (a : Addr) (v : Value) (x : Addr), w.cell? x = none → (w.setCell a v).cell? x = none := by
    intro w a v x h
    by_cases hb : x.block = a.block
    · cases hx : w.heap[x.block]? with
      | none => simp only [World.cell?, World.setCell, Array.getElem?_modify, hb]; rw [hb] at hx; simp [hx]
      | some ob =>
        simp only [World.cell?, hx] at h
        rw [hb] at hx
        simp only [World.cell?, World.setCell, Array.getElem?_modify, hb, hx, if_true, Option.map_some]
        cases ob with
        | cells c t f =>
          simp only [] at h ⊢
          split
          · rfl
          · rename_i hs; rw [if_neg hs] at h
            split
            · exact h
            · rw [Array.getElem?_setIfInBounds]
              have h2 : c.size ≤ x.off := by simpa using h
              split
              · split
                · omega
                · rfl
              · exact h
        | _ => rfl
    · rw [World.cell?_of_block (w := w) (a := x) (Below.heap_setCell w a v x.block hb)]; exact h
  have back : ∀ (vs : List Value) (o : Nat) (w : World) (x : Addr), ((w.setCells b o vs).cell? x).isSome = true → (w.cell? x).isSome = true := by
    intro vs
    induction vs with
    | nil => intro o w x h; exact h
    | cons v r ih =>
      intro o w x h
      rw [World.setCells] at h
      have h1 := ih _ _ _ h
      by_cases e : w.cell? x = none
      · rw [one _ _ _ _ e] at h1; cases h1
      · obtain ⟨u, hu⟩ := Option.ne_none_iff_exists'.1 e; rw [hu]; rfl
  refine World.rangeAt_setCells_same w b o vs (fun j hj => ⟨back vs o w _ (h j hj).1, ?_⟩)
  have := (h j hj).2
  rwa [World.frozen?_setCells] at this

/-- A new block lies there. -/
theorem range_new (w : World) (C : Array Value) (t : TypeId) (cs : List Value) (h : C.toList = cs) : (w.alloc (.cells C t)).rangeAt w.heap.size 0 cs := fun j v hv => by
  subst h
  rw [cell_of_row _ _ _ C t (0, 0) (heap_alloc_new w (.cells C t)), Nat.zero_add]
  simpa using hv

/-- A great literal: built in one step. -/
theorem wpList_build_by {P : Program} {ops : Array Oper} {rest : List Oper} {op : Oper} {a : Act} {w : World} {Q : Exit → Act → World → Prop} (hgd : op.guard = none) (t : TypeId) (parts : Array (Nat × Operand)) (ho : op.op = .build t parts)
    (v : Value) (hrun : ∀ w, (Instr.build t (parts.map fun (i, x) => (i, a.eval x))).run P w = .ok v w)
    (h : wpList P ops Q rest (a.put op.dst v) w) : wpList P ops Q (op :: rest) a w :=
  wpList_plain hgd fun _ hK => by
    unfold Oper.wp execOp
    simp only [ho, Sem.run_bind, Sem.run_pure, Result.andThen_ok, hrun]
    exact hK _ _ h

/-- An array's element of one cell, by value. -/
theorem run_index_one {P : Program} {t e : TypeId} {n : Nat} (cs : Array Value) (i : Nat) (v : Value) (k : IntKind) (hu : P.underlying t = some (.array n e)) (hi : i < n)
    (hs : ∀ w, (Go.sizeOf e).run P w = .ok 1 w) (ha : ∀ w, (isAgg e).run P w = .ok false w) (hv : cs[i]? = some v) (w : World) :
    (Instr.index t (.agg cs) (.int k (i : Int))).run P w = .ok v w := by
  simp [Instr.index, asIntOf, part, run_underlying hu, hs, ha, hv, hi]

/-- A block behind a store of many cells. -/
theorem heap_setCells (b : Nat) (t : TypeId) : ∀ (vs : List Value) (o : Nat) (C : List Value) (w : World), w.heap[b]? = some (.cells C.toArray t (0, 0)) → o + vs.length ≤ C.length →
    (w.setCells b o vs).heap[b]? = some (.cells (C.take o ++ vs ++ C.drop (o + vs.length)).toArray t (0, 0))
  | [], o, C, w, h, _ => by simpa [World.setCells] using h
  | v :: r, o, C, w, h, hl => by
    simp only [List.length_cons] at hl
    rw [World.setCells]
    have h1 := heap_setCell_same w b o C.toArray t v h
    rw [List.setIfInBounds_toArray] at h1
    rw [heap_setCells b t r (o + 1) (C.set o v) _ h1 (by rw [List.length_set]; omega)]
    have e1 : (C.set o v).take (o + 1) = C.take o ++ [v] := by
      rw [List.set_eq_take_append_cons_drop, if_pos (by omega), List.take_append, List.length_take, Nat.min_eq_left (by omega), List.take_of_length_le (by rw [List.length_take]; omega)]
      simp
    have e2 : (C.set o v).drop (o + 1 + r.length) = C.drop (o + (v :: r).length) := by
      rw [List.drop_set_of_lt (by omega), List.length_cons]; congr 1; omega
    rw [e1, e2]; simp
theorem heap_setCells_all (w : World) (b : Nat) (t : TypeId) (C : Array Value) (vs : List Value) (h : w.heap[b]? = some (.cells C t (0, 0))) (hl : C.size = vs.length) :
    (w.setCells b 0 vs).heap[b]? = some (.cells vs.toArray t (0, 0)) := by
  rw [heap_setCells b t vs 0 C.toList w (by simpa using h) (by simp; omega)]
  simp [hl]
theorem heap_setCells_other (b k : Nat) (hk : k ≠ b) : ∀ (vs : List Value) (o : Nat) (w : World), (w.setCells b o vs).heap[k]? = w.heap[k]?
  | [], _, _ => rfl
  | v :: r, o, w => by rw [World.setCells, heap_setCells_other b k hk r (o + 1)]; exact heap_setCell_other w ⟨b, o, none⟩ k v hk
theorem size_setCells (b : Nat) : ∀ (vs : List Value) (o : Nat) (w : World), (w.setCells b o vs).heap.size = w.heap.size
  | [], _, _ => rfl
  | v :: r, o, w => by rw [World.setCells, size_setCells b r (o + 1)]; simp [World.setCell]

/-- A new block, above all that was there. -/
theorem al {a w : World} (h : Below a.heap.size a w) (o : Obj) : Below a.heap.size a (w.alloc o) := h.alloc h.size o

end Alm
