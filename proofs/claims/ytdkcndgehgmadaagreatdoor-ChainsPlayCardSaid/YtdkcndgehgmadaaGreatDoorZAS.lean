/-
  Joined: K2, K3, E0.
-/
import Derived.Test.YtdkcndgehgmadaaGreatDoorZAR
import Derived.Test.YtdkcndgehgmadaaGreatDoorZAN
import Derived.Stop.BytesEq
-- Walks: slices.Clone and Clip of bytes; chains: New, none, Size.
open Go Go.RowKit Alm
namespace Go.Proofs.YtdkcndgehgmadaaGreatDoor
/-- Bytes of one's own: no older memory. -/
def BytesNew (w : World) (base : Nat) (v : Value) (l : List UInt8) : Prop := BytesAt w v l ∧ ∀ k, v.ownBlock = some k → base ≤ k ∧ k < w.heap.size
set_option maxRecDepth 100000 in
theorem clone_bytes (w : World) (v : Value) (l : List UInt8) (h : BytesAt w v l) (hl : l.length < 4000000000) : Calls Tryz.prog 113 #[v] w fun e w' => ∃ v', e = .returned v' ∧ BytesNew w' w.heap.size v' l ∧ Below w.heap.size w w' := by
  have e1 := @Lib.run_eql_slice_nil Tryz.prog
  obtain ⟨i0, hi0, hz0⟩ := Option.map_eq_some_iff.1 infoByteZ
  simp only [Prod.mk.injEq] at hz0
  have HI := Lib.hid hi0
  have HZ := Lib.hid hz0
  clear hi0 hz0
  obtain ⟨a, cap, rfl, h1, h2, h3⟩ := h
  by_cases hn : l = []
  · subst hn
    cases a with
    | none =>
      go_enter Tryz.func113, Tryz.ntmps113
      go_wp2_with fail
      refine bodyPost_ret (results_tmp rfl _ _ _) rfl ?_
      exact ⟨_, rfl, ⟨⟨none, 0, rfl, by simp, by decide, .inl rfl⟩, fun k hk => by cases hk⟩, Below.refl _ _⟩
    | some a =>
      go_enter Tryz.func113, Tryz.ntmps113
      have hown : (w.alloc (.cells #[] 5)).ownsRow w.heap.size 5 1 (.slice (some ⟨w.heap.size, 0, none⟩) 0 0) 0 [] := World.ownsRow_made w #[] 0 (Nat.le_refl _) (by unfold maxLen; omega) rfl
      go_wp2_with (at_builtin; refine wpList_append_zero rfl _ _ rfl w.heap.size i0 HI.out _ _ _ rfl hown _ _ rfl ?_)
      refine bodyPost_ret (results_tmp rfl _ _ _) rfl ?_
      exact ⟨_, rfl, ⟨⟨_, 0, rfl, by simp, by decide, .inl rfl⟩, fun k hk => by cases hk; exact ⟨Nat.le_refl _, by simp⟩⟩, (al (Below.refl _ _) _)⟩
  · obtain ⟨b, o, rfl, hr⟩ := h3.resolve_left hn
    go_enter Tryz.func113, Tryz.ntmps113
    have hr1 := range_below (al (Below.refl _ _) (.cells #[] 5)) hr (range_lt hr (by intro h; have := length_cells8 l; rw [h] at this; exact hn (List.length_eq_zero_iff.1 (by simp at this; omega))))
    have hown : (w.alloc (.cells #[] 5)).ownsRow w.heap.size 5 1 (.slice (some ⟨w.heap.size, 0, none⟩) 0 0) 0 (cells8 []) := World.ownsRow_made w #[] 0 (Nat.le_refl _) (by unfold maxLen; omega) rfl
    have hB := al (Below.refl w.heap.size w) (.cells #[] 5)
    have hpos : 0 < l.length := List.length_pos_iff.2 hn
    obtain ⟨n, hnl⟩ : ∃ n, n = l.length := ⟨_, rfl⟩
    have HN := Lib.hid hnl
    rw [← hnl] at h1 hpos hl ⊢
    clear hnl h3 hr
    go_wp2_with (at_builtin; refine wpList_append_own _ rfl _ _ _ rfl w.heap.size 5 i0 (.int .u8 0) 1 1 Tryz.underlying65 HI.out HZ.out.1 HZ.out.2.1 HZ.out.2.2 rfl (by decide) _ _ _ rfl hown ⟨b, o, none⟩ n cap (cells8 l) rfl (by rw [length_cells8, HN.out]; omega) (fun j u hj => by rw [Addr.add_mid]; exact hr1 j u hj) (oneCell_cells8 _) (by unfold maxLen; omega) (by omega) (by simp) ?_; intro v' w2 ho3 hg3 hat3)
    have ho4 : w2.ownsRow w.heap.size 5 1 v' l.length (cells8 l) := by
      have := ho3
      rw [Nat.zero_add, HN.out] at this
      exact this
    refine bodyPost_ret (results_tmp rfl _ _ _) rfl ?_
    exact ⟨_, rfl, ⟨bytes_own ho4 (by have := HN.out; omega), fun k hk => ⟨own_base ho4 k hk, own_lt ho4 hk⟩⟩, hB.grown hg3 (by simp) (fun k hk => by cases hk; exact Nat.le_refl _)⟩
theorem ChainIn.below {base : Nat} {w w' : World} {c f : Nat} {v vf : Value} {es : List Ent} {l : List (List UInt8)} (h : ChainIn base w c f v vf es l) (hb : Below w.heap.size w w') : ChainIn base w' c f v vf es l :=
  h.keep (Keeps.of_below (X := fun _ => False) hb) (fun _ _ _ h => h)
theorem clip_bytes (w : World) (base : Nat) (v : Value) (l : List UInt8) (h : BytesNew w base v l) : Calls Tryz.prog 119 #[v] w fun e w' => ∃ v', e = .returned v' ∧ BytesNew w base v' l ∧ w = w' := by
  obtain ⟨⟨a, cap, rfl, h1, h2, h3⟩, h4⟩ := h
  have hn : BytesNew w base (.slice a l.length l.length) l := ⟨⟨a, l.length, rfl, Nat.le_refl _, by omega, h3⟩, fun k hk => h4 k (by cases a <;> exact hk)⟩
  have HN := Lib.hid hn; clear hn h3 h4
  obtain ⟨n, hn⟩ : ∃ n, n = l.length := ⟨_, rfl⟩
  rw [← hn] at HN h1 ⊢
  clear hn
  have k1 : (n : Int) ≤ (cap : Int) := by omega
  unfold maxLen at h2
  cases a with
  | none =>
    have h0 : (none : Option Addr) = none := rfl
    go_enter Tryz.func119, Tryz.ntmps119
    go_wp2_with fail
    refine bodyPost_ret (results_tmp rfl _ _ _) rfl ?_
    exact ⟨_, rfl, HN.out, rfl⟩
  | some a =>
    go_enter Tryz.func119, Tryz.ntmps119
    go_wp2_with fail
    refine bodyPost_ret (results_tmp rfl _ _ _) rfl ?_
    exact ⟨_, rfl, HN.out, rfl⟩
theorem cnone_live (w : World) (c f : Nat) (hc : w.cell? ⟨c, 0, none⟩ = some (.pointer (some ⟨f, 0, none⟩))) : Calls Tryz.prog 112 #[.pointer (some ⟨c, 0, none⟩)] w fun e w' => e = .returned (.bool false) ∧ w = w' := by
  go_enter Tryz.func112, Tryz.ntmps112
  go_wp2_with fail
  exact bodyPost_ret (results_tmp rfl _ _ _) rfl ⟨rfl, rfl⟩
theorem ChainIn.c0 {base : Nat} {w : World} {c f : Nat} {v vf : Value} {es : List Ent} {l : List (List UInt8)} (h : ChainIn base w c f v vf es l) : w.cell? ⟨c, 0, none⟩ = some (.pointer (some ⟨f, 0, none⟩)) := by
  rw [cell_of_row w c _ _ _ (0, 0) h.head]; rfl
theorem ChainIn.c1 {base : Nat} {w : World} {c f : Nat} {v vf : Value} {es : List Ent} {l : List (List UInt8)} (h : ChainIn base w c f v vf es l) : w.cell? ⟨c, 1, none⟩ = some v := by
  rw [cell_of_row w c _ _ _ (0, 0) h.head]; rfl
theorem ChainIn.form {base : Nat} {w : World} {c f : Nat} {v vf : Value} {es : List Ent} {l : List (List UInt8)} (h : ChainIn base w c f v vf es l) : ∃ a cap, v = .slice a l.length cap ∧ l.length ≤ cap ∧ cap ≤ maxLen ∧ (l = [] ∨ ∃ g, a = some ⟨g, 0, none⟩ ∧ w.rangeAt g 0 (cellsEnts es)) := by
  by_cases hl : l = []
  · subst hl
    exact ⟨none, 0, by rw [h.nil rfl]; rfl, by simp, by decide, .inl rfl⟩
  · obtain ⟨g, cap, hv, h1, h2, _, hr⟩ := own_range h.row (List.length_pos_iff.2 hl)
    exact ⟨_, cap, hv, h1, h2, .inr ⟨g, rfl, hr⟩⟩
theorem csize_at (base : Nat) (w : World) (c : Nat) (l : List (List UInt8)) (h : ChainAt base w c l) : Calls Tryz.prog 34 #[.pointer (some ⟨c, 0, none⟩)] w fun e w' => e = .returned (.int .u64 (l.length : Int)) ∧ w = w' := by
  obtain ⟨f, v, vf, es, h⟩ := h
  have h0 := h.c0
  have h1 := h.c1
  obtain ⟨a, cap, rfl, k1, k2, -⟩ := h.form
  have hl := h.front.2.2.2.1
  rw [List.length_map] at hl
  clear h
  have hl' : (l.length : Int) < 4000000000 := by omega
  go_enter Tryz.func34, Tryz.ntmps34
  go_wp2_with (go_at_call 112; refine (cnone_live _ c f h0).mono ?_; rintro e w1 ⟨rfl, rfl⟩)
  exact bodyPost_ret (results_tmp rfl _ _ _) rfl ⟨rfl, rfl⟩
theorem cnew_at (w : World) : Calls Tryz.prog 29 #[] w fun e w' => ∃ c, e = .returned (.pointer (some ⟨c, 0, none⟩)) ∧ ChainAt w.heap.size w' c [] ∧ Below w.heap.size w w' := by
  go_enter Tryz.func29, Tryz.ntmps29
  go_wp2_with fail
  refine (new_front w).mono ?_
  rintro e w1 ⟨rfl, hF, hB⟩
  have hf := hF.below (al (Below.refl _ w1) (.cells #[.pointer (some ⟨w.heap.size, 0, none⟩), .slice none 0 0] 125))
  have hlt := hF.lt
  have hC : ChainIn w.heap.size (w1.alloc (.cells #[.pointer (some ⟨w.heap.size, 0, none⟩), .slice none 0 0] 125)) w1.heap.size w.heap.size (.slice none 0 0) (.slice none 0 0) [] [] :=
    { head := heap_alloc_new w1 _, front := hf, row := World.ownsRow_nil _ _ _ _, nil := fun _ => rfl, len := rfl, ents := (fun i e b he _ => by simp at he), hc := hB.size, hf := Nat.le_refl _, hvf := (fun k hk => by cases hk), cf := (by omega), vc := (by simp [Value.ownBlock]), vf_ := (by simp [Value.ownBlock]), fc := (by simp [Value.ownBlock]), vv := (fun k hk => by cases hk) }
  have HC := Lib.hid hC
  have HB := Lib.hid (hB.alloc hB.size (.cells #[.pointer (some ⟨w.heap.size, 0, none⟩), .slice none 0 0] 125))
  clear hC hf hF hB hlt
  go_wp2_with fail
  refine bodyPost_ret (results_tmp rfl _ _ _) rfl ?_
  exact ⟨_, rfl, ⟨_, _, _, _, HC.out⟩, HB.out⟩
end Go.Proofs.YtdkcndgehgmadaaGreatDoor
-- Walks: chains' last of a chain's first ones; an entry in a variable.
open Go Go.RowKit Alm
namespace Go.Proofs.YtdkcndgehgmadaaGreatDoor
theorem ChainIn.take {base : Nat} {w : World} {c f : Nat} {v vf : Value} {es : List Ent} {l : List (List UInt8)} (h : ChainIn base w c f v vf es l) (k : Nat) (hk : k ≤ l.length) (a : Option Addr) (cap : Nat) (hv : v = .slice a l.length cap) : EntsAt w (.slice a k cap) (es.take k) := by
  obtain ⟨a', cap', e, h1, h2, h3⟩ := h.form
  rw [hv] at e
  simp only [Value.slice.injEq, true_and] at e
  obtain ⟨rfl, rfl⟩ := e
  have hl : (es.take k).length = k := by rw [List.length_take, h.len]; omega
  refine ⟨a, cap, by rw [hl], by rw [hl]; omega, h2, ?_⟩
  rcases h3 with rfl | ⟨g, rfl, hr⟩
  · left
    have : es = [] := List.length_eq_zero_iff.1 (by rw [h.len]; rfl)
    rw [this]; simp
  · right
    refine ⟨g, rfl, ?_⟩
    rw [← List.take_append_drop k es, cellsEnts_append, range_append] at hr
    exact hr.1
theorem last_at {base : Nat} {w : World} {c f : Nat} {v vf : Value} {es : List Ent} {l : List (List UInt8)} (h : ChainIn base w c f v vf es l) (k : Nat) (hk : k ≤ l.length) (a : Option Addr) (cap : Nat) (hv : v = .slice a l.length cap) :
    Calls Tryz.prog 115 #[.slice a k cap] w fun e w' => (∃ p r, e = .returned (tv p (mk (l.take k)) r) ∧ (k ≠ 0 → r = rt ((l.take k).map lf))) ∧ Below w.heap.size w w' := by
  have ht := h.take k hk a cap hv
  by_cases h0 : k = 0
  · subst h0
    rw [List.take_zero] at ht
    refine (last_nil _ w ht).mono ?_
    rintro e w' ⟨rfl, hb⟩
    exact ⟨⟨_, _, by rw [List.take_zero, mk_nil], fun h => (h rfl).elim⟩, hb⟩
  · obtain ⟨j, rfl⟩ : ∃ j, k = j + 1 := ⟨k - 1, by omega⟩
    have hje : j < es.length := by rw [h.len]; omega
    have hjl : j < l.length := by omega
    rw [List.take_succ_eq_append_getElem hje] at ht
    have hE := h.ents j es[j] l[j] (List.getElem?_eq_getElem hje) (List.getElem?_eq_getElem hjl)
    refine (last_snoc _ _ _ w ht).mono ?_
    rintro e w' ⟨rfl, hb⟩
    refine ⟨⟨_, _, by rw [hE.mark, List.take_succ_eq_append_getElem hjl], fun _ => ?_⟩, hb⟩
    rw [hE.root, List.take_succ_eq_append_getElem hjl]
/-- A variable that is an entry. -/
def EntRow (W : World) (X : Nat) (e : Ent) : Prop := W.heap[X]? = some (.cells (cellsEnt e).toArray 129 (0, 0))
theorem EntRow.range {W : World} {X : Nat} {e : Ent} (h : EntRow W X e) : W.rangeAt X 0 (cellsEnt e) := fun j u hj => by
  rw [cell_of_row W X _ _ _ (0, 0) h, Nat.zero_add]; simpa using hj
theorem EntRow.there {W : World} {X : Nat} {e : Ent} (h : EntRow W X e) (o n : Nat) (ho : o + n ≤ 97) : W.there X o n := fun j hj => by
  refine ⟨?_, frozen_of_row W X _ _ _ h⟩
  rw [cell_of_row W X _ _ _ (0, 0) h, List.getElem?_toArray, List.getElem?_eq_getElem (by rw [length_cellsEnt]; omega)]; rfl
theorem EntRow.lt {W : World} {X : Nat} {e : Ent} (h : EntRow W X e) : X < W.heap.size := (Array.getElem?_eq_some_iff.1 h).1
theorem EntRow.set0 {W : World} {X : Nat} {e : Ent} (h : EntRow W X e) (s : Sum) : EntRow (W.setCells X 0 (cellsOf s)) X { e with leaf := s } := by
  have := heap_setCells X 129 (cellsOf s) 0 (cellsEnt e) W h (by rw [length_cellsOf, length_cellsEnt]; omega)
  rw [EntRow, this]
  simp [cellsEnt, cells3, length_cellsOf, Ent.v]
theorem EntRow.set1 {W : World} {X : Nat} {e : Ent} (h : EntRow W X e) (s : Sum) : EntRow (W.setCells X 32 (cellsOf s)) X { e with mark := s } := by
  have := heap_setCells X 129 (cellsOf s) 32 (cellsEnt e) W h (by rw [length_cellsOf, length_cellsEnt]; omega)
  rw [EntRow, this]
  simp [cellsEnt, cells3, List.drop_append, length_cellsOf, Ent.v]
theorem EntRow.set2 {W : World} {X : Nat} {e : Ent} (h : EntRow W X e) (s : Sum) : EntRow (W.setCells X 64 (cellsOf s)) X { e with root := s } := by
  have := heap_setCells X 129 (cellsOf s) 64 (cellsEnt e) W h (by rw [length_cellsOf, length_cellsEnt]; omega)
  rw [EntRow, this]
  simp [cellsEnt, cells3, List.take_append, List.drop_append, length_cellsOf, Ent.v]
  rw [List.take_of_length_le (by rw [length_cellsOf]; omega), List.drop_of_length_le (by rw [length_cellsOf]; omega), List.drop_of_length_le (by rw [length_cellsOf]; omega)]
  rfl
theorem wpList_var_ent {ops : Array Oper} {rest : List Oper} {op : Oper} {a : Act} {w : World} {C : Array Value} {Q : Exit → Act → World → Prop} (hC : C.size = 97) (hgd : op.guard = none) (x y : Operand) (ho : op.op = .store 129 x y)
    (e : Ent) (hx : a.eval x = .pointer (some ⟨w.heap.size, 0, none⟩)) (hy : a.eval y = .agg (cellsEnt e).toArray)
    (h : ∀ W', Below w.heap.size w W' → EntRow W' w.heap.size e → wpList Tryz.prog ops Q rest (a.put op.dst undef) W') : wpList Tryz.prog ops Q (op :: rest) a (w.alloc (.cells C 129)) := by
  have ht : (w.alloc (.cells C 129)).there w.heap.size 0 97 := by rw [← hC]; exact there_new _ _ _
  have hr := heap_setCells_all (w.alloc (.cells C 129)) w.heap.size 129 C (cellsEnt e) (heap_alloc_new w _) (by rw [hC, length_cellsEnt])
  exact wpList_store_mid hgd _ x y ho w.heap.size 0 _ hx hy (by simpa [length_cellsEnt] using ht) (by simpa [length_cellsEnt] using infoEnt) (all_oneCell_toArray (oneCell_cellsEnt e)) (h _ (setCells_below _ (Nat.le_refl _) _ 0 _ _ (al (Below.refl _ _) _)) hr)
/-- append of one entry. -/
theorem wp_append_ent {w : World} {o : Oper} {a : Act} {K : Act → World → Prop} {Q : Exit → Act → World → Prop} (s x : Operand)
    (ho : o.op = .call { callee := .builtin .append, args := #[s, x], argTypes := #[123, 123] })
    (base : Nat) (v : Value) (l : List Ent) (n : Nat) (hn : l.length = n) (hs : a.eval s = v) (hown : w.ownsRow base 129 97 v n (cellsEnts l))
    (b off c : Nat) (y : Ent) (hx : a.eval x = .slice (some ⟨b, off, none⟩) 1 c) (hr : w.rangeAt b off (cellsEnt y)) (hl : n < 1000000000) (hB : base ≤ w.heap.size)
    (h : ∀ g cap w', w'.ownsRow base 129 97 (.slice (some ⟨g, 0, none⟩) (n + 1) cap) (n + 1) (cellsEnts (l ++ [y])) → w.grownBy w' v.ownBlock → (v.ownBlock = some g ∨ g = w.heap.size) → g < w'.heap.size → K (a.put o.dst (.slice (some ⟨g, 0, none⟩) (n + 1) cap)) w') : o.wp Tryz.prog a w K Q := by
  obtain ⟨i, z, hi, hz, h1, h2, h3⟩ := info_ent
  refine wp_append_lies w s x _ ho base _ i z 97 120 Tryz.underlying123 hi hz h1 h2 h3 (by omega) v n (cellsEnts l) hs hown ⟨b, off, none⟩ 1 c (cellsEnt y) hx (by rw [length_cellsEnt]) (fun j u hj => by rw [Addr.add_mid]; exact hr j u hj) (oneCell_cellsEnt y) (by omega) (by unfold maxLen; omega) (by omega) hB w.heap.size rfl ?_
  intro g cap w' ho' hg hat hlt
  refine h g cap w' ?_ hg hat hlt
  rw [cellsEnts_append, cellsEnts_one]; exact ho'
/-- A slice literal of one entry. -/
theorem wp_build_ents {w : World} {o : Oper} {a : Act} {K : Act → World → Prop} {Q : Exit → Act → World → Prop} (x : Operand) (ho : o.op = .buildSlice 123 1 #[(0, x)]) (e : Ent) (hx : a.eval x = .agg (cellsEnt e).toArray)
    (h : K (a.put o.dst (.slice (some ⟨w.heap.size, 0, none⟩) 1 1)) (w.alloc (.cells (cellsEnt e).toArray 129))) : o.wp Tryz.prog a w K Q := by
  obtain ⟨i, z, hi, hz, hs, hb, hzs⟩ := info_ent
  refine wp_buildSlice _ 129 1 _ ho (cellsEnt e).toArray i z Tryz.underlying123 hi hz (by rw [hs]; omega) (by rw [hs]; omega) ?_ h
  have hp : ((#[(0, x)] : Array (Nat × Operand)).toList.map fun (i, x) => (i, a.eval x)) = ([Value.agg (cellsEnt e).toArray].zipIdx 0).map fun x => (x.2, x.1) := by simp [hx]
  rw [Array.toList_map, hp, hs, Great.fill_whole (s := 97) (by omega) [Value.agg (cellsEnt e).toArray] _ (fun v hv => by rw [List.mem_singleton.1 hv]; simp [Value.cells, length_cellsEnt]) (by simp)]
  simp [Value.cells]
theorem wp_load_ent {op : Oper} {a : Act} {w : World} {K : Act → World → Prop} {Q : Exit → Act → World → Prop} (x : Operand) (ho : op.op = .load 129 x)
    (b o : Nat) (hx : a.eval x = .pointer (some ⟨b, o, none⟩)) (e : Ent) (hc : w.rangeAt b o (cellsEnt e)) (h : K (a.put op.dst (.agg (cellsEnt e).toArray)) w) : op.wp Tryz.prog a w K Q :=
  wp_load_mid _ x ho b o hx (cellsEnt e) _ hc Tryz.underlying129 rfl (by rw [length_cellsEnt]; exact infoEnt) h
end Go.Proofs.YtdkcndgehgmadaaGreatDoor
-- The seat's words: sums compared; literals of sums; SameSums.
open Go Go.RowKit Alm
namespace Go.Proofs.YtdkcndgehgmadaaGreatDoor
theorem eq_sums_d (d : Nat) (s t : Sum) (w : World) : (Op.equalIn (d + 2) 24 (.agg (cellsOf s).toArray) (.agg (cellsOf t).toArray)).run Tryz.prog w = .ok (decide (s = t)) w := by
  have h := run_equalIn_bytes (P := Tryz.prog) w d 24 5 32 Tryz.underlying24 Tryz.underlying5 (fun w => Tryz.sizeOf5 w) s.toList t.toList (by simp) (by simp)
  have hc : ∀ s : Sum, cellsOf s = s.toList.map Extern.Stop.cell := fun s => rfl
  simp only [hc]
  rw [h]
  have hd : (s.toList == t.toList) = decide (s = t) := by
    rw [Bool.eq_iff_iff]
    simp
  rw [hd]
theorem eq_sums (s t : Sum) (w : World) : (Op.equalIn 10000 24 (.agg (cellsOf s).toArray) (.agg (cellsOf t).toArray)).run Tryz.prog w = .ok (decide (s = t)) w := by
  obtain ⟨d, hd⟩ : ∃ d, 10000 = d + 2 := ⟨9998, rfl⟩
  rw [hd]
  exact eq_sums_d d s t w
theorem eq_sums_same (s : Sum) (w : World) : (Op.equalIn 10000 24 (.agg (cellsOf s).toArray) (.agg (cellsOf s).toArray)).run Tryz.prog w = .ok true w := by
  rw [eq_sums]; simp
/-- The sum whose first byte is b. -/
noncomputable def lit (b : UInt8) : Sum := Classical.choose (⟨Vector.ofFn fun i : Fin 32 => if i.1 = 0 then b else 0, rfl⟩ : ∃ s : Sum, s = Vector.ofFn fun i : Fin 32 => if i.1 = 0 then b else 0)
theorem lit_eq (b : UInt8) : lit b = Vector.ofFn fun i : Fin 32 => if i.1 = 0 then b else 0 := Classical.choose_spec (⟨Vector.ofFn fun i : Fin 32 => if i.1 = 0 then b else 0, rfl⟩ : ∃ s : Sum, s = Vector.ofFn fun i : Fin 32 => if i.1 = 0 then b else 0)
theorem build_1 (w : World) : (Instr.build 24 #[(0, .int .u8 1)]).run Tryz.prog w = .ok (.agg (cellsOf (lit 1)).toArray) w := by rw [lit_eq]; kernel_rfl
theorem build_2 (w : World) : (Instr.build 24 #[(0, .int .u8 2)]).run Tryz.prog w = .ok (.agg (cellsOf (lit 2)).toArray) w := by rw [lit_eq]; kernel_rfl
theorem build_3 (w : World) : (Instr.build 24 #[(0, .int .u8 3)]).run Tryz.prog w = .ok (.agg (cellsOf (lit 3)).toArray) w := by rw [lit_eq]; kernel_rfl
theorem build_9 (w : World) : (Instr.build 24 #[(0, .int .u8 9)]).run Tryz.prog w = .ok (.agg (cellsOf (lit 9)).toArray) w := by rw [lit_eq]; kernel_rfl
/-- A new variable that is a sum, set. -/
theorem wpList_var_sum {ops : Array Oper} {rest : List Oper} {op : Oper} {a : Act} {w : World} {C : Array Value} {t : TypeId} {Q : Exit → Act → World → Prop} (hC : C.size = 32) (hgd : op.guard = none) (x y : Operand) (ho : op.op = .store 24 x y)
    (s : Sum) (hx : a.eval x = .pointer (some ⟨w.heap.size, 0, none⟩)) (hy : a.eval y = sv s)
    (h : ∀ W', Below w.heap.size w W' → W'.rangeAt w.heap.size 0 (cellsOf s) → W'.there w.heap.size 0 32 → w.heap.size < W'.heap.size → wpList Tryz.prog ops Q rest (a.put op.dst undef) W') : wpList Tryz.prog ops Q (op :: rest) a (w.alloc (.cells C t)) := by
  have ht : (w.alloc (.cells C t)).there w.heap.size 0 32 := by rw [← hC]; exact there_new _ _ _
  have ht2 := World.there_setCells ht w.heap.size 0 (cellsOf s)
  refine wpList_store_sum hgd x y ho w.heap.size 0 s hx hy ht (h _ (setCells_below _ (Nat.le_refl _) _ 0 _ _ (al (Below.refl _ _) _)) (range_stored _ _ _ _ (by rw [length_cellsOf]; exact ht2)) ht2 (there_lt ht2 (by omega)))
theorem val_1 : (Value.agg #[.int .u8 1, .int .u8 0, .int .u8 0, .int .u8 0, .int .u8 0, .int .u8 0, .int .u8 0, .int .u8 0, .int .u8 0, .int .u8 0, .int .u8 0, .int .u8 0, .int .u8 0, .int .u8 0, .int .u8 0, .int .u8 0, .int .u8 0, .int .u8 0, .int .u8 0, .int .u8 0, .int .u8 0, .int .u8 0, .int .u8 0, .int .u8 0, .int .u8 0, .int .u8 0, .int .u8 0, .int .u8 0, .int .u8 0, .int .u8 0, .int .u8 0, .int .u8 0]) = sv (lit 1) := by rw [lit_eq]; rfl
theorem val_2 : (Value.agg #[.int .u8 2, .int .u8 0, .int .u8 0, .int .u8 0, .int .u8 0, .int .u8 0, .int .u8 0, .int .u8 0, .int .u8 0, .int .u8 0, .int .u8 0, .int .u8 0, .int .u8 0, .int .u8 0, .int .u8 0, .int .u8 0, .int .u8 0, .int .u8 0, .int .u8 0, .int .u8 0, .int .u8 0, .int .u8 0, .int .u8 0, .int .u8 0, .int .u8 0, .int .u8 0, .int .u8 0, .int .u8 0, .int .u8 0, .int .u8 0, .int .u8 0, .int .u8 0]) = sv (lit 2) := by rw [lit_eq]; rfl
theorem val_3 : (Value.agg #[.int .u8 3, .int .u8 0, .int .u8 0, .int .u8 0, .int .u8 0, .int .u8 0, .int .u8 0, .int .u8 0, .int .u8 0, .int .u8 0, .int .u8 0, .int .u8 0, .int .u8 0, .int .u8 0, .int .u8 0, .int .u8 0, .int .u8 0, .int .u8 0, .int .u8 0, .int .u8 0, .int .u8 0, .int .u8 0, .int .u8 0, .int .u8 0, .int .u8 0, .int .u8 0, .int .u8 0, .int .u8 0, .int .u8 0, .int .u8 0, .int .u8 0, .int .u8 0]) = sv (lit 3) := by rw [lit_eq]; rfl
theorem val_9 : (Value.agg #[.int .u8 9, .int .u8 0, .int .u8 0, .int .u8 0, .int .u8 0, .int .u8 0, .int .u8 0, .int .u8 0, .int .u8 0, .int .u8 0, .int .u8 0, .int .u8 0, .int .u8 0, .int .u8 0, .int .u8 0, .int .u8 0, .int .u8 0, .int .u8 0, .int .u8 0, .int .u8 0, .int .u8 0, .int .u8 0, .int .u8 0, .int .u8 0, .int .u8 0, .int .u8 0, .int .u8 0, .int .u8 0, .int .u8 0, .int .u8 0, .int .u8 0, .int .u8 0]) = sv (lit 9) := by rw [lit_eq]; rfl
theorem lit_ne {a b : UInt8} (h : a ≠ b) : lit a ≠ lit b := by
  intro e
  rw [lit_eq, lit_eq] at e
  have := congrArg (fun v : Sum => v[0]) e
  simp at this
  exact h this
set_option maxRecDepth 100000 in
set_option maxHeartbeats 1000000 in
theorem same_sums (a b : List Sum) (va vb : Value) (w : World) (ha : SumsAt w va a) (hb : SumsAt w vb b) : Calls Tryz.prog 11 #[va, vb] w fun e w' => e = .returned (.bool (decide (a = b))) ∧ Below w.heap.size w w' := by
  obtain ⟨aa, ca, rfl, ha1, ha2, ha3⟩ := ha
  obtain ⟨ab, cb, rfl, hb1, hb2, hb3⟩ := hb
  have heq := eq_sums
  obtain ⟨n, hn⟩ : ∃ n, n = a.length := ⟨_, rfl⟩
  obtain ⟨m, hm⟩ : ∃ m, m = b.length := ⟨_, rfl⟩
  rw [← hn] at ha1 ⊢
  rw [← hm] at hb1 ⊢
  have HN := Lib.hid hn; clear hn
  have HM := Lib.hid hm; clear hm
  unfold maxLen at ha2 hb2
  have hn63 : (n : Int) < 9223372036854775808 := by omega
  by_cases hnm : n = m
  · subst hnm
    have hne : ((n : Int) != (n : Int)) = false := by simp
    have hq : decide (a = b) = decide (∀ j, j < n → a[j]? = b[j]?) := by
      rw [decide_eq_decide]
      constructor
      · rintro rfl j _; rfl
      · intro h
        refine List.ext_getElem? fun j => ?_
        by_cases hj : j < n
        · exact h j hj
        · rw [List.getElem?_eq_none (by rw [← HN.out]; omega), List.getElem?_eq_none (by rw [← HM.out]; omega)]
    obtain ⟨r, hr⟩ : ∃ r, r = decide (a = b) := ⟨_, rfl⟩
    rw [← hr] at hq ⊢
    have HQ := Lib.hid hq; clear hq hr
    go_enter Tryz.func11, Tryz.ntmps11
    go_wp2_with fail
    go_loopw [5] (fun i W => ∃ j : Nat, j ≤ n ∧ i = .int .i64 (j : Int) ∧ (∀ k, k < j → a[k]? = b[k]?) ∧ Below w.heap.size w W) (fun i _ => n - (intOf i).toNat)
    case atStart => exact ⟨0, by omega, rfl, fun k hk => by omega, Below.refl _ _⟩
    case round =>
      obtain ⟨j, hj, rfl, hall, hB⟩ := hrel
      have HA := Lib.hid hall; clear hall
      by_cases hlt : j < n
      · have hlt' : (j : Int) < (n : Int) := by omega
        have hj0 : (0 : Int) ≤ (j : Int) := by omega
        have hna : a ≠ [] := by intro h; have := HN.out; rw [h] at this; simp at this; omega
        have hnb : b ≠ [] := by intro h; have := HM.out; rw [h] at this; simp at this; omega
        obtain ⟨ba, oa, rfl, hra⟩ := ha3.resolve_left hna
        obtain ⟨bb, ob, rfl, hrb⟩ := hb3.resolve_left hnb
        have hja : j < a.length := by have := HN.out; omega
        have hjb : j < b.length := by have := HM.out; omega
        have hxa := Lib.hid (range_below hB (range_at hra hja) (range_lt (range_at hra hja) (by intro h; have := length_cellsOf a[j]; rw [h] at this; cases this)))
        have hxb := Lib.hid (range_below hB (range_at hrb hjb) (range_lt (range_at hrb hjb) (by intro h; have := length_cellsOf b[j]; rw [h] at this; cases this)))
        have hga := Lib.hid (List.getElem?_eq_getElem hja)
        have hgb := Lib.hid (List.getElem?_eq_getElem hjb)
        generalize a[j] = x at *
        generalize b[j] = y at *
        clear hra hrb hja hjb ha3 hb3
        go_wp2_with fail
        refine wp_region_sched (fun W => W.rangeAt ba (oa + j * 32) (cellsOf x) ∧ W.rangeAt bb (ob + j * 32) (cellsOf y)) [.t 0, .t 1, .t 2, .t 4, .t 5, .t 6, .s 3, .e 7 true, .t 8] (by kernel_rfl) (by kernel_rfl) (by intro c a d v w h; cases d <;> exact h) ?_
        iterate 6
          refine wpS_t rfl (v := ?_) (by rfl) (fun W => ?_) ?_
          rotate_left
          · go_simp
            try rfl
          try simp only [Act.put, List.setIfInBounds_toArray, List.set_cons_zero, List.set_cons_succ]
        refine wpS_load_sum (by exact ⟨hxa.out, hxb.out⟩) rfl (by rfl) _ (by rfl) ba (oa + j * 32) (by rfl) x (fun W hW => hW.1) ?_
        try simp only [Act.put, List.setIfInBounds_toArray, List.set_cons_zero, List.set_cons_succ]
        refine wpS_k rfl (by rfl) (fun K hK => ?_)
        refine wp_load_sum _ (by rfl) bb (ob + j * 32) (by rfl) y (by exact hxb.out) ?_
        refine hK _ _ ⟨by exact ⟨hxa.out, hxb.out⟩, ?_⟩; clear hK K
        try simp only [Act.put, List.setIfInBounds_toArray, List.set_cons_zero, List.set_cons_succ]
        by_cases hxy : x = y
        · subst hxy
          have hes := eq_sums_same x
          clear heq
          iterate 1
            refine wpS_t rfl (v := ?_) (by rfl) (fun W => ?_) ?_
            rotate_left
            · go_simp
              try rfl
            try simp only [Act.put, List.setIfInBounds_toArray, List.set_cons_zero, List.set_cons_succ]
          refine wpS_done ?_
          go_wp2_with fail
          refine ⟨⟨j + 1, by omega, by simp, fun k hk => ?_, hB.drew⟩, by simp [intOf]; omega⟩
          by_cases hkj : k < j
          · exact HA.out k hkj
          · have : k = j := by omega
            rw [this, hga.out, hgb.out]
        · have hes : ∀ w : World, (Op.equalIn 10000 24 (.agg (cellsOf x).toArray) (.agg (cellsOf y).toArray)).run Tryz.prog w = .ok false w := fun w => by rw [eq_sums]; simp [hxy]
          clear heq
          iterate 1
            refine wpS_t rfl (v := ?_) (by rfl) (fun W => ?_) ?_
            rotate_left
            · go_simp
              try rfl
            try simp only [Act.put, List.setIfInBounds_toArray, List.set_cons_zero, List.set_cons_succ]
          refine wpS_done ?_
          have hr : r = false := by
            rw [HQ.out]
            simp only [decide_eq_false_iff_not]
            intro h
            have := h j hlt
            rw [hga.out, hgb.out] at this
            exact hxy (by simpa using this)
          go_wp2_with fail
          exact bodyPost_ret (results_tmp rfl _ _ _) rfl ⟨by rw [hr]; rfl, hB.drew⟩
      · have hjn : j = n := by omega
        subst hjn
        have hr : r = true := by rw [HQ.out]; simpa using HA.out
        go_wp2_with fail
        exact bodyPost_ret (results_tmp rfl _ _ _) rfl ⟨by rw [hr]; rfl, hB⟩
  · have hr : decide (a = b) = false := by
      simp only [decide_eq_false_iff_not]
      rintro rfl
      exact hnm (HN.out.trans HM.out.symm)
    rw [hr]
    have hne : ((n : Int) != (m : Int)) = true := by rw [bne_iff_ne]; omega
    clear hr
    go_enter Tryz.func11, Tryz.ntmps11
    go_wp2_with fail
    exact bodyPost_ret (results_tmp rfl _ _ _) rfl ⟨rfl, Below.refl _ _⟩
end Go.Proofs.YtdkcndgehgmadaaGreatDoor
