/-
  Two sums side by side; pairs that grow; what a height of Root has in hand.
-/
import Derived.Test.YtfmgoehnbaiamaaU8
import Derived.Laws.IdiomCopy
open Go Go.RowKit Alm
namespace Go.Proofs.Ytfmgoehnbaiamaa
/-- Two sums, as a value. -/
def cells2 (x y : Sum) : List Value := cellsOf x ++ cellsOf y
abbrev bv (x y : Sum) : Value := .agg (cells2 x y).toArray
theorem length_cells2 (x y : Sum) : (cells2 x y).length = 64 := by simp [cells2, length_cellsOf]
theorem all_cells2 (x y : Sum) : (cells2 x y).toArray.all (·.oneCell') = true := all_oneCell_toArray (fun v hv => by
  rcases List.mem_append.1 hv with h | h
  · exact oneCell_cellsOf x v h
  · exact oneCell_cellsOf y v h)
theorem infoBoth : (Try.prog.info? 87).map (·.size) = some 64 := by kernel_rfl
theorem infoBothZ : (Try.prog.info? 87).map (fun i => i.zero.map fun z => z.cells.size) = some (some 64) := by kernel_rfl
theorem wpList_load_both {ops : Array Oper} {rest : List Oper} {op : Oper} {a : Act} {w : World} {Q : Exit → Act → World → Prop} (hgd : op.guard = none) (x : Operand) (ho : op.op = .load 87 x)
    (b o : Nat) (hx : a.eval x = .pointer (some ⟨b, o, none⟩)) (s t : Sum) (hc : w.rangeAt b o (cells2 s t))
    (h : wpList Try.prog ops Q rest (a.put op.dst (bv s t)) w) : wpList Try.prog ops Q (op :: rest) a w :=
  wpList_load_mid hgd _ x ho b o hx (cells2 s t) _ hc Try.underlying87 rfl (by rw [length_cells2]; exact infoBoth) h
theorem wpList_store_both {ops : Array Oper} {rest : List Oper} {op : Oper} {a : Act} {w : World} {Q : Exit → Act → World → Prop} (hgd : op.guard = none) (x y : Operand) (ho : op.op = .store 87 x y)
    (b o : Nat) (s t : Sum) (hx : a.eval x = .pointer (some ⟨b, o, none⟩)) (hy : a.eval y = bv s t) (ht : w.there b o 64)
    (h : wpList Try.prog ops Q rest (a.put op.dst undef) (w.setCells b o (cells2 s t))) : wpList Try.prog ops Q (op :: rest) a w :=
  wpList_store_mid hgd _ x y ho b o _ hx hy (by simpa [length_cells2] using ht) (by simpa [length_cells2] using infoBoth) (all_cells2 s t) h
theorem wp_store_both {op : Oper} {a : Act} {w : World} {K : Act → World → Prop} {Q : Exit → Act → World → Prop} (x y : Operand) (ho : op.op = .store 87 x y)
    (b o : Nat) (s t : Sum) (hx : a.eval x = .pointer (some ⟨b, o, none⟩)) (hy : a.eval y = bv s t) (ht : w.there b o 64) (h : K (a.put op.dst undef) (w.setCells b o (cells2 s t))) : op.wp Try.prog a w K Q :=
  wp_store_mid _ x y ho b o _ hx hy (by simpa [length_cells2] using ht) (by simpa [length_cells2] using infoBoth) (all_cells2 s t) h
set_option maxRecDepth 100000 in
theorem build_both (x y : Sum) (w : World) : (Instr.build 87 #[(0, .agg (cellsOf x).toArray), (1, .agg (cellsOf y).toArray)]).run Try.prog w = .ok (bv x y) w := by
  obtain ⟨ib, hib, hzb⟩ := Option.map_eq_some_iff.1 infoBothZ
  obtain ⟨zb, hz, hzs⟩ := Option.map_eq_some_iff.1 hzb
  obtain ⟨i, z, hi, hz1, hs, hb, hz2⟩ := info_sum
  refine run_build w _ _ _ ?_
  unfold Program.built
  simp only [hib, Try.underlying87, hz, hi, hs]
  have := Great.fill_whole (s := 32) (by omega) [sv x, sv y] zb.cells (fun v hv => by
    rcases List.mem_cons.1 hv with rfl | hv
    · exact size_cellsOf x
    · rw [List.mem_singleton.1 hv]; exact size_cellsOf y) (by rw [hzs]; rfl)
  refine this.trans ?_
  congr 1
  simp [cells2, Value.cells]
theorem wpList_build_both {ops : Array Oper} {rest : List Oper} {op : Oper} {a : Act} {w : World} {Q : Exit → Act → World → Prop} (hgd : op.guard = none) (parts : Array (Nat × Operand)) (ho : op.op = .build 87 parts)
    (x y : Sum) (hp : (parts.toList.map fun (i, x) => (i, a.eval x)) = [(0, sv x), (1, sv y)])
    (h : wpList Try.prog ops Q rest (a.put op.dst (bv x y)) w) : wpList Try.prog ops Q (op :: rest) a w :=
  wpList_build_by hgd 87 parts ho (bv x y) (fun W => by
    have : (parts.map fun (i, x) => (i, a.eval x)) = #[(0, sv x), (1, sv y)] := by
      apply Array.toList_inj.1
      rw [Array.toList_map]; exact hp
    rw [this]
    exact build_both x y W) h
theorem exec_build_both {f : Operand → Value} {o : Oper} (parts : Array (Nat × Operand)) (ho : o.op = .build 87 parts) (x y : Sum) (hp : (parts.toList.map fun (i, x) => (i, f x)) = [(0, sv x), (1, sv y)]) (W : World) :
    (execOp f o).run Try.prog W = .ok (.value (bv x y)) W := by
  have : (parts.map fun (i, x) => (i, f x)) = #[(0, sv x), (1, sv y)] := by
    apply Array.toList_inj.1
    rw [Array.toList_map]; exact hp
  unfold execOp
  simp only [ho, Sem.run_bind, Sem.run_pure, Result.andThen_ok, this, build_both]
theorem range_left_ {w : World} {b o : Nat} {xs ys : List Value} (h : w.rangeAt b o (xs ++ ys)) : w.rangeAt b o xs := fun j v hv => h j v (by rw [List.getElem?_append_left (List.getElem?_eq_some_iff.1 hv).1]; exact hv)
theorem range_right_ {w : World} {b o : Nat} {xs ys : List Value} (h : w.rangeAt b o (xs ++ ys)) : w.rangeAt b (o + xs.length) ys := fun j v hv => by
  have := h (xs.length + j) v (by rw [List.getElem?_append_right (by omega), Nat.add_sub_cancel_left]; exact hv)
  rwa [← Nat.add_assoc] at this
/-- A new variable that is two sums, set. -/
theorem wpList_var_both {ops : Array Oper} {rest : List Oper} {op : Oper} {a : Act} {w : World} {C : Array Value} {t : TypeId} {Q : Exit → Act → World → Prop} (hC : C.size = 64) (hgd : op.guard = none) (x y : Operand) (ho : op.op = .store 87 x y)
    (s u : Sum) (hx : a.eval x = .pointer (some ⟨w.heap.size, 0, none⟩)) (hy : a.eval y = bv s u)
    (h : ∀ W', Below w.heap.size w W' → W'.rangeAt w.heap.size 0 (cells2 s u) → W'.there w.heap.size 0 64 → wpList Try.prog ops Q rest (a.put op.dst undef) W') : wpList Try.prog ops Q (op :: rest) a (w.alloc (.cells C t)) := by
  have ht : (w.alloc (.cells C t)).there w.heap.size 0 64 := by rw [← hC]; exact there_new _ _ _
  have ht2 := World.there_setCells ht w.heap.size 0 (cells2 s u)
  exact wpList_store_both hgd x y ho w.heap.size 0 s u hx hy ht (h _ (setCells_below _ (Nat.le_refl _) _ 0 _ _ (al (Below.refl _ _) _)) (range_stored _ _ _ _ (by rw [length_cells2]; exact ht2)) ht2)
theorem keeps_setCells_ (b : Nat) : ∀ (vs : List Value) (o : Nat) (w : World), Keeps (· = b) w (w.setCells b o vs)
  | [], _, _ => Keeps.refl _ _
  | v :: r, o, w => by
    rw [World.setCells]
    exact ((Keeps.refl (· = b) w).setCell (p := ⟨b, o, none⟩) (.inl rfl) v).trans (keeps_setCells_ b r (o + 1) _)
/-- One of two sums, laid anew. -/
theorem both_set {w : World} {b p : Nat} {x y s : Sum} (hr : w.rangeAt b 0 (cells2 x y)) (ht : w.there b 0 64) (hp : p < 2) :
    (w.setCells b (p * 32) (cellsOf s)).rangeAt b 0 (cells2 (if p = 0 then s else x) (if p = 0 then y else s)) ∧ (w.setCells b (p * 32) (cellsOf s)).there b 0 64 := by
  have ht2 := World.there_setCells ht b (p * 32) (cellsOf s)
  refine ⟨?_, ht2⟩
  have h1 := range_left_ hr
  have h2 := range_right_ hr
  rw [length_cellsOf] at h2
  have htp : (w.setCells b (p * 32) (cellsOf s)).there b (p * 32) 32 := fun j hj => by
    have := ht2 (p * 32 + j) (by omega)
    rw [Nat.zero_add] at this
    exact this
  have hst := range_stored b (cellsOf s) (p * 32) w (by rw [length_cellsOf]; exact htp)
  have other : ∀ o, (o + 32 ≤ p * 32 ∨ p * 32 + 32 ≤ o) → ∀ z : Sum, w.rangeAt b o (cellsOf z) → (w.setCells b (p * 32) (cellsOf s)).rangeAt b o (cellsOf z) := fun o ho z hz j v hj => by
    have hjl : j < 32 := by have := (List.getElem?_eq_some_iff.1 hj).1; rw [length_cellsOf] at this; exact this
    rw [World.cell?_setCells_out _ _ _ _ _ (fun _ _ => by rw [length_cellsOf]; show o + j < p * 32 ∨ p * 32 + 32 ≤ o + j; omega)]
    exact hz j v hj
  unfold cells2
  rw [range_append, length_cellsOf]
  match p, hp with
  | 0, _ =>
    rw [if_pos rfl, if_pos rfl]
    exact ⟨by simpa using hst, other 32 (by omega) y (by simpa using h2)⟩
  | 1, _ =>
    rw [if_neg (by omega), if_neg (by omega)]
    exact ⟨other 0 (by omega) x h1, by simpa using hst⟩
theorem infoPair : (Try.prog.info? 36).map (·.size) = some 33 := by kernel_rfl
theorem wp_load_pair {op : Oper} {a : Act} {w : World} {K : Act → World → Prop} {Q : Exit → Act → World → Prop} (x : Operand) (ho : op.op = .load 36 x)
    (b o : Nat) (hx : a.eval x = .pointer (some ⟨b, o, none⟩)) (y : PE) (hc : w.rangeAt b o (encP y)) (h : K (a.put op.dst (.agg (encP y).toArray)) w) : op.wp Try.prog a w K Q :=
  wp_load_mid _ x ho b o hx (encP y) _ hc Try.underlying36 rfl (by rw [length_encP]; exact infoPair) h
theorem wpList_load_pair {ops : Array Oper} {rest : List Oper} {op : Oper} {a : Act} {w : World} {Q : Exit → Act → World → Prop} (hgd : op.guard = none) (x : Operand) (ho : op.op = .load 36 x)
    (b o : Nat) (hx : a.eval x = .pointer (some ⟨b, o, none⟩)) (y : PE) (hc : w.rangeAt b o (encP y)) (h : wpList Try.prog ops Q rest (a.put op.dst (.agg (encP y).toArray)) w) : wpList Try.prog ops Q (op :: rest) a w :=
  wpList_plain hgd fun _ hK => wp_load_pair x ho b o hx y hc (hK _ _ h)
theorem all_encP (y : PE) : (encP y).toArray.all (·.oneCell') = true := all_oneCell_toArray (one_encP y)
theorem wpList_var_pair {ops : Array Oper} {rest : List Oper} {op : Oper} {a : Act} {w : World} {C : Array Value} {t : TypeId} {Q : Exit → Act → World → Prop} (hC : C.size = 33) (hgd : op.guard = none) (x y : Operand) (ho : op.op = .store 36 x y) (s : PE)
    (hx : a.eval x = .pointer (some ⟨w.heap.size, 0, none⟩)) (hy : a.eval y = .agg (encP s).toArray)
    (h : ∀ W', Below w.heap.size w W' → W'.rangeAt w.heap.size 0 (encP s) → wpList Try.prog ops Q rest (a.put op.dst undef) W') : wpList Try.prog ops Q (op :: rest) a (w.alloc (.cells C t)) := by
  have ht : (w.alloc (.cells C t)).there w.heap.size 0 33 := by rw [← hC]; exact there_new _ _ _
  have ht2 := World.there_setCells ht w.heap.size 0 (encP s)
  exact wpList_store_mid hgd _ x y ho w.heap.size 0 _ hx hy (by simpa [length_encP] using ht) (by simpa [length_encP] using infoPair) (all_encP s) (h _ (setCells_below _ (Nat.le_refl _) _ 0 _ _ (al (Below.refl _ _) _)) (by
    have := range_stored w.heap.size (encP s) 0 _ (by rw [length_encP]; exact ht2)
    simpa using this))
theorem encP_cell {w : World} {b : Nat} {y : PE} (h : w.rangeAt b 0 (encP y)) : w.cell? ⟨b, 32, none⟩ = some (peV y) := by
  have := h 32 (peV y) (by rw [encP, List.getElem?_append_right (by rw [length_cellsOf]; omega), length_cellsOf]; rfl)
  rwa [Nat.zero_add] at this
theorem wpList_build_pairs {w : World} {ops : Array Oper} {rest : List Oper} {o : Oper} {a : Act} {Q : Exit → Act → World → Prop} (hgd : o.guard = none) (len : Nat) (parts : Array (Nat × Operand)) (ho : o.op = .buildSlice 22 len parts) (l : List PE) (hl : l.length = len) (h0 : 0 < len) (h1 : len ≤ 1000)
    (hp : (parts.toList.map fun (i, x) => (i, a.eval x)) = (((l.map fun s => Value.agg (encP s).toArray)).zipIdx 0).map fun x => (x.2, x.1))
    (h : wpList Try.prog ops Q rest (a.put o.dst (.slice (some ⟨w.heap.size, 0, none⟩) len len)) (w.alloc (.cells (cellsP l).toArray 36))) : wpList Try.prog ops Q (o :: rest) a w :=
  wpList_plain hgd fun _ hK => wp_build_pairs len parts ho l hl h0 h1 hp (hK _ _ h)
theorem wpList_build_sums1 {w : World} {ops : Array Oper} {rest : List Oper} {o : Oper} {a : Act} {Q : Exit → Act → World → Prop} (hgd : o.guard = none) (len : Nat) (parts : Array (Nat × Operand)) (ho : o.op = .buildSlice 57 len parts) (l : List Sum) (hl : l.length = len) (h0 : 0 < len) (h1 : len ≤ 1000)
    (hp : (parts.toList.map fun (i, x) => (i, a.eval x)) = (((l.map fun s => sv s)).zipIdx 0).map fun x => (x.2, x.1))
    (h : wpList Try.prog ops Q rest (a.put o.dst (.slice (some ⟨w.heap.size, 0, none⟩) len len)) (w.alloc (.cells (cellsAll l).toArray 29))) : wpList Try.prog ops Q (o :: rest) a w :=
  wpList_plain hgd fun _ hK => wp_build_sums len parts ho l hl h0 h1 hp (hK _ _ h)
/-- append of pairs, into a row of pairs. -/
theorem wp_append_pairs {w : World} {o : Oper} {a : Act} {K : Act → World → Prop} {Q : Exit → Act → World → Prop} (s x : Operand)
    (ho : o.op = .call { callee := .builtin .append, args := #[s, x], argTypes := #[22, 22] })
    (base : Nat) (v : Value) (l ys : List PE) (n m : Nat) (_hn : l.length = n) (hm : ys.length = m) (hs : a.eval s = v) (hown : w.ownsRow base 36 33 v n (cellsP l))
    (b off c : Nat) (hx : a.eval x = .slice (some ⟨b, off, none⟩) m c) (hr : w.rangeAt b off (cellsP ys)) (h0 : 0 < m) (hl : n + m < 1000000) (hB : base ≤ w.heap.size)
    (h : ∀ g cap w', w'.ownsRow base 36 33 (.slice (some ⟨g, 0, none⟩) (n + m) cap) (n + m) (cellsP (l ++ ys)) → w.grownBy w' v.ownBlock → (v.ownBlock = some g ∨ g = w.heap.size) → g < w'.heap.size → K (a.put o.dst (.slice (some ⟨g, 0, none⟩) (n + m) cap)) w') : o.wp Try.prog a w K Q := by
  obtain ⟨i, z, hi, hz, h1, h2, h3⟩ := info_pair
  refine wp_append_lies w s x _ ho base _ i z 33 56 Try.underlying22 hi hz h1 h2 h3 (by omega) v n (cellsP l) hs hown ⟨b, off, none⟩ m c (cellsP ys) hx (by rw [length_cellsP, hm]; omega) (fun j u hj => by rw [Addr.add_mid]; exact hr j u hj) (oneCell_cellsP ys) h0 (by unfold maxLen; omega) (by omega) hB w.heap.size rfl ?_
  intro g cap w' ho' hg hat hlt
  refine h g cap w' ?_ hg hat hlt
  rw [cellsP_append]; exact ho'
theorem wpList_append_pairs {w : World} {ops : Array Oper} {rest : List Oper} {o : Oper} {a : Act} {Q : Exit → Act → World → Prop} (hgd : o.guard = none) (s x : Operand)
    (ho : o.op = .call { callee := .builtin .append, args := #[s, x], argTypes := #[22, 22] })
    (base : Nat) (v : Value) (l ys : List PE) (n m : Nat) (hn : l.length = n) (hm : ys.length = m) (hs : a.eval s = v) (hown : w.ownsRow base 36 33 v n (cellsP l))
    (b off c : Nat) (hx : a.eval x = .slice (some ⟨b, off, none⟩) m c) (hr : w.rangeAt b off (cellsP ys)) (h0 : 0 < m) (hl : n + m < 1000000) (hB : base ≤ w.heap.size)
    (h : ∀ g cap w', w'.ownsRow base 36 33 (.slice (some ⟨g, 0, none⟩) (n + m) cap) (n + m) (cellsP (l ++ ys)) → w.grownBy w' v.ownBlock → (v.ownBlock = some g ∨ g = w.heap.size) → g < w'.heap.size → wpList Try.prog ops Q rest (a.put o.dst (.slice (some ⟨g, 0, none⟩) (n + m) cap)) w') : wpList Try.prog ops Q (o :: rest) a w :=
  wpList_plain hgd fun _ hK => wp_append_pairs s x ho base v l ys n m hn hm hs hown b off c hx hr h0 hl hB fun g cap w' h1 h2 h3 h4 => hK _ _ (h g cap w' h1 h2 h3 h4)
/-- One of a list of pairs. -/
theorem cellsP_split {l : List PE} {i : Nat} (h : i < l.length) : cellsP l = cellsP (l.take i) ++ (encP (l.getD i default) ++ cellsP (l.drop (i + 1))) := by
  conv => lhs; rw [← List.take_append_drop i l, cellsP_append, List.drop_eq_getElem_cons h]
  rw [List.getD_eq_getElem?_getD, List.getElem?_eq_getElem h]
  rfl
theorem rangeP_at {w : World} {b o : Nat} {l : List PE} (h : w.rangeAt b o (cellsP l)) {i : Nat} (hi : i < l.length) : w.rangeAt b (o + i * 33) (encP (l.getD i default)) := by
  rw [cellsP_split hi, range_append, length_cellsP, range_append, List.length_take, Nat.min_eq_left (by omega)] at h
  rw [Nat.mul_comm]; exact h.2.1
theorem sums_at {w : World} {v : Value} {l : List Sum} (h : SumsAt w v l) {i : Nat} (hi : i < l.length) : ∃ b o cap, v = .slice (some ⟨b, o, none⟩) l.length cap ∧ l.length ≤ cap ∧ w.rangeAt b (o + i * 32) (cellsOf (l.getD i zeroSum)) := by
  obtain ⟨a, cap, rfl, h1, h2, h3⟩ := h
  rcases h3 with h3 | ⟨b, o, rfl, hr⟩
  · rw [h3] at hi; simp at hi
  · refine ⟨b, o, cap, rfl, h1, ?_⟩
    have := range_at hr hi
    rw [List.getD_eq_getElem?_getD, List.getElem?_eq_getElem hi]
    exact this
/-- The keys of pairs in memory. -/
def KeysIn (w : World) (v : Value) (l : List PE) : Prop :=
  ∃ a cap, v = .slice a l.length cap ∧ l.length ≤ cap ∧ cap ≤ maxLen ∧ (l = [] ∨ ∃ b o, a = some ⟨b, o, none⟩ ∧ w.rangeAt b o (cellsP l))
theorem KeysIn.keep {X : Nat → Prop} {w w' : World} {v : Value} {l : List PE} (h : KeysIn w v l) (hk : Keeps X w w') (hx : l ≠ [] → ∀ k, v.ownBlock = some k → ¬ X k) : KeysIn w' v l := by
  obtain ⟨a, cap, rfl, h1, h2, h3⟩ := h
  refine ⟨a, cap, rfl, h1, h2, ?_⟩
  rcases h3 with h0 | ⟨b, o, rfl, hr⟩
  · exact .inl h0
  · by_cases hl : l = []
    · exact .inl hl
    · exact .inr ⟨b, o, rfl, hk.range hr (hx hl b rfl)⟩
theorem keys_pairs {w : World} {v : Value} {P : List Keys.Pr} (h : PairsAt w v P) : ∃ pe : List PE, KeysIn w v pe ∧ pe.map (·.1) = P.map (·.1) ∧ (pe ≠ [] → ∀ k, v.ownBlock = some k → k < w.heap.size) := by
  obtain ⟨a, cap, cs, rfl, h1, h2, h3, h4, h5⟩ := h
  have hl : cs.length = P.length := by rw [← h3, List.length_map]
  refine ⟨cs.map Prod.fst, ⟨a, cap, by rw [List.length_map, hl], by rw [List.length_map, hl]; exact h1, h2, ?_⟩, by rw [← h3, List.map_map, List.map_map]; rfl, fun hne k hk => ?_⟩
  · rcases h5 with h5 | h5
    · left
      have : cs = [] := List.length_eq_zero_iff.1 (by rw [hl, h5]; rfl)
      rw [this]; rfl
    · exact .inr h5
  · rcases h5 with h5 | ⟨b, o, rfl, hr⟩
    · have : cs = [] := List.length_eq_zero_iff.1 (by rw [hl, h5]; rfl)
      rw [this] at hne; exact absurd rfl hne
    · simp only [Value.ownBlock, Option.some.injEq] at hk
      subst hk
      exact range_lt hr (cellsP_ne hne)
/-- A sum laid behind those that are there. -/
theorem sums_set {W : World} {g m : Nat} {l : List Sum} {s : Sum} (hr : W.rangeAt g 0 (cellsAll l)) (ht : W.there g 0 (32 * m)) (hl : l.length < m) :
    (W.setCells g (l.length * 32) (cellsOf s)).rangeAt g 0 (cellsAll (l ++ [s])) ∧ (W.setCells g (l.length * 32) (cellsOf s)).there g 0 (32 * m) := by
  have ht2 := World.there_setCells ht g (l.length * 32) (cellsOf s)
  refine ⟨?_, ht2⟩
  have htp : (W.setCells g (l.length * 32) (cellsOf s)).there g (l.length * 32) 32 := fun j hj => by
    have := ht2 (l.length * 32 + j) (by omega)
    rw [Nat.zero_add] at this
    exact this
  have hst := range_stored g (cellsOf s) (l.length * 32) W (by rw [length_cellsOf]; exact htp)
  rw [cellsAll_append, range_append, length_cellsAll, cellsAll_one]
  refine ⟨fun j v hj => ?_, by rw [Nat.zero_add, show 32 * l.length = l.length * 32 from Nat.mul_comm _ _]; exact hst⟩
  have hjl : j < 32 * l.length := by have := (List.getElem?_eq_some_iff.1 hj).1; rw [length_cellsAll] at this; exact this
  rw [World.cell?_setCells_out _ _ _ _ _ (fun _ _ => by rw [length_cellsOf]; show 0 + j < l.length * 32 ∨ l.length * 32 + 32 ≤ 0 + j; omega)]
  exact hr j v hj
theorem own_there {w : World} {base : Nat} {e : TypeId} {size g n cap : Nat} {xs : List Value} (h : w.ownsRow base e size (.slice (some ⟨g, 0, none⟩) n cap) n xs) : w.there g 0 (n * size) := by
  rcases h.2 with ⟨hv, _⟩ | ⟨g', cap', cur, hv, hb, hg, hnc, hcm, hsz, htk⟩
  · cases hv
  simp only [Value.slice.injEq, Option.some.injEq, Addr.mk.injEq, and_true, true_and] at hv
  obtain ⟨rfl, rfl⟩ := hv
  intro j hj
  have hlt : j < cur.size := by
    rw [hsz]
    exact Nat.lt_of_lt_of_le hj (Nat.mul_le_mul_right _ hnc)
  refine ⟨?_, ?_⟩
  · rw [cell_of_row _ _ _ cur e (0, 0) hg, Nat.zero_add, Array.getElem?_eq_getElem hlt]; rfl
  · exact frozen_of_row _ _ _ cur e hg
theorem keys_own {w : World} {base : Nat} {v : Value} {l : List PE} (h : w.ownsRow base 36 33 v l.length (cellsP l)) : KeysIn w v l := by
  rcases h.2 with ⟨rfl, h0⟩ | ⟨g, cap, cur, rfl, hb, hg, hnc, hcm, hsz, htk⟩
  · have : l = [] := List.length_eq_zero_iff.1 h0
    subst this
    exact ⟨none, 0, rfl, Nat.le_refl _, by unfold maxLen; omega, .inl rfl⟩
  · refine ⟨_, cap, rfl, hnc, hcm, .inr ⟨g, 0, rfl, fun j u hj => ?_⟩⟩
    rw [cell_of_row w g _ cur _ (0, 0) hg, Nat.zero_add]
    rw [← htk, List.getElem?_take] at hj
    split at hj
    · simpa using hj
    · cases hj
theorem keys_at {w : World} {v : Value} {l : List PE} (h : KeysIn w v l) {i : Nat} (hi : i < l.length) : ∃ b o cap, v = .slice (some ⟨b, o, none⟩) l.length cap ∧ l.length ≤ cap ∧ w.rangeAt b (o + i * 33) (encP (l.getD i default)) := by
  obtain ⟨a, cap, rfl, h1, h2, h3⟩ := h
  rcases h3 with h3 | ⟨b, o, rfl, hr⟩
  · rw [h3] at hi; simp at hi
  · exact ⟨b, o, cap, rfl, h1, rangeP_at hr hi⟩
end Go.Proofs.Ytfmgoehnbaiamaa
