/-
  Joined: U7, U8, U9, U10.
-/
import Derived.Test.YtfmgoehnbaiamaaGreatDoorZBC
import Derived.BigFrame
import Derived.Test.YtfmgoehnbaiamaaGreatDoorZAJ
import Derived.Laws.IdiomCopy
-- Walks: maps: Pairs.
open Go Go.RowKit Alm
namespace Go.Proofs.YtfmgoehnbaiamaaGreatDoor
open Go.Maps (Keyed)
set_option maxRecDepth 100000 in
theorem build_pe (b0 b1 b2 b3 b4 b5 b6 b7 b8 b9 b10 b11 b12 b13 b14 b15 b16 b17 b18 b19 b20 b21 b22 b23 b24 b25 b26 b27 b28 b29 b30 b31 : UInt8) (a : Option Addr) (n c : Nat) (w : World) : (Instr.build 41 #[(0, .agg #[.int .u8 ((b0.toNat : Nat) : Int), .int .u8 ((b1.toNat : Nat) : Int), .int .u8 ((b2.toNat : Nat) : Int), .int .u8 ((b3.toNat : Nat) : Int), .int .u8 ((b4.toNat : Nat) : Int), .int .u8 ((b5.toNat : Nat) : Int), .int .u8 ((b6.toNat : Nat) : Int), .int .u8 ((b7.toNat : Nat) : Int), .int .u8 ((b8.toNat : Nat) : Int), .int .u8 ((b9.toNat : Nat) : Int), .int .u8 ((b10.toNat : Nat) : Int), .int .u8 ((b11.toNat : Nat) : Int), .int .u8 ((b12.toNat : Nat) : Int), .int .u8 ((b13.toNat : Nat) : Int), .int .u8 ((b14.toNat : Nat) : Int), .int .u8 ((b15.toNat : Nat) : Int), .int .u8 ((b16.toNat : Nat) : Int), .int .u8 ((b17.toNat : Nat) : Int), .int .u8 ((b18.toNat : Nat) : Int), .int .u8 ((b19.toNat : Nat) : Int), .int .u8 ((b20.toNat : Nat) : Int), .int .u8 ((b21.toNat : Nat) : Int), .int .u8 ((b22.toNat : Nat) : Int), .int .u8 ((b23.toNat : Nat) : Int), .int .u8 ((b24.toNat : Nat) : Int), .int .u8 ((b25.toNat : Nat) : Int), .int .u8 ((b26.toNat : Nat) : Int), .int .u8 ((b27.toNat : Nat) : Int), .int .u8 ((b28.toNat : Nat) : Int), .int .u8 ((b29.toNat : Nat) : Int), .int .u8 ((b30.toNat : Nat) : Int), .int .u8 ((b31.toNat : Nat) : Int)]), (1, .slice a n c)]).run Tryz.prog w = .ok (.agg #[.int .u8 ((b0.toNat : Nat) : Int), .int .u8 ((b1.toNat : Nat) : Int), .int .u8 ((b2.toNat : Nat) : Int), .int .u8 ((b3.toNat : Nat) : Int), .int .u8 ((b4.toNat : Nat) : Int), .int .u8 ((b5.toNat : Nat) : Int), .int .u8 ((b6.toNat : Nat) : Int), .int .u8 ((b7.toNat : Nat) : Int), .int .u8 ((b8.toNat : Nat) : Int), .int .u8 ((b9.toNat : Nat) : Int), .int .u8 ((b10.toNat : Nat) : Int), .int .u8 ((b11.toNat : Nat) : Int), .int .u8 ((b12.toNat : Nat) : Int), .int .u8 ((b13.toNat : Nat) : Int), .int .u8 ((b14.toNat : Nat) : Int), .int .u8 ((b15.toNat : Nat) : Int), .int .u8 ((b16.toNat : Nat) : Int), .int .u8 ((b17.toNat : Nat) : Int), .int .u8 ((b18.toNat : Nat) : Int), .int .u8 ((b19.toNat : Nat) : Int), .int .u8 ((b20.toNat : Nat) : Int), .int .u8 ((b21.toNat : Nat) : Int), .int .u8 ((b22.toNat : Nat) : Int), .int .u8 ((b23.toNat : Nat) : Int), .int .u8 ((b24.toNat : Nat) : Int), .int .u8 ((b25.toNat : Nat) : Int), .int .u8 ((b26.toNat : Nat) : Int), .int .u8 ((b27.toNat : Nat) : Int), .int .u8 ((b28.toNat : Nat) : Int), .int .u8 ((b29.toNat : Nat) : Int), .int .u8 ((b30.toNat : Nat) : Int), .int .u8 ((b31.toNat : Nat) : Int), .slice a n c]) w := by kernel_rfl
theorem list32x (l : List UInt8) (h : l.length = 32) : ∃ b0 b1 b2 b3 b4 b5 b6 b7 b8 b9 b10 b11 b12 b13 b14 b15 b16 b17 b18 b19 b20 b21 b22 b23 b24 b25 b26 b27 b28 b29 b30 b31, l = [b0, b1, b2, b3, b4, b5, b6, b7, b8, b9, b10, b11, b12, b13, b14, b15, b16, b17, b18, b19, b20, b21, b22, b23, b24, b25, b26, b27, b28, b29, b30, b31] := by
  match l, h with
  | [b0, b1, b2, b3, b4, b5, b6, b7, b8, b9, b10, b11, b12, b13, b14, b15, b16, b17, b18, b19, b20, b21, b22, b23, b24, b25, b26, b27, b28, b29, b30, b31], _ => exact ⟨b0, b1, b2, b3, b4, b5, b6, b7, b8, b9, b10, b11, b12, b13, b14, b15, b16, b17, b18, b19, b20, b21, b22, b23, b24, b25, b26, b27, b28, b29, b30, b31, rfl⟩
theorem build_pair (x : PE) (w : World) : (Instr.build 41 #[(0, sv x.1), (1, peV x)]).run Tryz.prog w = .ok (.agg (encP x).toArray) w := by
  obtain ⟨b0, b1, b2, b3, b4, b5, b6, b7, b8, b9, b10, b11, b12, b13, b14, b15, b16, b17, b18, b19, b20, b21, b22, b23, b24, b25, b26, b27, b28, b29, b30, b31, h⟩ := list32x x.1.toList (by simp)
  have h1 : cellsOf x.1 = [.int .u8 ((b0.toNat : Nat) : Int), .int .u8 ((b1.toNat : Nat) : Int), .int .u8 ((b2.toNat : Nat) : Int), .int .u8 ((b3.toNat : Nat) : Int), .int .u8 ((b4.toNat : Nat) : Int), .int .u8 ((b5.toNat : Nat) : Int), .int .u8 ((b6.toNat : Nat) : Int), .int .u8 ((b7.toNat : Nat) : Int), .int .u8 ((b8.toNat : Nat) : Int), .int .u8 ((b9.toNat : Nat) : Int), .int .u8 ((b10.toNat : Nat) : Int), .int .u8 ((b11.toNat : Nat) : Int), .int .u8 ((b12.toNat : Nat) : Int), .int .u8 ((b13.toNat : Nat) : Int), .int .u8 ((b14.toNat : Nat) : Int), .int .u8 ((b15.toNat : Nat) : Int), .int .u8 ((b16.toNat : Nat) : Int), .int .u8 ((b17.toNat : Nat) : Int), .int .u8 ((b18.toNat : Nat) : Int), .int .u8 ((b19.toNat : Nat) : Int), .int .u8 ((b20.toNat : Nat) : Int), .int .u8 ((b21.toNat : Nat) : Int), .int .u8 ((b22.toNat : Nat) : Int), .int .u8 ((b23.toNat : Nat) : Int), .int .u8 ((b24.toNat : Nat) : Int), .int .u8 ((b25.toNat : Nat) : Int), .int .u8 ((b26.toNat : Nat) : Int), .int .u8 ((b27.toNat : Nat) : Int), .int .u8 ((b28.toNat : Nat) : Int), .int .u8 ((b29.toNat : Nat) : Int), .int .u8 ((b30.toNat : Nat) : Int), .int .u8 ((b31.toNat : Nat) : Int)] := by unfold cellsOf; rw [h]; rfl
  show (Instr.build 41 #[(0, .agg (cellsOf x.1).toArray), (1, .slice x.2.1 x.2.2.1 x.2.2.2)]).run Tryz.prog w = .ok (.agg (cellsOf x.1 ++ [Value.slice x.2.1 x.2.2.1 x.2.2.2]).toArray) w
  rw [h1]
  exact build_pe b0 b1 b2 b3 b4 b5 b6 b7 b8 b9 b10 b11 b12 b13 b14 b15 b16 b17 b18 b19 b20 b21 b22 b23 b24 b25 b26 b27 b28 b29 b30 b31 _ _ _ w
theorem exec_build_pair {f : Operand → Value} {o : Oper} (parts : Array (Nat × Operand)) (ho : o.op = .build 41 parts) (x : PE) (hp : (parts.toList.map fun (i, y) => (i, f y)) = [(0, sv x.1), (1, peV x)]) (W : World) :
    (execOp f o).run Tryz.prog W = .ok (.value (.agg (encP x).toArray)) W := by
  have : (parts.map fun (i, y) => (i, f y)) = #[(0, sv x.1), (1, peV x)] := by
    apply Array.toList_inj.1
    rw [Array.toList_map]; exact hp
  unfold execOp
  simp only [ho, Sem.run_bind, Sem.run_pure, Result.andThen_ok, this, build_pair]
theorem info_pair : ∃ i z, Tryz.prog.info? 41 = some i ∧ i.zero = some z ∧ i.size = 33 ∧ i.bytes = 56 ∧ z.cells.size = 33 := by
  have h : (Tryz.prog.info? 41).map (fun i => (i.zero.map fun z => z.cells.size, i.size, i.bytes)) = some (some 33, 33, 56) := by kernel_rfl
  obtain ⟨i, hi, h2⟩ := Option.map_eq_some_iff.1 h
  simp only [Prod.mk.injEq] at h2
  obtain ⟨z, hz, hz2⟩ := Option.map_eq_some_iff.1 h2.1
  exact ⟨i, z, hi, hz, h2.2.1, h2.2.2, hz2⟩
/-- A literal of pairs. -/
theorem wp_build_pairs {w : World} {o : Oper} {a : Act} {K : Act → World → Prop} {Q : Exit → Act → World → Prop} (len : Nat) (parts : Array (Nat × Operand)) (ho : o.op = .buildSlice 22 len parts) (l : List PE) (hl : l.length = len) (h0 : 0 < len) (h1 : len ≤ 1000)
    (hp : (parts.toList.map fun (i, x) => (i, a.eval x)) = (((l.map fun s => Value.agg (encP s).toArray)).zipIdx 0).map fun x => (x.2, x.1))
    (h : K (a.put o.dst (.slice (some ⟨w.heap.size, 0, none⟩) len len)) (w.alloc (.cells (cellsP l).toArray 41))) : o.wp Tryz.prog a w K Q := by
  obtain ⟨i, z, hi, hz, hs, hb, hzs⟩ := info_pair
  refine wp_buildSlice _ 41 len parts ho (cellsP l).toArray i z Tryz.underlying22 hi hz (by rw [hs]; omega) (by rw [hs]; omega) ?_ h
  have hc : (l.map fun s => Value.agg (encP s).toArray).flatMap (fun v => v.cells.toList) = cellsP l := by
    rw [List.flatMap_map, cellsP]; rfl
  rw [Array.toList_map, hp, hs, Great.fill_whole (by omega) (l.map fun s => Value.agg (encP s).toArray) _ (fun v hv => by obtain ⟨s, _, rfl⟩ := List.mem_map.1 hv; show (encP s).toArray.size = 33; rw [List.size_toArray, length_encP]) (by simp [hl]), hc]
/-- append of one pair, where there is room. -/
theorem wp_append_pair_fits {w : World} {o : Oper} {a : Act} {K : Act → World → Prop} {Q : Exit → Act → World → Prop} (s x : Operand)
    (ho : o.op = .call { callee := .builtin .append, args := #[s, x], argTypes := #[22, 22] })
    (base g n cap : Nat) (l : List PE) (hs : a.eval s = .slice (some ⟨g, 0, none⟩) n cap) (hown : w.ownsRow base 41 33 (.slice (some ⟨g, 0, none⟩) n cap) n (cellsP l))
    (b off c : Nat) (y : PE) (hx : a.eval x = .slice (some ⟨b, off, none⟩) 1 c) (hr : w.rangeAt b off (encP y)) (hroom : n + 1 ≤ cap)
    (h : ∀ w', w'.ownsRow base 41 33 (.slice (some ⟨g, 0, none⟩) (n + 1) cap) (n + 1) (cellsP (l ++ [y])) → w.grownBy w' (some g) → K (a.put o.dst (.slice (some ⟨g, 0, none⟩) (n + 1) cap)) w') : o.wp Tryz.prog a w K Q := by
  obtain ⟨i, z, hi, hz, h1, h2, h3⟩ := info_pair
  obtain ⟨w', hrun, r1, r2⟩ := run_append_fits (P := Tryz.prog) w base 22 o.type _ i 33 Tryz.underlying22 hi h1 g n cap (cellsP l) hown ⟨b, off, none⟩ 1 c (encP y) (by rw [length_encP]) (fun j u hj => by rw [Addr.add_mid]; exact hr j u hj) (one_encP y) hroom
  unfold Oper.wp
  simp [execOp, ho, resolve, invoke, builtin, hs, hx, hrun, Result.andThen]
  refine h w' ?_ r2
  rw [cellsP_append, cellsP_one]; exact r1
theorem bytes_lt {w : World} {v : Value} {l : List UInt8} (h : BytesAt w v l) (hl : l ≠ []) {k : Nat} (hk : v.ownBlock = some k) : k < w.heap.size := by
  obtain ⟨a, cap, rfl, _, _, h3⟩ := h
  obtain ⟨b, o, rfl, hr⟩ := h3.resolve_left hl
  simp only [Value.ownBlock, Option.some.injEq] at hk
  subst hk
  exact range_lt hr (by intro h; have := length_cells8 l; rw [h] at this; exact hl (List.length_eq_zero_iff.1 this.symm))
theorem grown_below {w w' : World} (h : Below w.heap.size w w') : w.grownBy w' none := ⟨h.os, h.tape, h.output, h.size, fun k hk _ => h.block k hk⟩
/-- What a round of Pairs has in hand. -/
structure PR (w : World) (p b n q z : Nat) (l : List Ent) (N k : Nat) (cs : List (PE × List UInt8)) (left : Lit → Bool) (cnt : Nat) (x : Sum) (v : Value) (bs : List UInt8) (W : World) : Prop where
  map : MapIn W p b n l
  val : BytesAt W v bs
  each : ∀ c ∈ cs, BytesAt W (peV c.1) c.2 ∧ ∀ i, (peV c.1).ownBlock = some i → w.heap.size < i
  below : Below w.heap.size w W
  own : W.ownsRow w.heap.size 41 33 (.slice (some ⟨w.heap.size, 0, none⟩) k N) k (cellsP (cs.map Prod.fst))
  rng : W.ranges Tryz.prog 24 rEl b q n (encD l) left cnt
  key : W.rangeAt z 0 (cellsOf x)
  lt : w.heap.size < W.heap.size
theorem PR.next {w : World} {p b n q z : Nat} {l : List Ent} {N k : Nat} {cs : List (PE × List UInt8)} {left : Lit → Bool} {cnt : Nat} {x : Sum} {v : Value} {bs : List UInt8} {W W' : World} (h : PR w p b n q z l N k cs left cnt x v bs W) (hb : Below W.heap.size W W') : PR w p b n q z l N k cs left cnt x v bs W' :=
  have kk : Keeps (fun _ => False) W W' := Keeps.of_below hb
  ⟨h.map.below hb, bytes_below h.val hb (Nat.le_refl _), fun c hc => ⟨bytes_below (h.each c hc).1 hb (Nat.le_refl _), (h.each c hc).2⟩, h.below.trans (hb.mono h.below.size), kk.owns h.own (fun _ _ h => h),
    h.rng.kept (grown_below hb) (by simp) (by simp), kk.range h.key (fun h => h), Nat.lt_of_lt_of_le h.lt hb.size⟩
theorem PR.drew {w : World} {p b n q z : Nat} {l : List Ent} {N k : Nat} {cs : List (PE × List UInt8)} {left : Lit → Bool} {cnt : Nat} {x : Sum} {v : Value} {bs : List UInt8} {W : World} (h : PR w p b n q z l N k cs left cnt x v bs W) : PR w p b n q z l N k cs left cnt x v bs W.drew :=
  h.next (Below.refl _ _).drew
end Go.Proofs.YtfmgoehnbaiamaaGreatDoor
-- Walks: maps.apart; two sums side by side.
namespace Go.Proofs.YtfmgoehnbaiamaaGreatDoor
/-- Where two keys part. -/
def Parts (a b : Sum) (d : Nat) : Prop := d ≤ 256 ∧ Keys.kn a >>> (256 - d) = Keys.kn b >>> (256 - d) ∧ (d < 256 → Keys.kn a >>> (255 - d) ≠ Keys.kn b >>> (255 - d))
end Go.Proofs.YtfmgoehnbaiamaaGreatDoor
-- Two sums side by side; pairs that grow; what a height of Root has in hand.
namespace Go.Proofs.YtfmgoehnbaiamaaGreatDoor
/-- Two sums, as a value. -/
def cells2 (x y : Sum) : List Value := cellsOf x ++ cellsOf y
abbrev bv (x y : Sum) : Value := .agg (cells2 x y).toArray
theorem length_cells2 (x y : Sum) : (cells2 x y).length = 64 := by simp [cells2, length_cellsOf]
theorem all_cells2 (x y : Sum) : (cells2 x y).toArray.all (·.oneCell') = true := all_oneCell_toArray (fun v hv => by
  rcases List.mem_append.1 hv with h | h
  · exact oneCell_cellsOf x v h
  · exact oneCell_cellsOf y v h)
theorem infoBoth : (Tryz.prog.info? 102).map (·.size) = some 64 := by kernel_rfl
theorem infoBothZ : (Tryz.prog.info? 102).map (fun i => i.zero.map fun z => z.cells.size) = some (some 64) := by kernel_rfl
theorem wpList_store_both {ops : Array Oper} {rest : List Oper} {op : Oper} {a : Act} {w : World} {Q : Exit → Act → World → Prop} (hgd : op.guard = none) (x y : Operand) (ho : op.op = .store 102 x y)
    (b o : Nat) (s t : Sum) (hx : a.eval x = .pointer (some ⟨b, o, none⟩)) (hy : a.eval y = bv s t) (ht : w.there b o 64)
    (h : wpList Tryz.prog ops Q rest (a.put op.dst undef) (w.setCells b o (cells2 s t))) : wpList Tryz.prog ops Q (op :: rest) a w :=
  wpList_store_mid hgd _ x y ho b o _ hx hy (by simpa [length_cells2] using ht) (by simpa [length_cells2] using infoBoth) (all_cells2 s t) h
set_option maxRecDepth 100000 in
theorem build_both (x y : Sum) (w : World) : (Instr.build 102 #[(0, .agg (cellsOf x).toArray), (1, .agg (cellsOf y).toArray)]).run Tryz.prog w = .ok (bv x y) w := by
  obtain ⟨ib, hib, hzb⟩ := Option.map_eq_some_iff.1 infoBothZ
  obtain ⟨zb, hz, hzs⟩ := Option.map_eq_some_iff.1 hzb
  obtain ⟨i, z, hi, hz1, hs, hb, hz2⟩ := info_sum
  refine run_build w _ _ _ ?_
  unfold Program.built
  simp only [hib, Tryz.underlying102, hz, hi, hs]
  have := Great.fill_whole (s := 32) (by omega) [sv x, sv y] zb.cells (fun v hv => by
    rcases List.mem_cons.1 hv with rfl | hv
    · exact size_cellsOf x
    · rw [List.mem_singleton.1 hv]; exact size_cellsOf y) (by rw [hzs]; rfl)
  refine this.trans ?_
  congr 1
  simp [cells2, Value.cells]
theorem wpList_build_both {ops : Array Oper} {rest : List Oper} {op : Oper} {a : Act} {w : World} {Q : Exit → Act → World → Prop} (hgd : op.guard = none) (parts : Array (Nat × Operand)) (ho : op.op = .build 102 parts)
    (x y : Sum) (hp : (parts.toList.map fun (i, x) => (i, a.eval x)) = [(0, sv x), (1, sv y)])
    (h : wpList Tryz.prog ops Q rest (a.put op.dst (bv x y)) w) : wpList Tryz.prog ops Q (op :: rest) a w :=
  wpList_build_by hgd 102 parts ho (bv x y) (fun W => by
    have : (parts.map fun (i, x) => (i, a.eval x)) = #[(0, sv x), (1, sv y)] := by
      apply Array.toList_inj.1
      rw [Array.toList_map]; exact hp
    rw [this]
    exact build_both x y W) h
theorem range_left_ {w : World} {b o : Nat} {xs ys : List Value} (h : w.rangeAt b o (xs ++ ys)) : w.rangeAt b o xs := fun j v hv => h j v (by rw [List.getElem?_append_left (List.getElem?_eq_some_iff.1 hv).1]; exact hv)
theorem range_right_ {w : World} {b o : Nat} {xs ys : List Value} (h : w.rangeAt b o (xs ++ ys)) : w.rangeAt b (o + xs.length) ys := fun j v hv => by
  have := h (xs.length + j) v (by rw [List.getElem?_append_right (by omega), Nat.add_sub_cancel_left]; exact hv)
  rwa [← Nat.add_assoc] at this
/-- A new variable that is two sums, set. -/
theorem wpList_var_both {ops : Array Oper} {rest : List Oper} {op : Oper} {a : Act} {w : World} {C : Array Value} {t : TypeId} {Q : Exit → Act → World → Prop} (hC : C.size = 64) (hgd : op.guard = none) (x y : Operand) (ho : op.op = .store 102 x y)
    (s u : Sum) (hx : a.eval x = .pointer (some ⟨w.heap.size, 0, none⟩)) (hy : a.eval y = bv s u)
    (h : ∀ W', Below w.heap.size w W' → W'.rangeAt w.heap.size 0 (cells2 s u) → W'.there w.heap.size 0 64 → wpList Tryz.prog ops Q rest (a.put op.dst undef) W') : wpList Tryz.prog ops Q (op :: rest) a (w.alloc (.cells C t)) := by
  have ht : (w.alloc (.cells C t)).there w.heap.size 0 64 := by rw [← hC]; exact there_new _ _ _
  have ht2 := World.there_setCells ht w.heap.size 0 (cells2 s u)
  exact wpList_store_both hgd x y ho w.heap.size 0 s u hx hy ht (h _ (setCells_below _ (Nat.le_refl _) _ 0 _ _ (al (Below.refl _ _) _)) (range_stored _ _ _ _ (by rw [length_cells2]; exact ht2)) ht2)
theorem keeps_setCells_ (b : Nat) : ∀ (vs : List Value) (o : Nat) (w : World), Keeps (· = b) w (w.setCells b o vs)
  | [], _, _ => Keeps.refl _ _
  | v :: r, o, w => by
    rw [World.setCells]
    exact ((Keeps.refl (· = b) w).setCell (p := ⟨b, o, none⟩) (.inl rfl) v).trans (keeps_setCells_ b r (o + 1) _)
/-- One of two sums, laid anew. -/
theorem both_set {w : World} {b p : Nat} {x y s : Sum} (hr : w.rangeAt b 0 (cells2 x y)) (ht : w.there b 0 64) (hp : p < 2) :
    (w.setCells b (p * 32) (cellsOf s)).rangeAt b 0 (cells2 (if p = 0 then s else x) (if p = 0 then y else s)) ∧ (w.setCells b (p * 32) (cellsOf s)).there b 0 64 := by
  have ht2 := World.there_setCells ht b (p * 32) (cellsOf s)
  refine ⟨?_, ht2⟩
  have h1 := range_left_ hr
  have h2 := range_right_ hr
  rw [length_cellsOf] at h2
  have htp : (w.setCells b (p * 32) (cellsOf s)).there b (p * 32) 32 := fun j hj => by
    have := ht2 (p * 32 + j) (by omega)
    rw [Nat.zero_add] at this
    exact this
  have hst := range_stored b (cellsOf s) (p * 32) w (by rw [length_cellsOf]; exact htp)
  have other : ∀ o, (o + 32 ≤ p * 32 ∨ p * 32 + 32 ≤ o) → ∀ z : Sum, w.rangeAt b o (cellsOf z) → (w.setCells b (p * 32) (cellsOf s)).rangeAt b o (cellsOf z) := fun o ho z hz j v hj => by
    have hjl : j < 32 := by have := (List.getElem?_eq_some_iff.1 hj).1; rw [length_cellsOf] at this; exact this
    rw [World.cell?_setCells_out _ _ _ _ _ (fun _ _ => by rw [length_cellsOf]; show o + j < p * 32 ∨ p * 32 + 32 ≤ o + j; omega)]
    exact hz j v hj
  unfold cells2
  rw [range_append, length_cellsOf]
  match p, hp with
  | 0, _ =>
    rw [if_pos rfl, if_pos rfl]
    exact ⟨by simpa using hst, other 32 (by omega) y (by simpa using h2)⟩
  | 1, _ =>
    rw [if_neg (by omega), if_neg (by omega)]
    exact ⟨other 0 (by omega) x h1, by simpa using hst⟩
theorem infoPair : (Tryz.prog.info? 41).map (·.size) = some 33 := by kernel_rfl
theorem wp_load_pair {op : Oper} {a : Act} {w : World} {K : Act → World → Prop} {Q : Exit → Act → World → Prop} (x : Operand) (ho : op.op = .load 41 x)
    (b o : Nat) (hx : a.eval x = .pointer (some ⟨b, o, none⟩)) (y : PE) (hc : w.rangeAt b o (encP y)) (h : K (a.put op.dst (.agg (encP y).toArray)) w) : op.wp Tryz.prog a w K Q :=
  wp_load_mid _ x ho b o hx (encP y) _ hc Tryz.underlying41 rfl (by rw [length_encP]; exact infoPair) h
theorem wpList_load_pair {ops : Array Oper} {rest : List Oper} {op : Oper} {a : Act} {w : World} {Q : Exit → Act → World → Prop} (hgd : op.guard = none) (x : Operand) (ho : op.op = .load 41 x)
    (b o : Nat) (hx : a.eval x = .pointer (some ⟨b, o, none⟩)) (y : PE) (hc : w.rangeAt b o (encP y)) (h : wpList Tryz.prog ops Q rest (a.put op.dst (.agg (encP y).toArray)) w) : wpList Tryz.prog ops Q (op :: rest) a w :=
  wpList_plain hgd fun _ hK => wp_load_pair x ho b o hx y hc (hK _ _ h)
theorem encP_cell {w : World} {b : Nat} {y : PE} (h : w.rangeAt b 0 (encP y)) : w.cell? ⟨b, 32, none⟩ = some (peV y) := by
  have := h 32 (peV y) (by rw [encP, List.getElem?_append_right (by rw [length_cellsOf]; omega), length_cellsOf]; rfl)
  rwa [Nat.zero_add] at this
theorem wpList_build_pairs {w : World} {ops : Array Oper} {rest : List Oper} {o : Oper} {a : Act} {Q : Exit → Act → World → Prop} (hgd : o.guard = none) (len : Nat) (parts : Array (Nat × Operand)) (ho : o.op = .buildSlice 22 len parts) (l : List PE) (hl : l.length = len) (h0 : 0 < len) (h1 : len ≤ 1000)
    (hp : (parts.toList.map fun (i, x) => (i, a.eval x)) = (((l.map fun s => Value.agg (encP s).toArray)).zipIdx 0).map fun x => (x.2, x.1))
    (h : wpList Tryz.prog ops Q rest (a.put o.dst (.slice (some ⟨w.heap.size, 0, none⟩) len len)) (w.alloc (.cells (cellsP l).toArray 41))) : wpList Tryz.prog ops Q (o :: rest) a w :=
  wpList_plain hgd fun _ hK => wp_build_pairs len parts ho l hl h0 h1 hp (hK _ _ h)
theorem wpList_build_sums1 {w : World} {ops : Array Oper} {rest : List Oper} {o : Oper} {a : Act} {Q : Exit → Act → World → Prop} (hgd : o.guard = none) (len : Nat) (parts : Array (Nat × Operand)) (ho : o.op = .buildSlice 61 len parts) (l : List Sum) (hl : l.length = len) (h0 : 0 < len) (h1 : len ≤ 1000)
    (hp : (parts.toList.map fun (i, x) => (i, a.eval x)) = (((l.map fun s => sv s)).zipIdx 0).map fun x => (x.2, x.1))
    (h : wpList Tryz.prog ops Q rest (a.put o.dst (.slice (some ⟨w.heap.size, 0, none⟩) len len)) (w.alloc (.cells (cellsAll l).toArray 24))) : wpList Tryz.prog ops Q (o :: rest) a w :=
  wpList_plain hgd fun _ hK => wp_build_sums len parts ho l hl h0 h1 hp (hK _ _ h)
/-- append of pairs, into a row of pairs. -/
theorem wp_append_pairs {w : World} {o : Oper} {a : Act} {K : Act → World → Prop} {Q : Exit → Act → World → Prop} (s x : Operand)
    (ho : o.op = .call { callee := .builtin .append, args := #[s, x], argTypes := #[22, 22] })
    (base : Nat) (v : Value) (l ys : List PE) (n m : Nat) (_hn : l.length = n) (hm : ys.length = m) (hs : a.eval s = v) (hown : w.ownsRow base 41 33 v n (cellsP l))
    (b off c : Nat) (hx : a.eval x = .slice (some ⟨b, off, none⟩) m c) (hr : w.rangeAt b off (cellsP ys)) (h0 : 0 < m) (hl : n + m < 1000000) (hB : base ≤ w.heap.size)
    (h : ∀ g cap w', w'.ownsRow base 41 33 (.slice (some ⟨g, 0, none⟩) (n + m) cap) (n + m) (cellsP (l ++ ys)) → w.grownBy w' v.ownBlock → (v.ownBlock = some g ∨ g = w.heap.size) → g < w'.heap.size → K (a.put o.dst (.slice (some ⟨g, 0, none⟩) (n + m) cap)) w') : o.wp Tryz.prog a w K Q := by
  obtain ⟨i, z, hi, hz, h1, h2, h3⟩ := info_pair
  refine wp_append_lies w s x _ ho base _ i z 33 56 Tryz.underlying22 hi hz h1 h2 h3 (by omega) v n (cellsP l) hs hown ⟨b, off, none⟩ m c (cellsP ys) hx (by rw [length_cellsP, hm]; omega) (fun j u hj => by rw [Addr.add_mid]; exact hr j u hj) (oneCell_cellsP ys) h0 (by unfold maxLen; omega) (by omega) hB w.heap.size rfl ?_
  intro g cap w' ho' hg hat hlt
  refine h g cap w' ?_ hg hat hlt
  rw [cellsP_append]; exact ho'
theorem wpList_append_pairs {w : World} {ops : Array Oper} {rest : List Oper} {o : Oper} {a : Act} {Q : Exit → Act → World → Prop} (hgd : o.guard = none) (s x : Operand)
    (ho : o.op = .call { callee := .builtin .append, args := #[s, x], argTypes := #[22, 22] })
    (base : Nat) (v : Value) (l ys : List PE) (n m : Nat) (hn : l.length = n) (hm : ys.length = m) (hs : a.eval s = v) (hown : w.ownsRow base 41 33 v n (cellsP l))
    (b off c : Nat) (hx : a.eval x = .slice (some ⟨b, off, none⟩) m c) (hr : w.rangeAt b off (cellsP ys)) (h0 : 0 < m) (hl : n + m < 1000000) (hB : base ≤ w.heap.size)
    (h : ∀ g cap w', w'.ownsRow base 41 33 (.slice (some ⟨g, 0, none⟩) (n + m) cap) (n + m) (cellsP (l ++ ys)) → w.grownBy w' v.ownBlock → (v.ownBlock = some g ∨ g = w.heap.size) → g < w'.heap.size → wpList Tryz.prog ops Q rest (a.put o.dst (.slice (some ⟨g, 0, none⟩) (n + m) cap)) w') : wpList Tryz.prog ops Q (o :: rest) a w :=
  wpList_plain hgd fun _ hK => wp_append_pairs s x ho base v l ys n m hn hm hs hown b off c hx hr h0 hl hB fun g cap w' h1 h2 h3 h4 => hK _ _ (h g cap w' h1 h2 h3 h4)
/-- One of a list of pairs. -/
theorem cellsP_split {l : List PE} {i : Nat} (h : i < l.length) : cellsP l = cellsP (l.take i) ++ (encP (l.getD i default) ++ cellsP (l.drop (i + 1))) := by
  conv => lhs; rw [← List.take_append_drop i l, cellsP_append, List.drop_eq_getElem_cons h]
  rw [List.getD_eq_getElem?_getD, List.getElem?_eq_getElem h]
  rfl
theorem rangeP_at {w : World} {b o : Nat} {l : List PE} (h : w.rangeAt b o (cellsP l)) {i : Nat} (hi : i < l.length) : w.rangeAt b (o + i * 33) (encP (l.getD i default)) := by
  rw [cellsP_split hi, range_append, length_cellsP, range_append, List.length_take, Nat.min_eq_left (by omega)] at h
  rw [Nat.mul_comm]; exact h.2.1
theorem sums_at {w : World} {v : Value} {l : List Sum} (h : SumsAt w v l) {i : Nat} (hi : i < l.length) : ∃ b o cap, v = .slice (some ⟨b, o, none⟩) l.length cap ∧ l.length ≤ cap ∧ w.rangeAt b (o + i * 32) (cellsOf (l.getD i zeroSum)) := by
  obtain ⟨a, cap, rfl, h1, h2, h3⟩ := h
  rcases h3 with h3 | ⟨b, o, rfl, hr⟩
  · rw [h3] at hi; simp at hi
  · refine ⟨b, o, cap, rfl, h1, ?_⟩
    have := range_at hr hi
    rw [List.getD_eq_getElem?_getD, List.getElem?_eq_getElem hi]
    exact this
/-- The keys of pairs in memory. -/
def KeysIn (w : World) (v : Value) (l : List PE) : Prop :=
  ∃ a cap, v = .slice a l.length cap ∧ l.length ≤ cap ∧ cap ≤ maxLen ∧ (l = [] ∨ ∃ b o, a = some ⟨b, o, none⟩ ∧ w.rangeAt b o (cellsP l))
theorem KeysIn.keep {X : Nat → Prop} {w w' : World} {v : Value} {l : List PE} (h : KeysIn w v l) (hk : Keeps X w w') (hx : l ≠ [] → ∀ k, v.ownBlock = some k → ¬ X k) : KeysIn w' v l := by
  obtain ⟨a, cap, rfl, h1, h2, h3⟩ := h
  refine ⟨a, cap, rfl, h1, h2, ?_⟩
  rcases h3 with h0 | ⟨b, o, rfl, hr⟩
  · exact .inl h0
  · by_cases hl : l = []
    · exact .inl hl
    · exact .inr ⟨b, o, rfl, hk.range hr (hx hl b rfl)⟩
theorem own_there {w : World} {base : Nat} {e : TypeId} {size g n cap : Nat} {xs : List Value} (h : w.ownsRow base e size (.slice (some ⟨g, 0, none⟩) n cap) n xs) : w.there g 0 (n * size) := by
  rcases h.2 with ⟨hv, _⟩ | ⟨g', cap', cur, hv, hb, hg, hnc, hcm, hsz, htk⟩
  · cases hv
  simp only [Value.slice.injEq, Option.some.injEq, Addr.mk.injEq, and_true, true_and] at hv
  obtain ⟨rfl, rfl⟩ := hv
  intro j hj
  have hlt : j < cur.size := by
    rw [hsz]
    exact Nat.lt_of_lt_of_le hj (Nat.mul_le_mul_right _ hnc)
  refine ⟨?_, ?_⟩
  · rw [cell_of_row _ _ _ cur e (0, 0) hg, Nat.zero_add, Array.getElem?_eq_getElem hlt]; rfl
  · exact frozen_of_row _ _ _ cur e hg
theorem keys_own {w : World} {base : Nat} {v : Value} {l : List PE} (h : w.ownsRow base 41 33 v l.length (cellsP l)) : KeysIn w v l := by
  rcases h.2 with ⟨rfl, h0⟩ | ⟨g, cap, cur, rfl, hb, hg, hnc, hcm, hsz, htk⟩
  · have : l = [] := List.length_eq_zero_iff.1 h0
    subst this
    exact ⟨none, 0, rfl, Nat.le_refl _, by unfold maxLen; omega, .inl rfl⟩
  · refine ⟨_, cap, rfl, hnc, hcm, .inr ⟨g, 0, rfl, fun j u hj => ?_⟩⟩
    rw [cell_of_row w g _ cur _ (0, 0) hg, Nat.zero_add]
    rw [← htk, List.getElem?_take] at hj
    split at hj
    · simpa using hj
    · cases hj
end Go.Proofs.YtfmgoehnbaiamaaGreatDoor
-- Walks: maps: Root.
namespace Go.Proofs.YtfmgoehnbaiamaaGreatDoor
/-- What a height of Root has in hand: the lists below it, and what has been put together. -/
structure RI (w : World) (e3 R h : Nat) (S U : List (Sum × Sum)) (v4 v5 v9 v10 : Value) (pe pu : List PE) (W : World) : Prop where
  below : Below w.heap.size w W
  res : W.there w.heap.size 0 32
  emp : W.rangeAt e3 0 (cellsOf (em h))
  empT : W.there e3 0 32
  keys : KeysIn W v4 pe
  keysL : pe.map (·.1) = S.map (·.1)
  keysB : pe ≠ [] → ∀ k, v4.ownBlock = some k → k < R
  sums : SumsAt W v5 (S.map (·.2))
  sumsB : ∀ k, v5.ownBlock = some k → k < R
  own9 : W.ownsRow R 41 33 v9 U.length (cellsP pu)
  len9 : pu.map (·.1) = U.map (·.1)
  own10 : W.ownsRow R 24 32 v10 U.length (cellsAll (U.map (·.2)))
  apart : ∀ k, v9.ownBlock = some k → v10.ownBlock ≠ some k
  lt : w.heap.size < e3 ∧ e3 < R ∧ R ≤ W.heap.size
theorem RI.below' {w : World} {e3 R h : Nat} {S U : List (Sum × Sum)} {v4 v5 v9 v10 : Value} {pe pu : List PE} {W W' : World} (H : RI w e3 R h S U v4 v5 v9 v10 pe pu W) (hb : Below W.heap.size W W') : RI w e3 R h S U v4 v5 v9 v10 pe pu W' :=
  have k : Keeps (fun _ => False) W W' := Keeps.of_below hb
  ⟨H.below.trans (hb.mono H.below.size), k.there H.res (by decide) (fun h => h), k.range H.emp (fun h => h), k.there H.empT (by decide) (fun h => h), H.keys.keep k (fun _ _ _ h => h), H.keysL, H.keysB, k.sums H.sums (fun _ _ h => h), H.sumsB,
    k.owns H.own9 (fun _ _ h => h), H.len9, k.owns H.own10 (fun _ _ h => h), H.apart, H.lt.1, H.lt.2.1, Nat.le_trans H.lt.2.2 hb.size⟩
theorem RI.drew {w : World} {e3 R h : Nat} {S U : List (Sum × Sum)} {v4 v5 v9 v10 : Value} {pe pu : List PE} {W : World} (H : RI w e3 R h S U v4 v5 v9 v10 pe pu W) : RI w e3 R h S U v4 v5 v9 v10 pe pu W.drew := H.below' (Below.refl _ _).drew
/-- Before the sum of what is put together is laid: the keys' row is one longer. -/
structure RJ (w : World) (e3 R h : Nat) (S U : List (Sum × Sum)) (v4 v5 v9 v10 : Value) (pe pu : List PE) (k : Sum) (W : World) : Prop where
  below : Below w.heap.size w W
  res : W.there w.heap.size 0 32
  emp : W.rangeAt e3 0 (cellsOf (em h))
  empT : W.there e3 0 32
  keys : KeysIn W v4 pe
  keysL : pe.map (·.1) = S.map (·.1)
  keysB : pe ≠ [] → ∀ k, v4.ownBlock = some k → k < R
  sums : SumsAt W v5 (S.map (·.2))
  sumsB : ∀ k, v5.ownBlock = some k → k < R
  own9 : W.ownsRow R 41 33 v9 (U.length + 1) (cellsP pu)
  len9 : pu.map (·.1) = U.map (·.1) ++ [k]
  own10 : W.ownsRow R 24 32 v10 U.length (cellsAll (U.map (·.2)))
  apart : ∀ k, v9.ownBlock = some k → v10.ownBlock ≠ some k
  lt : w.heap.size < e3 ∧ e3 < R ∧ R ≤ W.heap.size
theorem RJ.below' {w : World} {e3 R h : Nat} {S U : List (Sum × Sum)} {v4 v5 v9 v10 : Value} {pe pu : List PE} {k : Sum} {W W' : World} (H : RJ w e3 R h S U v4 v5 v9 v10 pe pu k W) (hb : Below W.heap.size W W') : RJ w e3 R h S U v4 v5 v9 v10 pe pu k W' :=
  have k : Keeps (fun _ => False) W W' := Keeps.of_below hb
  ⟨H.below.trans (hb.mono H.below.size), k.there H.res (by decide) (fun h => h), k.range H.emp (fun h => h), k.there H.empT (by decide) (fun h => h), H.keys.keep k (fun _ _ _ h => h), H.keysL, H.keysB, k.sums H.sums (fun _ _ h => h), H.sumsB,
    k.owns H.own9 (fun _ _ h => h), H.len9, k.owns H.own10 (fun _ _ h => h), H.apart, H.lt.1, H.lt.2.1, Nat.le_trans H.lt.2.2 hb.size⟩
theorem RJ.drew {w : World} {e3 R h : Nat} {S U : List (Sum × Sum)} {v4 v5 v9 v10 : Value} {pe pu : List PE} {k : Sum} {W : World} (H : RJ w e3 R h S U v4 v5 v9 v10 pe pu k W) : RJ w e3 R h S U v4 v5 v9 v10 pe pu k W.drew := H.below' (Below.refl _ _).drew
/-- Between two heights of Root. -/
structure RO (w : World) (e3 h : Nat) (S : List (Sum × Sum)) (v4 v5 : Value) (pe : List PE) (W : World) : Prop where
  below : Below w.heap.size w W
  res : W.there w.heap.size 0 32
  emp : W.rangeAt e3 0 (cellsOf (em h))
  empT : W.there e3 0 32
  keys : KeysIn W v4 pe
  keysL : pe.map (·.1) = S.map (·.1)
  keysB : pe ≠ [] → ∀ k, v4.ownBlock = some k → k < W.heap.size
  sums : SumsAt W v5 (S.map (·.2))
  sumsB : ∀ k, v5.ownBlock = some k → k < W.heap.size
  lt : w.heap.size < e3 ∧ e3 < W.heap.size
theorem RO.start {w : World} {e3 h : Nat} {S : List (Sum × Sum)} {v4 v5 : Value} {pe : List PE} {W : World} (H : RO w e3 h S v4 v5 pe W) : RI w e3 W.heap.size h S [] v4 v5 (.slice none 0 0) (.slice none 0 0) pe [] W :=
  ⟨H.below, H.res, H.emp, H.empT, H.keys, H.keysL, H.keysB, H.sums, H.sumsB, ⟨rfl, .inl ⟨rfl, rfl⟩⟩, rfl, ⟨rfl, .inl ⟨rfl, rfl⟩⟩, (fun _ h => by cases h), H.lt.1, H.lt.2, Nat.le_refl _⟩
theorem RI.done {w : World} {e3 R h : Nat} {S U : List (Sum × Sum)} {v4 v5 v9 v10 : Value} {pe pu : List PE} {W W' : World} (H : RI w e3 R h S U v4 v5 v9 v10 pe pu W) (hb : Below W.heap.size W W') :
    RO w e3 (h + 1) U v9 v10 pu (W'.setCells e3 0 (cellsOf (em (h + 1)))) := by
  have H' := H.below' hb
  have hk := keeps_setCells_ e3 (cellsOf (em (h + 1))) 0 W'
  have hsz : (W'.setCells e3 0 (cellsOf (em (h + 1)))).heap.size = W'.heap.size := size_setCells _ _ _ _
  have hpu : pu.length = U.length := by have := congrArg List.length H.len9; simpa using this
  obtain ⟨l1, l2, l3⟩ := H'.lt
  refine ⟨setCells_below _ (Nat.le_of_lt l1) _ _ _ _ H'.below, hk.there H'.res (by decide) (by omega), range_stored _ _ _ _ (by rw [length_cellsOf]; exact World.there_setCells H'.empT _ _ _), World.there_setCells H'.empT _ _ _,
    KeysIn.keep (keys_own (base := R) (by rw [hpu]; exact H'.own9)) hk (fun _ k hk hx => by have := own_base H'.own9 k hk; omega), H.len9, fun _ k hk => by rw [hsz]; exact own_lt H'.own9 hk,
    hk.sums (sums_own (base := R) (by rw [List.length_map]; exact H'.own10)) (fun k hk hx => by have := own_base H'.own10 k hk; omega), fun k hk => by rw [hsz]; exact own_lt H'.own10 hk, l1, by rw [hsz]; omega⟩
end Go.Proofs.YtfmgoehnbaiamaaGreatDoor
