/-
  Joined: Run, W4.
-/
import Derived.Test.YtfmgoehnbaiamaaGreatDoorSha
import Derived.Laws.CopyOwn
import Derived.Test.YtfmgoehnbaiamaaGreatDoorW3
import Derived.Test.YtfmgoehnbaiamaaGreatDoorZAH
import Derived.StillTailTactics
-- Plain: a run of bytes (what the program's text keeps), its cells, and what bytes that are put make of it. No program in sight.
open Go Go.RowKit
namespace Alm

/-- A run of bytes: the eight numbers, the bytes of which the first ones wait, how many were written. -/
structure RunS where
  s : List UInt32
  b : List UInt8
  many : Nat
/-- It is of its lengths. -/
def RunS.ok (r : RunS) : Prop := r.s.length = 8 ∧ r.b.length = 64
/-- Its cells. -/
def cellsRun (r : RunS) : List Value := .bool true :: (cells32 r.s ++ (cells8 r.b ++ [.int .u64 (r.many : Int)]))
theorem length_cellsRun {r : RunS} (h : r.ok) : (cellsRun r).length = 74 := by
  simp only [cellsRun, List.length_cons, List.length_append, length_cells32, length_cells8, List.length_nil, h.1, h.2]
/-- A byte more. -/
def put1 (r : RunS) (c : UInt8) : RunS :=
  if (r.many + 1) % 64 = 0 then ⟨Alm.took r.s (r.b.set (r.many % 64) c), r.b.set (r.many % 64) c, r.many + 1⟩ else ⟨r.s, r.b.set (r.many % 64) c, r.many + 1⟩
/-- Bytes more. -/
def putAll (r : RunS) (l : List UInt8) : RunS := l.foldl put1 r
theorem put1_ok {r : RunS} (h : r.ok) (c : UInt8) : (put1 r c).ok := by
  unfold put1
  split
  · exact ⟨by rw [length_took]; exact h.1, by rw [List.length_set]; exact h.2⟩
  · exact ⟨h.1, by rw [List.length_set]; exact h.2⟩
theorem putAll_ok : ∀ (l : List UInt8) {r : RunS}, r.ok → (putAll r l).ok
  | [], _, h => h
  | c :: l, _, h => putAll_ok l (put1_ok h c)
theorem put1_many (r : RunS) (c : UInt8) : (put1 r c).many = r.many + 1 := by unfold put1; split <;> rfl
theorem putAll_many : ∀ (l : List UInt8) (r : RunS), (putAll r l).many = r.many + l.length
  | [], _ => rfl
  | c :: l, r => by rw [putAll, List.foldl_cons]; have := putAll_many l (put1 r c); rw [putAll] at this; rw [this, put1_many, List.length_cons]; omega
theorem putAll_append (r : RunS) (a b : List UInt8) : putAll r (a ++ b) = putAll (putAll r a) b := List.foldl_append
theorem splice_cons {α : Type} (L : List α) (q : Nat) (c : α) (r : List α) (h : q < L.length) : splice L q (c :: r) = splice (L.set q c) (q + 1) r := by
  simp only [splice, List.length_cons]
  rw [List.set_eq_take_append_cons_drop, if_pos h]
  have h1 : (L.take q ++ c :: L.drop (q + 1)).take (q + 1) = L.take q ++ [c] := by
    rw [List.take_append, List.length_take, Nat.min_eq_left (by omega), List.take_of_length_le (by rw [List.length_take]; omega)]; simp
  have h2 : (L.take q ++ c :: L.drop (q + 1)).drop (q + 1 + r.length) = L.drop (q + (r.length + 1)) := by
    rw [List.drop_append, List.length_take, Nat.min_eq_left (by omega), List.drop_eq_nil_of_le (by rw [List.length_take]; omega)]
    rw [show q + 1 + r.length - q = r.length + 1 from by omega, List.drop_succ_cons, List.drop_drop, List.nil_append]
    congr 1; omega
  rw [h1, h2]; simp
/-- Bytes that fit into the block that waits, at once. -/
theorem putAll_chunk : ∀ (c : List UInt8) (r : RunS), r.ok → c ≠ [] → r.many % 64 + c.length ≤ 64 →
    putAll r c = if (r.many + c.length) % 64 = 0 then ⟨Alm.took r.s (splice r.b (r.many % 64) c), splice r.b (r.many % 64) c, r.many + c.length⟩ else ⟨r.s, splice r.b (r.many % 64) c, r.many + c.length⟩
  | [], _, _, h, _ => (h rfl).elim
  | [x], r, hr, _, h => by
    have hs : splice r.b (r.many % 64) [x] = r.b.set (r.many % 64) x := by
      rw [splice_cons _ _ _ _ (by rw [hr.2]; omega)]; simp [splice]
    rw [hs]; rfl
  | x :: y :: c, r, hr, _, h => by
    simp only [List.length_cons] at h
    have h1 : put1 r x = ⟨r.s, r.b.set (r.many % 64) x, r.many + 1⟩ := by unfold put1; rw [if_neg (by omega)]
    have hm : (r.many + 1) % 64 = r.many % 64 + 1 := by omega
    have ih := putAll_chunk (y :: c) (put1 r x) (put1_ok hr x) (by simp) (by rw [put1_many, hm]; simp only [List.length_cons]; omega)
    show putAll (put1 r x) (y :: c) = _
    rw [ih, h1]
    simp only [List.length_cons, hm]
    rw [splice_cons r.b _ x (y :: c) (by rw [hr.2]; omega), show r.many + 1 + (c.length + 1) = r.many + (c.length + 1 + 1) from by omega]
theorem splice_append_mid {α : Type} (A B D : List α) (q : Nat) (c : List α) (h : q + c.length ≤ B.length) : splice (A ++ (B ++ D)) (A.length + q) c = A ++ (splice B q c ++ D) := by
  simp only [splice]
  rw [List.take_append, Nat.add_sub_cancel_left, List.take_of_length_le (by omega), List.take_append_of_le_length (by omega)]
  rw [List.drop_append, List.drop_eq_nil_of_le (by omega), show A.length + q + c.length - A.length = q + c.length from by omega, List.drop_append_of_le_length (by omega)]
  simp
theorem splice_map {α β : Type} (f : α → β) (L : List α) (q : Nat) (c : List α) : splice (L.map f) q (c.map f) = (splice L q c).map f := by simp [splice]
theorem splice_cellsRun {r : RunS} (h : r.ok) (q : Nat) (c : List UInt8) (hq : q + c.length ≤ 64) : splice (cellsRun r) (9 + q) (cells8 c) = cellsRun ⟨r.s, splice r.b q c, r.many⟩ := by
  have e : cellsRun r = (.bool true :: cells32 r.s) ++ (cells8 r.b ++ [.int .u64 (r.many : Int)]) := rfl
  have hl : (Value.bool true :: cells32 r.s).length = 9 := by rw [List.length_cons, length_cells32, h.1]
  rw [e, ← hl, splice_append_mid _ _ _ _ _ (by rw [length_cells8, length_cells8, h.2]; exact hq)]
  rw [cells8, cells8, splice_map]; rfl
/-- A run behind a pointer to block p. -/
def RunAt (W : World) (p : Nat) (t : TypeId) (r : RunS) : Prop := W.heap[p]? = some (.cells (cellsRun r).toArray t (0, 0))
theorem cellsRun_made (r : RunS) : (cellsRun r).toArray[0]? = some (.bool true) := rfl
theorem cellsRun_many {r : RunS} (h : r.ok) : (cellsRun r).toArray[73]? = some (.int .u64 (r.many : Int)) := by
  have e : cellsRun r = (.bool true :: cells32 r.s ++ cells8 r.b) ++ [.int .u64 (r.many : Int)] := by simp [cellsRun]
  have hl : (.bool true :: cells32 r.s ++ cells8 r.b : List Value).length = 73 := by simp only [List.length_append, List.length_cons, length_cells32, length_cells8, h.1, h.2]
  rw [e, List.getElem?_toArray, List.getElem?_append_right (by omega), hl]; rfl
theorem RunAt.many {W : World} {p : Nat} {t : TypeId} {r : RunS} (h : RunAt W p t r) (ho : r.ok) : W.cell? ⟨p, 73, none⟩ = some (.int .u64 (r.many : Int)) := by
  rw [cell_of_row W p 73 _ t (0, 0) h, cellsRun_many ho]
theorem RunAt.made {W : World} {p : Nat} {t : TypeId} {r : RunS} (h : RunAt W p t r) : W.cell? ⟨p, 0, none⟩ = some (.bool true) := by
  rw [cell_of_row W p 0 _ t (0, 0) h, cellsRun_made]
theorem RunAt.free {W : World} {p : Nat} {t : TypeId} {r : RunS} (h : RunAt W p t r) (i : Nat) : W.frozen? ⟨p, i, none⟩ = false := frozen_of_row W p i _ t h
theorem RunAt.lt {W : World} {p : Nat} {t : TypeId} {r : RunS} (h : RunAt W p t r) : p < W.heap.size := (Array.getElem?_eq_some_iff.1 h).1
theorem RunAt.below {B : Nat} {W W' : World} {p : Nat} {t : TypeId} {r : RunS} (h : RunAt W p t r) (hb : Below B W W') (hB : p < B) : RunAt W' p t r := (hb.block p hB).trans h
theorem RunAt.eight {W : World} {p : Nat} {t : TypeId} {r : RunS} (h : RunAt W p t r) : W.rangeAt p 1 (cells32 r.s) := fun j v hv => by
  rw [cell_of_row W p _ _ t (0, 0) h]
  have hj := (List.getElem?_eq_some_iff.1 hv).1
  rw [List.getElem?_toArray, cellsRun, Nat.add_comm, List.getElem?_cons_succ, List.getElem?_append_left hj]; exact hv
theorem RunAt.bytes {W : World} {p : Nat} {t : TypeId} {r : RunS} (h : RunAt W p t r) (ho : r.ok) : W.rangeAt p 9 (cells8 r.b) := fun j v hv => by
  rw [cell_of_row W p _ _ t (0, 0) h]
  have hj := (List.getElem?_eq_some_iff.1 hv).1
  rw [List.getElem?_toArray, cellsRun, show 9 + j = 8 + j + 1 from by omega, List.getElem?_cons_succ, List.getElem?_append_right (by rw [length_cells32, ho.1]; omega), length_cells32, ho.1, Nat.add_sub_cancel_left, List.getElem?_append_left hj]; exact hv
theorem RunAt.set_many {W : World} {p : Nat} {t : TypeId} {r : RunS} (h : RunAt W p t r) (ho : r.ok) (n : Nat) : RunAt (W.setCell ⟨p, 73, none⟩ (.int .u64 (n : Int))) p t ⟨r.s, r.b, n⟩ := by
  unfold RunAt
  rw [heap_setCell_same W p 73 _ t _ h]
  have e : ∀ m : Nat, cellsRun ⟨r.s, r.b, m⟩ = (.bool true :: cells32 r.s ++ cells8 r.b) ++ [.int .u64 (m : Int)] := fun m => by simp [cellsRun]
  have hl : (.bool true :: cells32 r.s ++ cells8 r.b : List Value).length = 73 := by simp only [List.length_append, List.length_cons, length_cells32, length_cells8, ho.1, ho.2]
  rw [List.setIfInBounds_toArray, show cellsRun r = cellsRun ⟨r.s, r.b, r.many⟩ from rfl, e, e, List.set_append_right _ _ (by omega), hl]; rfl
theorem RunAt.there {W : World} {p : Nat} {t : TypeId} {r : RunS} (h : RunAt W p t r) (ho : r.ok) (o n : Nat) (hn : o + n ≤ 74) : W.there p o n := fun j hj => by
  rw [cell_of_row W p (o + j) _ t (0, 0) h]
  have : o + j < (cellsRun r).toArray.size := by rw [List.size_toArray, length_cellsRun ho]; omega
  rw [Array.getElem?_eq_getElem this]
  exact ⟨rfl, h.free _⟩
theorem RunAt.set_eight {W : World} {p : Nat} {t : TypeId} {r : RunS} (h : RunAt W p t r) (ho : r.ok) (s : List UInt32) (hs : s.length = 8) : RunAt (W.setCells p 1 (cells32 s)) p t ⟨s, r.b, r.many⟩ := by
  unfold RunAt
  rw [heap_setCells p t (cells32 s) 1 (cellsRun r) W h (by rw [length_cells32, hs, length_cellsRun ho]; omega)]
  have e : cellsRun r = [.bool true] ++ (cells32 r.s ++ (cells8 r.b ++ [.int .u64 (r.many : Int)])) := rfl
  have h8 : (cells32 r.s).length = 8 := by rw [length_cells32, ho.1]
  rw [length_cells32, hs, e]
  rw [List.drop_append, List.drop_append, List.drop_eq_nil_of_le (by simp), List.drop_eq_nil_of_le (by simp [h8]), h8]
  simp [cellsRun]

/-- A slice of bytes in memory reads so. -/
def BytesAt (w : World) (v : Value) (l : List UInt8) : Prop :=
  ∃ a cap, v = .slice a l.length cap ∧ l.length ≤ cap ∧ cap ≤ maxLen ∧ (l = [] ∨ ∃ b o, a = some ⟨b, o, none⟩ ∧ w.rangeAt b o (cells8 l))
theorem cells8_append (a b : List UInt8) : cells8 (a ++ b) = cells8 a ++ cells8 b := by simp [cells8]
theorem cells8_drop {w : World} {b o : Nat} {l : List UInt8} (h : w.rangeAt b o (cells8 l)) (i : Nat) (hi : i ≤ l.length) : w.rangeAt b (o + i) (cells8 (l.drop i)) := by
  rw [← List.take_append_drop i l, cells8_append, range_append, length_cells8, List.length_take, Nat.min_eq_left hi] at h
  exact h.2
theorem cells8_take {w : World} {b o : Nat} {l : List UInt8} (h : w.rangeAt b o (cells8 l)) (i : Nat) : w.rangeAt b o (cells8 (l.take i)) := by
  rw [← List.take_append_drop i l, cells8_append, range_append] at h
  exact h.1

/-- A copy into a row: the world behind it is a new one. -/
theorem wpList_copy_at {P : Program} {w : World} {ops : Array Oper} {rest : List Oper} {o : Oper} {a : Act} {Q : Exit → Act → World → Prop} (hgd : o.guard = none) (d s : Operand) (dT sT : TypeId)
    (ho : o.op = .call { callee := .builtin .copy, args := #[d, s], argTypes := #[dT, sT] }) (elem : TypeId) (hu : P.underlying dT = some (.slice elem)) (hsz : (P.info? elem).map (·.size) = some 1)
    (g off dLen dCap : Nat) (ad : Addr) (sLen sCap : Nat) (hd : a.eval d = .slice (some ⟨g, off, none⟩) dLen dCap) (hs : a.eval s = .slice (some ad) sLen sCap)
    (cur : List Value) (t : TypeId) (hg : w.heap[g]? = some (.cells cur.toArray t (0, 0))) (cs : List Value) (hn : cs.length = Nat.min sLen dLen)
    (hsrc : ∀ j v, cs[j]? = some v → w.cell? (ad.add j) = some v) (hfit : off + cs.length ≤ cur.length) (h1 : ∀ v ∈ cs, v.oneCell' = true)
    (h : ∀ w', w'.heap[g]? = some (.cells (splice cur off cs).toArray t (0, 0)) → w.grownBy w' (some g) → wpList P ops Q rest (a.put o.dst (.int .i64 (cs.length : Int))) w') : wpList P ops Q (o :: rest) a w := by
  refine wpList_copy_own hgd d s dT sT ho elem hu hsz g off dLen dCap ad sLen sCap hd hs cur.toArray t hg cs hn hsrc (by simpa using hfit) h1 ?_
  refine h _ ?_ ⟨rfl, rfl, rfl, by simp [World.setRow], fun k _ hk => setRow_other w g k _ (fun e => hk (by rw [e]))⟩
  have := setRow_heap w g _ (cur.toArray.toList.take off ++ (cs ++ cur.toArray.toList.drop (off + cs.length))).toArray t (0, 0) hg
  simpa [splice] using this

theorem grown_trans {w w1 w2 : World} {row : Option Nat} (h : w.grownBy w1 row) (k : w1.grownBy w2 row) : w.grownBy w2 row :=
  ⟨k.os.trans h.os, k.tape.trans h.tape, k.output.trans h.output, Nat.le_trans h.size k.size, fun i hi hne => (k.block i (Nat.lt_of_lt_of_le hi h.size) hne).trans (h.block i hi hne)⟩
theorem grown_drew (w : World) (row : Option Nat) : w.grownBy w.drew row := ⟨rfl, rfl, rfl, Nat.le_refl _, fun _ _ _ => rfl⟩
theorem grown_setCell (w : World) (p i : Nat) (v : Value) : w.grownBy (w.setCell ⟨p, i, none⟩ v) (some p) :=
  ⟨rfl, rfl, rfl, by simp [World.setCell], fun k _ hne => Below.heap_setCell w ⟨p, i, none⟩ v k (fun e => hne (by rw [e]))⟩
theorem grown_setCells (w : World) (p o : Nat) (vs : List Value) : w.grownBy (w.setCells p o vs) (some p) := by
  have hb := setCells_below p (Nat.le_refl p) vs o w w (Below.refl _ _)
  exact ⟨hb.os, hb.tape, hb.output, by rw [size_setCells]; exact Nat.le_refl _, fun k _ hne => heap_setCells_other p k (fun e => hne (by rw [e])) vs o w⟩
theorem grown_below {w w' : World} (h : Below w.heap.size w w') (row : Option Nat) : w.grownBy w' row := ⟨h.os, h.tape, h.output, h.size, fun k hk _ => h.block k hk⟩
theorem grown_range {w w' : World} {p b o : Nat} {cs : List Value} (h : w.grownBy w' (some p)) (hr : w.rangeAt b o cs) (hne : b ≠ p) : w'.rangeAt b o cs := fun j v hj =>
  h.cell (hr j v hj) (fun e => hne (by simpa using e))

/-- Bytes in a block of their own. -/
def Row8 (W : World) (b : Nat) (t : TypeId) (l : List UInt8) : Prop := W.heap[b]? = some (.cells (cells8 l).toArray t (0, 0))
theorem set_cells8 (l : List UInt8) (i : Nat) (x : UInt8) : (cells8 l).toArray.setIfInBounds i (.int .u8 ((x.toNat : Nat) : Int)) = (cells8 (l.set i x)).toArray := by
  simp [cells8, List.map_set, u8v]
theorem Row8.cell {W : World} {b : Nat} {t : TypeId} {l : List UInt8} (h : Row8 W b t l) {i : Nat} (hi : i < l.length) : W.cell? ⟨b, i, none⟩ = some (.int .u8 (((l.getD i 0).toNat : Nat) : Int)) := by
  rw [cell_of_row W b i _ t (0, 0) h, get_cells8 hi]
theorem Row8.free {W : World} {b : Nat} {t : TypeId} {l : List UInt8} (h : Row8 W b t l) (i : Nat) : W.frozen? ⟨b, i, none⟩ = false := frozen_of_row W b i _ t h
theorem Row8.lt {W : World} {b : Nat} {t : TypeId} {l : List UInt8} (h : Row8 W b t l) : b < W.heap.size := (Array.getElem?_eq_some_iff.1 h).1
theorem Row8.set {W : World} {b : Nat} {t : TypeId} {l : List UInt8} (h : Row8 W b t l) (i : Nat) (x : UInt8) : Row8 (W.setCell ⟨b, i, none⟩ (.int .u8 ((x.toNat : Nat) : Int))) b t (l.set i x) := by
  unfold Row8
  rw [heap_setCell_same W b i _ t _ h, set_cells8]
theorem Row8.new {W : World} {b : Nat} {t : TypeId} {l : List UInt8} (C : Array Value) (hC : C = (cells8 l).toArray) (hb : b = W.heap.size) : Row8 (W.alloc (.cells C t)) b t l := by
  subst hC; subst hb; exact heap_alloc_new W _
theorem Row8.alloc {W : World} {b : Nat} {t : TypeId} {l : List UInt8} (h : Row8 W b t l) (o : Obj) : Row8 (W.alloc o) b t l := (Below.heap_alloc W o b h.lt).trans h
theorem Row8.grown {W W' : World} {b p : Nat} {t : TypeId} {l : List UInt8} (h : Row8 W b t l) (hg : W.grownBy W' (some p)) (hne : b ≠ p) : Row8 W' b t l :=
  (hg.block b h.lt (fun e => hne (by simpa using e))).trans h
theorem Row8.range {W : World} {b : Nat} {t : TypeId} {l : List UInt8} (h : Row8 W b t l) : W.rangeAt b 0 (cells8 l) := fun j v hv => by
  rw [cell_of_row W b _ _ t (0, 0) h, Nat.zero_add]; simpa using hv
theorem RunAt.new {W : World} {p : Nat} {t : TypeId} {r : RunS} (C : Array Value) (hC : C = (cellsRun r).toArray) (hp : p = W.heap.size) : RunAt (W.alloc (.cells C t)) p t r := by
  subst hC; subst hp; exact heap_alloc_new W _
theorem RunAt.alloc {W : World} {p : Nat} {t : TypeId} {r : RunS} (h : RunAt W p t r) (o : Obj) : RunAt (W.alloc o) p t r := (Below.heap_alloc W o p h.lt).trans h
theorem RunAt.other {W : World} {p : Nat} {t : TypeId} {r : RunS} (h : RunAt W p t r) (a : Addr) (v : Value) (hne : p ≠ a.block) : RunAt (W.setCell a v) p t r := (Below.heap_setCell W a v p hne).trans h
theorem RunAt.num {W : World} {p : Nat} {t : TypeId} {r : RunS} (h : RunAt W p t r) (ho : r.ok) {i : Nat} (hi : i < 8) : W.cell? ⟨p, 1 + i, none⟩ = some (.int .u32 (uv (r.s.getD i 0))) := by
  have := h.eight i (.int .u32 (uv (r.s.getD i 0))) (by have := get_cells32 (l := r.s) (i := i) (by rw [ho.1]; exact hi); simpa using this)
  exact this

/-- A number's eight bytes, the highest one first. -/
def be8 (m : Nat) : List UInt8 := (List.range 8).map fun i => UInt8.ofNat (m >>> (56 - 8 * i))
/-- A run, ended. -/
def finish (r : RunS) : RunS := putAll (putAll (putAll r [128]) (List.replicate ((120 - (r.many + 1) % 64) % 64) 0)) (be8 (r.many * 8))
/-- The sum of eight numbers, so many of its bytes told. -/
def told32 (s : List UInt32) : Nat → List UInt8
  | 0 => List.replicate 32 0
  | i + 1 => (told32 s i).set i (UInt8.ofNat ((s.getD (i / 4) 0).toNat >>> (8 * (3 - i % 4))))
theorem length_told32 (s : List UInt32) (i : Nat) : (told32 s i).length = 32 := by
  induction i with
  | zero => rfl
  | succ i ih => rw [told32, List.length_set, ih]
/-- No bytes yet. -/
def run0 : RunS := ⟨begin8, List.replicate 64 0, 0⟩
theorem run0_ok : run0.ok := ⟨rfl, rfl⟩
/-- The sum of a run. -/
def sumBytes (l : List UInt8) (h : l.length = 32) : Sum := ⟨l.toArray, by rw [List.size_toArray, h]⟩
theorem cellsOf_sumBytes (l : List UInt8) (h : l.length = 32) : cellsOf (sumBytes l h) = cells8 l := rfl
/-- The sum of a run. -/
def sumOf (r : RunS) : Sum := sumBytes (told32 (finish r).s 32) (length_told32 _ _)
theorem cellsOf_sumOf (r : RunS) : cellsOf (sumOf r) = cells8 (told32 (finish r).s 32) := by
  unfold sumOf
  exact cellsOf_sumBytes _ _
/-- The sum of bytes. -/
def sha (l : List UInt8) : Sum := sumOf (putAll run0 l)

end Alm
-- Walk: (*shas.Run).puts: bytes put behind those that wait.
open Go Go.RowKit Alm
namespace Go.Proofs.YtfmgoehnbaiamaaGreatDoor
theorem infoByte : (Tryz.prog.info? 5).map (·.size) = some 1 := by kernel_rfl
theorem infoBytes64 : (Tryz.prog.info? 233).map (·.size) = some 64 := by kernel_rfl
set_option maxRecDepth 100000 in
set_option maxHeartbeats 1000000 in
theorem puts_any (p : Nat) (r : RunS) (l : List UInt8) (v : Value) (w : World) (ho : r.ok) (hv : BytesAt w v l) (hp : ∀ a n c, v = .slice (some a) n c → l ≠ [] → a.block ≠ p) (hr : RunAt w p 235 r) (hm : r.many + l.length < 18446744073709551616) :
    Calls Tryz.prog 172 #[.pointer (some ⟨p, 0, none⟩), v] w fun e w' => e = .returned (.tuple #[]) ∧ RunAt w' p 235 (putAll r l) ∧ w.grownBy w' (some p) := by
  obtain ⟨a, cap, rfl, hc, hcm, hra⟩ := hv
  go_enter Tryz.func172, Tryz.ntmps172
  go_wp2_with fail
  go_loopw [1] (fun v W => ∃ (rr : RunS) (rest : List UInt8) (a : Option Addr) (cap : Nat), v = .slice a rest.length cap ∧ rest.length ≤ cap ∧ cap ≤ maxLen ∧ (rest = [] ∨ ∃ b o, b ≠ p ∧ a = some ⟨b, o, none⟩ ∧ W.rangeAt b o (cells8 rest)) ∧ rr.ok ∧ RunAt W p 235 rr ∧ w.grownBy W (some p) ∧ putAll rr rest = putAll r l ∧ rr.many + rest.length < 18446744073709551616) (fun v _ => match v with | .slice _ n _ => n | _ => 0)
  case atStart =>
    refine ⟨r, l, a, cap, rfl, hc, hcm, ?_, ho, hr, World.grownBy.refl _ _, rfl, hm⟩
    rcases hra with h | ⟨b, o, rfl, h⟩
    · exact .inl h
    · by_cases hl : l = []
      · exact .inl hl
      · exact .inr ⟨b, o, hp _ _ _ rfl hl, rfl, h⟩
  case round =>
    obtain ⟨rr, rest, a, cap, rfl, hc, hcm, hra, ho, hr, hg, hpe, hm⟩ := hrel
    by_cases h0 : rest = []
    · subst h0
      go_wp2_with fail
      go_end0
      exact ⟨rfl, by rw [← hpe]; exact hr, hg⟩
    · obtain ⟨b, o, hbp, rfl, hrg⟩ := hra.resolve_left h0
      clear hra
      have hpos : 0 < rest.length := List.length_pos_iff.2 h0
      have c73 := hr.many ho
      obtain ⟨q, hq⟩ : ∃ q, q = rr.many % 64 := ⟨_, rfl⟩
      have q1 : (rr.many : Int) % 64 = (q : Int) := by omega
      have q2 : q < 64 := by omega
      have q3 : (q : Int) < 64 := by omega
      have q4 : (0 : Int) ≤ (q : Int) := by omega
      have q5 : ¬ (64 : Nat) = q := by omega
      have q6 : (q : Int) ≤ 64 := by omega
      have p1 : (0 : Int) < (rest.length : Int) := by omega
      have Q := Lib.hid hq; clear hq
      unfold maxLen at hcm
      have m1 : (rr.many : Int) < 18446744073709551616 := by omega
      have tq : Int.tmod (rr.many : Int) 64 = (q : Int) := by rw [Int.tmod_eq_emod_of_nonneg (by omega)]; exact q1
      go_wp2_with fail
      go_still_tail 10, (by kernel_rfl)
      change wpList _ _ _ _ _ wr.drew
      obtain ⟨n, hn⟩ : ∃ n, n = Nat.min rest.length (64 - q) := ⟨_, rfl⟩
      have n1 : n ≤ rest.length := by rw [hn]; exact Nat.min_le_left _ _
      have n2 : n ≤ 64 - q := by rw [hn]; exact Nat.min_le_right _ _
      have n3 : 0 < n := by rw [hn]; exact Nat.lt_min.2 ⟨hpos, by omega⟩
      have hlc : (cells8 (rest.take n)).length = n := by rw [length_cells8, List.length_take, Nat.min_eq_left n1]
      refine wpList_copy_at rfl _ _ _ _ rfl 5 Tryz.underlying39 infoByte p (9 + q) (64 - q) (64 - q) ⟨b, o, none⟩ rest.length cap rfl rfl (cellsRun rr) 235 hr (cells8 (rest.take n)) (by rw [hlc]; exact hn)
        (fun j v hj => by rw [Addr.add_mid]; exact cells8_take hrg n j v hj) (by rw [hlc, length_cellsRun ho]; omega) (oneCell_cells8 _) ?_
      intro w1 hw1 hg1
      rw [splice_cellsRun ho q _ (by rw [List.length_take]; omega)] at hw1
      rw [hlc]
      have hrg1 := grown_range hg1 hrg hbp
      have hg2 := grown_trans (grown_trans hg (grown_drew wr _)) hg1
      clear hg1 hrg hlc
      have ho1 : RunS.ok ⟨rr.s, splice rr.b q (rest.take n), rr.many⟩ := ⟨ho.1, by rw [length_splice _ _ _ (by rw [List.length_take, ho.2]; omega)]; exact ho.2⟩
      have hr1 : RunAt w1 p 235 ⟨rr.s, splice rr.b q (rest.take n), rr.many⟩ := hw1
      have hch := putAll_chunk (rest.take n) rr ho (fun h => by have := congrArg List.length h; rw [List.length_take, Nat.min_eq_left n1, List.length_nil] at this; omega) (by rw [List.length_take, ← Q.out]; omega)
      rw [List.length_take, Nat.min_eq_left n1, ← Q.out] at hch
      have hsp : putAll rr rest = putAll (putAll rr (rest.take n)) (rest.drop n) := by rw [← putAll_append, List.take_append_drop]
      have HN := Lib.hid hn; clear hn
      have HC := Lib.hid hch; clear hch
      have HSP := Lib.hid hsp; clear hsp
      have HPE := Lib.hid hpe; clear hpe
      generalize splice rr.b q (rest.take n) = b1 at *
      have d73 := hr1.many ho1
      have e73 := hr1.free 73
      have hr2 := hr1.set_many ho1 (rr.many + n)
      have d73' := hr2.many ho1
      simp only at d73 hr2 d73'
      have s1 : IntKind.u64.wrap ((rr.many : Int) + (n : Int)) = ((rr.many + n : Nat) : Int) := by
        simp only [IntKind.wrap, IntKind.bits, IntKind.signed, Bool.false_and, Bool.false_eq_true, if_false]; omega
      have m2 : (rr.many : Int) + (n : Int) < 18446744073709551616 := by omega
      have HM := Lib.hid hm; clear hm
      by_cases hz : (rr.many + n) % 64 = 0
      · have z1 : ((rr.many : Int) + (n : Int)) % 64 = 0 := by omega
        have HZ := Lib.hid hz; clear hz
        rw [Int.natCast_add] at hr2
        clear d73' 
        go_wp2_with fail
        have hg3 := grown_trans hg2 (grown_setCell w1 p 73 (.int .u64 ((rr.many : Int) + (n : Int))))
        have hrg2 := grown_range (grown_setCell w1 p 73 (.int .u64 ((rr.many : Int) + (n : Int)))) hrg1 hbp
        clear hg2 hrg1 d73 e73 hw1 hr1 c73
        generalize w1.setCell ⟨p, 73, none⟩ (.int .u64 ((rr.many : Int) + (n : Int))) = w2 at hr2 hg3 hrg2 ⊢
        have ho2 : RunS.ok ⟨rr.s, b1, rr.many + n⟩ := ho1
        have HO := Lib.hid ho2; clear ho2
        refine wp_region_quiet_put (fun W => Below w2.heap.size w2 W) (by kernel_rfl) (by simp) rfl rfl (by kernel_rfl) (by kernel_rfl) (by kernel_rfl) (Below.refl _ _).drew ?_
        simp only [List.dropLast_cons_cons, List.dropLast_singleton, List.getLast_cons_cons, List.getLast_singleton, List.cons_append, List.nil_append, idle]
        iterate 4
          refine wpQuiet_take rfl (v := ?_) (fun W hS => ?_) ?_
          rotate_left
          · clear hS
            go_simp
            rfl
          rotate_left
          try simp only [Act.put, List.setIfInBounds_toArray, List.set_cons_zero, List.set_cons_succ]
        refine wpQuiet_take rfl (v := .agg (cells32 rr.s).toArray) (fun W hS => ?_) ?_
        · have hW := hr2.below hS hr2.lt
          exact quietAt_load_mid _ _ rfl p 1 rfl (cells32 rr.s) _ hW.eight Tryz.underlying231 rfl (by rw [length_cells32, HO.out.1]; exact info8)
        try simp only [Act.put, List.setIfInBounds_toArray, List.set_cons_zero, List.set_cons_succ]
        iterate 3
          refine wpQuiet_take rfl (v := ?_) (fun W hS => ?_) ?_
          rotate_left
          · clear hS
            go_simp
            rfl
          rotate_left
          try simp only [Act.put, List.setIfInBounds_toArray, List.set_cons_zero, List.set_cons_succ]
        refine wpQuiet_take rfl (v := .agg (cells8 b1).toArray) (fun W hS => ?_) ?_
        · have hW := hr2.below hS hr2.lt
          exact quietAt_load_mid _ _ rfl p 9 rfl (cells8 b1) _ (hW.bytes HO.out) Tryz.underlying233 rfl (by rw [length_cells8, HO.out.2]; exact infoBytes64)
        try simp only [Act.put, List.setIfInBounds_toArray, List.set_cons_zero, List.set_cons_succ]
        refine wpQuiet_take rfl (v := .agg (cells32 (Alm.took rr.s b1)).toArray) (fun W hS => ?_) ?_
        · go_simp
          refine (took_any rr.s b1 _ HO.out.1 HO.out.2).mono ?_
          rintro e w' ⟨rfl, hb⟩
          exact ⟨rfl, hS.trans (hb.mono hS.size)⟩
        try simp only [Act.put, List.setIfInBounds_toArray, List.set_cons_zero, List.set_cons_succ]
        iterate 2
          refine wpQuiet_take rfl (v := ?_) (fun W hS => ?_) ?_
          rotate_left
          · clear hS
            go_simp
            rfl
          rotate_left
          try simp only [Act.put, List.setIfInBounds_toArray, List.set_cons_zero, List.set_cons_succ]
        refine wpQuiet_nil ?_
        intro W hS
        have hW := hr2.below hS hr2.lt
        have ht := length_took rr.s b1
        rw [HO.out.1] at ht
        have hz8 : (cells32 (Alm.took rr.s b1)).toArray.size = 8 := by simp only [cells32, List.size_toArray, List.length_map]; exact ht
        refine wp_store_mid _ _ _ rfl p 1 _ rfl rfl (by rw [hz8]; exact hW.there HO.out 1 8 (by decide)) (by rw [hz8]; exact info8) (all_oneCell_toArray (oneCell_cells32 _)) ?_
        have hr3 := hW.set_eight HO.out _ ht
        have hg4 := grown_trans (grown_trans hg3 (grown_below hS _)) (grown_setCells W p 1 (cells32 (Alm.took rr.s b1)))
        have hrg3 := grown_range (grown_setCells W p 1 (cells32 (Alm.took rr.s b1))) (grown_range (grown_below hS _) hrg2 hbp) hbp
        simp only [] at *
        clear hz8 ht hrg2 hg3 hr2 hW hS
        generalize W.setCells p 1 (cells32 (Alm.took rr.s b1)) = w4 at hr3 hg4 hrg3 ⊢
        have hrr : (⟨Alm.took rr.s b1, b1, rr.many + n⟩ : RunS) = putAll rr (rest.take n) := by rw [HC.out]; exact (if_pos HZ.out).symm
        rw [hrr] at hr3
        have hbpe : putAll (putAll rr (rest.take n)) (rest.drop n) = putAll r l := by rw [← HSP.out]; exact HPE.out
        have hok := putAll_ok (rest.take n) ho
        have hmm : (putAll rr (rest.take n)).many + (rest.drop n).length < 18446744073709551616 := by
          rw [putAll_many, List.length_take, Nat.min_eq_left n1, List.length_drop]; have := HM.out; omega
        have HBP := Lib.hid hbpe; clear hbpe
        have HMM := Lib.hid hmm; clear hmm
        clear hrr HC HSP HPE
        generalize putAll rr (rest.take n) = rr2 at *
        have l1 : (n : Int) ≤ (rest.length : Int) := by omega
        have l2 : (n : Int) ≤ (cap : Int) := by omega
        have l3 : (0 : Int) ≤ (n : Int) := by omega
        by_cases hcn : cap = n
        · have hnil : rest.drop n = [] := List.drop_eq_nil_of_le (by omega)
          go_wp2_with fail
          refine ⟨⟨rr2, rest.drop n, _, _, by rw [List.length_drop], by rw [List.length_drop]; omega, by unfold maxLen; omega, .inl hnil, hok, hr3, hg4, HBP.out, HMM.out⟩, by simp; omega⟩
        · go_wp2_with fail
          refine ⟨⟨rr2, rest.drop n, _, _, by rw [List.length_drop], by rw [List.length_drop]; omega, by unfold maxLen; omega, .inr ⟨b, o + n, hbp, rfl, cells8_drop hrg3 n n1⟩, hok, hr3, hg4, HBP.out, HMM.out⟩, by simp; omega⟩
      · have z1 : ¬ (((rr.many : Int) + (n : Int)) % 64 = 0) := by omega
        have z2 : (((rr.many : Int) + (n : Int)) % 64 == 0) = false := by rw [beq_eq_false_iff_ne]; exact z1
        have HZ := Lib.hid hz; clear hz z1
        rw [Int.natCast_add] at hr2
        have hg3 := grown_trans hg2 (grown_setCell w1 p 73 (.int .u64 ((rr.many : Int) + (n : Int))))
        have hrg2 := grown_range (grown_setCell w1 p 73 (.int .u64 ((rr.many : Int) + (n : Int)))) hrg1 hbp
        have HR := Lib.hid hr2; clear hr2
        have HG := Lib.hid hg3; clear hg3
        have HRG := Lib.hid hrg2; clear hrg2
        have hrr : (⟨rr.s, b1, rr.many + n⟩ : RunS) = putAll rr (rest.take n) := by rw [HC.out]; exact (if_neg HZ.out).symm
        have hr2 := HR.out; rw [hrr] at hr2
        have hbpe : putAll (putAll rr (rest.take n)) (rest.drop n) = putAll r l := by rw [← HSP.out]; exact HPE.out
        have hok := putAll_ok (rest.take n) ho
        have hmm : (putAll rr (rest.take n)).many + (rest.drop n).length < 18446744073709551616 := by
          rw [putAll_many, List.length_take, Nat.min_eq_left n1, List.length_drop]; have := HM.out; omega
        have HBP := Lib.hid hbpe; clear hbpe
        have HMM := Lib.hid hmm; clear hmm
        have HR2 := Lib.hid hr2; clear hr2 HR
        clear hrr HC HSP HPE
        generalize putAll rr (rest.take n) = rr2 at *
        have l1 : (n : Int) ≤ (rest.length : Int) := by omega
        have l2 : (n : Int) ≤ (cap : Int) := by omega
        have l3 : (0 : Int) ≤ (n : Int) := by omega
        by_cases hcn : cap = n
        · have hnil : rest.drop n = [] := List.drop_eq_nil_of_le (by omega)
          go_wp2_with fail
          refine ⟨⟨rr2, rest.drop n, _, _, by rw [List.length_drop], by rw [List.length_drop]; omega, by unfold maxLen; omega, .inl hnil, hok, HR2.out, HG.out, HBP.out, HMM.out⟩, by simp; omega⟩
        · go_wp2_with fail
          refine ⟨⟨rr2, rest.drop n, _, _, by rw [List.length_drop], by rw [List.length_drop]; omega, by unfold maxLen; omega, .inr ⟨b, o + n, hbp, rfl, cells8_drop HRG.out n n1⟩, hok, HR2.out, HG.out, HBP.out, HMM.out⟩, by simp; omega⟩
end Go.Proofs.YtfmgoehnbaiamaaGreatDoor
