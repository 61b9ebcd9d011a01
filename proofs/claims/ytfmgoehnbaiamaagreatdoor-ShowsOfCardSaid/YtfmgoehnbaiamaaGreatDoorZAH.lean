/-
  Joined: Run, R2.
-/
import Derived.Test.YtfmgoehnbaiamaaGreatDoorSha
import Derived.Laws.CopyOwn
import Derived.Test.YtfmgoehnbaiamaaGreatDoorZAG
-- Plain: a run of bytes (what the program's text keeps), its cells, and what bytes that are put make of it. No program in sight.
open Go Go.RowKit
namespace Alm

/-- A run of bytes: the eight numbers, the bytes of which the first ones wait, how many were written. -/
structure RunS where
  s : List UInt32
  b : List UInt8
  many : Nat
/-- It is of its lengths. -/
def RunS.ok (r : RunS) : Prop := r.s.length = 8 ∧ r.b.length = 64
/-- Its cells. -/
def cellsRun (r : RunS) : List Value := .bool true :: (cells32 r.s ++ (cells8 r.b ++ [.int .u64 (r.many : Int)]))
theorem length_cellsRun {r : RunS} (h : r.ok) : (cellsRun r).length = 74 := by
  simp only [cellsRun, List.length_cons, List.length_append, length_cells32, length_cells8, List.length_nil, h.1, h.2]
/-- A byte more. -/
def put1 (r : RunS) (c : UInt8) : RunS :=
  if (r.many + 1) % 64 = 0 then ⟨Alm.took r.s (r.b.set (r.many % 64) c), r.b.set (r.many % 64) c, r.many + 1⟩ else ⟨r.s, r.b.set (r.many % 64) c, r.many + 1⟩
/-- Bytes more. -/
def putAll (r : RunS) (l : List UInt8) : RunS := l.foldl put1 r
theorem put1_ok {r : RunS} (h : r.ok) (c : UInt8) : (put1 r c).ok := by
  unfold put1
  split
  · exact ⟨by rw [length_took]; exact h.1, by rw [List.length_set]; exact h.2⟩
  · exact ⟨h.1, by rw [List.length_set]; exact h.2⟩
theorem putAll_ok : ∀ (l : List UInt8) {r : RunS}, r.ok → (putAll r l).ok
  | [], _, h => h
  | c :: l, _, h => putAll_ok l (put1_ok h c)
theorem put1_many (r : RunS) (c : UInt8) : (put1 r c).many = r.many + 1 := by unfold put1; split <;> rfl
theorem putAll_many : ∀ (l : List UInt8) (r : RunS), (putAll r l).many = r.many + l.length
  | [], _ => rfl
  | c :: l, r => by rw [putAll, List.foldl_cons]; have := putAll_many l (put1 r c); rw [putAll] at this; rw [this, put1_many, List.length_cons]; omega
theorem putAll_append (r : RunS) (a b : List UInt8) : putAll r (a ++ b) = putAll (putAll r a) b := List.foldl_append
theorem splice_cons {α : Type} (L : List α) (q : Nat) (c : α) (r : List α) (h : q < L.length) : splice L q (c :: r) = splice (L.set q c) (q + 1) r := by
  simp only [splice, List.length_cons]
  rw [List.set_eq_take_append_cons_drop, if_pos h]
  have h1 : (L.take q ++ c :: L.drop (q + 1)).take (q + 1) = L.take q ++ [c] := by
    rw [List.take_append, List.length_take, Nat.min_eq_left (by omega), List.take_of_length_le (by rw [List.length_take]; omega)]; simp
  have h2 : (L.take q ++ c :: L.drop (q + 1)).drop (q + 1 + r.length) = L.drop (q + (r.length + 1)) := by
    rw [List.drop_append, List.length_take, Nat.min_eq_left (by omega), List.drop_eq_nil_of_le (by rw [List.length_take]; omega)]
    rw [show q + 1 + r.length - q = r.length + 1 from by omega, List.drop_succ_cons, List.drop_drop, List.nil_append]
    congr 1; omega
  rw [h1, h2]; simp
/-- Bytes that fit into the block that waits, at once. -/
theorem putAll_chunk : ∀ (c : List UInt8) (r : RunS), r.ok → c ≠ [] → r.many % 64 + c.length ≤ 64 →
    putAll r c = if (r.many + c.length) % 64 = 0 then ⟨Alm.took r.s (splice r.b (r.many % 64) c), splice r.b (r.many % 64) c, r.many + c.length⟩ else ⟨r.s, splice r.b (r.many % 64) c, r.many + c.length⟩
  | [], _, _, h, _ => (h rfl).elim
  | [x], r, hr, _, h => by
    have hs : splice r.b (r.many % 64) [x] = r.b.set (r.many % 64) x := by
      rw [splice_cons _ _ _ _ (by rw [hr.2]; omega)]; simp [splice]
    rw [hs]; rfl
  | x :: y :: c, r, hr, _, h => by
    simp only [List.length_cons] at h
    have h1 : put1 r x = ⟨r.s, r.b.set (r.many % 64) x, r.many + 1⟩ := by unfold put1; rw [if_neg (by omega)]
    have hm : (r.many + 1) % 64 = r.many % 64 + 1 := by omega
    have ih := putAll_chunk (y :: c) (put1 r x) (put1_ok hr x) (by simp) (by rw [put1_many, hm]; simp only [List.length_cons]; omega)
    show putAll (put1 r x) (y :: c) = _
    rw [ih, h1]
    simp only [List.length_cons, hm]
    rw [splice_cons r.b _ x (y :: c) (by rw [hr.2]; omega), show r.many + 1 + (c.length + 1) = r.many + (c.length + 1 + 1) from by omega]
theorem splice_append_mid {α : Type} (A B D : List α) (q : Nat) (c : List α) (h : q + c.length ≤ B.length) : splice (A ++ (B ++ D)) (A.length + q) c = A ++ (splice B q c ++ D) := by
  simp only [splice]
  rw [List.take_append, Nat.add_sub_cancel_left, List.take_of_length_le (by omega), List.take_append_of_le_length (by omega)]
  rw [List.drop_append, List.drop_eq_nil_of_le (by omega), show A.length + q + c.length - A.length = q + c.length from by omega, List.drop_append_of_le_length (by omega)]
  simp
theorem splice_map {α β : Type} (f : α → β) (L : List α) (q : Nat) (c : List α) : splice (L.map f) q (c.map f) = (splice L q c).map f := by simp [splice]
theorem splice_cellsRun {r : RunS} (h : r.ok) (q : Nat) (c : List UInt8) (hq : q + c.length ≤ 64) : splice (cellsRun r) (9 + q) (cells8 c) = cellsRun ⟨r.s, splice r.b q c, r.many⟩ := by
  have e : cellsRun r = (.bool true :: cells32 r.s) ++ (cells8 r.b ++ [.int .u64 (r.many : Int)]) := rfl
  have hl : (Value.bool true :: cells32 r.s).length = 9 := by rw [List.length_cons, length_cells32, h.1]
  rw [e, ← hl, splice_append_mid _ _ _ _ _ (by rw [length_cells8, length_cells8, h.2]; exact hq)]
  rw [cells8, cells8, splice_map]; rfl
/-- A run behind a pointer to block p. -/
def RunAt (W : World) (p : Nat) (t : TypeId) (r : RunS) : Prop := W.heap[p]? = some (.cells (cellsRun r).toArray t (0, 0))
theorem cellsRun_made (r : RunS) : (cellsRun r).toArray[0]? = some (.bool true) := rfl
theorem cellsRun_many {r : RunS} (h : r.ok) : (cellsRun r).toArray[73]? = some (.int .u64 (r.many : Int)) := by
  have e : cellsRun r = (.bool true :: cells32 r.s ++ cells8 r.b) ++ [.int .u64 (r.many : Int)] := by simp [cellsRun]
  have hl : (.bool true :: cells32 r.s ++ cells8 r.b : List Value).length = 73 := by simp only [List.length_append, List.length_cons, length_cells32, length_cells8, h.1, h.2]
  rw [e, List.getElem?_toArray, List.getElem?_append_right (by omega), hl]; rfl
theorem RunAt.many {W : World} {p : Nat} {t : TypeId} {r : RunS} (h : RunAt W p t r) (ho : r.ok) : W.cell? ⟨p, 73, none⟩ = some (.int .u64 (r.many : Int)) := by
  rw [cell_of_row W p 73 _ t (0, 0) h, cellsRun_many ho]
theorem RunAt.made {W : World} {p : Nat} {t : TypeId} {r : RunS} (h : RunAt W p t r) : W.cell? ⟨p, 0, none⟩ = some (.bool true) := by
  rw [cell_of_row W p 0 _ t (0, 0) h, cellsRun_made]
theorem RunAt.free {W : World} {p : Nat} {t : TypeId} {r : RunS} (h : RunAt W p t r) (i : Nat) : W.frozen? ⟨p, i, none⟩ = false := frozen_of_row W p i _ t h
theorem RunAt.lt {W : World} {p : Nat} {t : TypeId} {r : RunS} (h : RunAt W p t r) : p < W.heap.size := (Array.getElem?_eq_some_iff.1 h).1
theorem RunAt.below {B : Nat} {W W' : World} {p : Nat} {t : TypeId} {r : RunS} (h : RunAt W p t r) (hb : Below B W W') (hB : p < B) : RunAt W' p t r := (hb.block p hB).trans h
theorem RunAt.eight {W : World} {p : Nat} {t : TypeId} {r : RunS} (h : RunAt W p t r) : W.rangeAt p 1 (cells32 r.s) := fun j v hv => by
  rw [cell_of_row W p _ _ t (0, 0) h]
  have hj := (List.getElem?_eq_some_iff.1 hv).1
  rw [List.getElem?_toArray, cellsRun, Nat.add_comm, List.getElem?_cons_succ, List.getElem?_append_left hj]; exact hv
theorem RunAt.bytes {W : World} {p : Nat} {t : TypeId} {r : RunS} (h : RunAt W p t r) (ho : r.ok) : W.rangeAt p 9 (cells8 r.b) := fun j v hv => by
  rw [cell_of_row W p _ _ t (0, 0) h]
  have hj := (List.getElem?_eq_some_iff.1 hv).1
  rw [List.getElem?_toArray, cellsRun, show 9 + j = 8 + j + 1 from by omega, List.getElem?_cons_succ, List.getElem?_append_right (by rw [length_cells32, ho.1]; omega), length_cells32, ho.1, Nat.add_sub_cancel_left, List.getElem?_append_left hj]; exact hv
theorem RunAt.set_many {W : World} {p : Nat} {t : TypeId} {r : RunS} (h : RunAt W p t r) (ho : r.ok) (n : Nat) : RunAt (W.setCell ⟨p, 73, none⟩ (.int .u64 (n : Int))) p t ⟨r.s, r.b, n⟩ := by
  unfold RunAt
  rw [heap_setCell_same W p 73 _ t _ h]
  have e : ∀ m : Nat, cellsRun ⟨r.s, r.b, m⟩ = (.bool true :: cells32 r.s ++ cells8 r.b) ++ [.int .u64 (m : Int)] := fun m => by simp [cellsRun]
  have hl : (.bool true :: cells32 r.s ++ cells8 r.b : List Value).length = 73 := by simp only [List.length_append, List.length_cons, length_cells32, length_cells8, ho.1, ho.2]
  rw [List.setIfInBounds_toArray, show cellsRun r = cellsRun ⟨r.s, r.b, r.many⟩ from rfl, e, e, List.set_append_right _ _ (by omega), hl]; rfl
theorem RunAt.there {W : World} {p : Nat} {t : TypeId} {r : RunS} (h : RunAt W p t r) (ho : r.ok) (o n : Nat) (hn : o + n ≤ 74) : W.there p o n := fun j hj => by
  rw [cell_of_row W p (o + j) _ t (0, 0) h]
  have : o + j < (cellsRun r).toArray.size := by rw [List.size_toArray, length_cellsRun ho]; omega
  rw [Array.getElem?_eq_getElem this]
  exact ⟨rfl, h.free _⟩
theorem RunAt.set_eight {W : World} {p : Nat} {t : TypeId} {r : RunS} (h : RunAt W p t r) (ho : r.ok) (s : List UInt32) (hs : s.length = 8) : RunAt (W.setCells p 1 (cells32 s)) p t ⟨s, r.b, r.many⟩ := by
  unfold RunAt
  rw [heap_setCells p t (cells32 s) 1 (cellsRun r) W h (by rw [length_cells32, hs, length_cellsRun ho]; omega)]
  have e : cellsRun r = [.bool true] ++ (cells32 r.s ++ (cells8 r.b ++ [.int .u64 (r.many : Int)])) := rfl
  have h8 : (cells32 r.s).length = 8 := by rw [length_cells32, ho.1]
  rw [length_cells32, hs, e]
  rw [List.drop_append, List.drop_append, List.drop_eq_nil_of_le (by simp), List.drop_eq_nil_of_le (by simp [h8]), h8]
  simp [cellsRun]

/-- A slice of bytes in memory reads so. -/
def BytesAt (w : World) (v : Value) (l : List UInt8) : Prop :=
  ∃ a cap, v = .slice a l.length cap ∧ l.length ≤ cap ∧ cap ≤ maxLen ∧ (l = [] ∨ ∃ b o, a = some ⟨b, o, none⟩ ∧ w.rangeAt b o (cells8 l))
theorem cells8_append (a b : List UInt8) : cells8 (a ++ b) = cells8 a ++ cells8 b := by simp [cells8]
theorem cells8_drop {w : World} {b o : Nat} {l : List UInt8} (h : w.rangeAt b o (cells8 l)) (i : Nat) (hi : i ≤ l.length) : w.rangeAt b (o + i) (cells8 (l.drop i)) := by
  rw [← List.take_append_drop i l, cells8_append, range_append, length_cells8, List.length_take, Nat.min_eq_left hi] at h
  exact h.2
theorem cells8_take {w : World} {b o : Nat} {l : List UInt8} (h : w.rangeAt b o (cells8 l)) (i : Nat) : w.rangeAt b o (cells8 (l.take i)) := by
  rw [← List.take_append_drop i l, cells8_append, range_append] at h
  exact h.1

/-- A copy into a row: the world behind it is a new one. -/
theorem wpList_copy_at {P : Program} {w : World} {ops : Array Oper} {rest : List Oper} {o : Oper} {a : Act} {Q : Exit → Act → World → Prop} (hgd : o.guard = none) (d s : Operand) (dT sT : TypeId)
    (ho : o.op = .call { callee := .builtin .copy, args := #[d, s], argTypes := #[dT, sT] }) (elem : TypeId) (hu : P.underlying dT = some (.slice elem)) (hsz : (P.info? elem).map (·.size) = some 1)
    (g off dLen dCap : Nat) (ad : Addr) (sLen sCap : Nat) (hd : a.eval d = .slice (some ⟨g, off, none⟩) dLen dCap) (hs : a.eval s = .slice (some ad) sLen sCap)
    (cur : List Value) (t : TypeId) (hg : w.heap[g]? = some (.cells cur.toArray t (0, 0))) (cs : List Value) (hn : cs.length = Nat.min sLen dLen)
    (hsrc : ∀ j v, cs[j]? = some v → w.cell? (ad.add j) = some v) (hfit : off + cs.length ≤ cur.length) (h1 : ∀ v ∈ cs, v.oneCell' = true)
    (h : ∀ w', w'.heap[g]? = some (.cells (splice cur off cs).toArray t (0, 0)) → w.grownBy w' (some g) → wpList P ops Q rest (a.put o.dst (.int .i64 (cs.length : Int))) w') : wpList P ops Q (o :: rest) a w := by
  refine wpList_copy_own hgd d s dT sT ho elem hu hsz g off dLen dCap ad sLen sCap hd hs cur.toArray t hg cs hn hsrc (by simpa using hfit) h1 ?_
  refine h _ ?_ ⟨rfl, rfl, rfl, by simp [World.setRow], fun k _ hk => setRow_other w g k _ (fun e => hk (by rw [e]))⟩
  have := setRow_heap w g _ (cur.toArray.toList.take off ++ (cs ++ cur.toArray.toList.drop (off + cs.length))).toArray t (0, 0) hg
  simpa [splice] using this

theorem grown_trans {w w1 w2 : World} {row : Option Nat} (h : w.grownBy w1 row) (k : w1.grownBy w2 row) : w.grownBy w2 row :=
  ⟨k.os.trans h.os, k.tape.trans h.tape, k.output.trans h.output, Nat.le_trans h.size k.size, fun i hi hne => (k.block i (Nat.lt_of_lt_of_le hi h.size) hne).trans (h.block i hi hne)⟩
theorem grown_drew (w : World) (row : Option Nat) : w.grownBy w.drew row := ⟨rfl, rfl, rfl, Nat.le_refl _, fun _ _ _ => rfl⟩
theorem grown_setCell (w : World) (p i : Nat) (v : Value) : w.grownBy (w.setCell ⟨p, i, none⟩ v) (some p) :=
  ⟨rfl, rfl, rfl, by simp [World.setCell], fun k _ hne => Below.heap_setCell w ⟨p, i, none⟩ v k (fun e => hne (by rw [e]))⟩
theorem grown_setCells (w : World) (p o : Nat) (vs : List Value) : w.grownBy (w.setCells p o vs) (some p) := by
  have hb := setCells_below p (Nat.le_refl p) vs o w w (Below.refl _ _)
  exact ⟨hb.os, hb.tape, hb.output, by rw [size_setCells]; exact Nat.le_refl _, fun k _ hne => heap_setCells_other p k (fun e => hne (by rw [e])) vs o w⟩
theorem grown_below {w w' : World} (h : Below w.heap.size w w') (row : Option Nat) : w.grownBy w' row := ⟨h.os, h.tape, h.output, h.size, fun k hk _ => h.block k hk⟩
theorem grown_range {w w' : World} {p b o : Nat} {cs : List Value} (h : w.grownBy w' (some p)) (hr : w.rangeAt b o cs) (hne : b ≠ p) : w'.rangeAt b o cs := fun j v hj =>
  h.cell (hr j v hj) (fun e => hne (by simpa using e))

/-- Bytes in a block of their own. -/
def Row8 (W : World) (b : Nat) (t : TypeId) (l : List UInt8) : Prop := W.heap[b]? = some (.cells (cells8 l).toArray t (0, 0))
theorem set_cells8 (l : List UInt8) (i : Nat) (x : UInt8) : (cells8 l).toArray.setIfInBounds i (.int .u8 ((x.toNat : Nat) : Int)) = (cells8 (l.set i x)).toArray := by
  simp [cells8, List.map_set, u8v]
theorem Row8.cell {W : World} {b : Nat} {t : TypeId} {l : List UInt8} (h : Row8 W b t l) {i : Nat} (hi : i < l.length) : W.cell? ⟨b, i, none⟩ = some (.int .u8 (((l.getD i 0).toNat : Nat) : Int)) := by
  rw [cell_of_row W b i _ t (0, 0) h, get_cells8 hi]
theorem Row8.free {W : World} {b : Nat} {t : TypeId} {l : List UInt8} (h : Row8 W b t l) (i : Nat) : W.frozen? ⟨b, i, none⟩ = false := frozen_of_row W b i _ t h
theorem Row8.lt {W : World} {b : Nat} {t : TypeId} {l : List UInt8} (h : Row8 W b t l) : b < W.heap.size := (Array.getElem?_eq_some_iff.1 h).1
theorem Row8.set {W : World} {b : Nat} {t : TypeId} {l : List UInt8} (h : Row8 W b t l) (i : Nat) (x : UInt8) : Row8 (W.setCell ⟨b, i, none⟩ (.int .u8 ((x.toNat : Nat) : Int))) b t (l.set i x) := by
  unfold Row8
  rw [heap_setCell_same W b i _ t _ h, set_cells8]
theorem Row8.new {W : World} {b : Nat} {t : TypeId} {l : List UInt8} (C : Array Value) (hC : C = (cells8 l).toArray) (hb : b = W.heap.size) : Row8 (W.alloc (.cells C t)) b t l := by
  subst hC; subst hb; exact heap_alloc_new W _
theorem Row8.alloc {W : World} {b : Nat} {t : TypeId} {l : List UInt8} (h : Row8 W b t l) (o : Obj) : Row8 (W.alloc o) b t l := (Below.heap_alloc W o b h.lt).trans h
theorem Row8.grown {W W' : World} {b p : Nat} {t : TypeId} {l : List UInt8} (h : Row8 W b t l) (hg : W.grownBy W' (some p)) (hne : b ≠ p) : Row8 W' b t l :=
  (hg.block b h.lt (fun e => hne (by simpa using e))).trans h
theorem Row8.range {W : World} {b : Nat} {t : TypeId} {l : List UInt8} (h : Row8 W b t l) : W.rangeAt b 0 (cells8 l) := fun j v hv => by
  rw [cell_of_row W b _ _ t (0, 0) h, Nat.zero_add]; simpa using hv
theorem RunAt.new {W : World} {p : Nat} {t : TypeId} {r : RunS} (C : Array Value) (hC : C = (cellsRun r).toArray) (hp : p = W.heap.size) : RunAt (W.alloc (.cells C t)) p t r := by
  subst hC; subst hp; exact heap_alloc_new W _
theorem RunAt.alloc {W : World} {p : Nat} {t : TypeId} {r : RunS} (h : RunAt W p t r) (o : Obj) : RunAt (W.alloc o) p t r := (Below.heap_alloc W o p h.lt).trans h
theorem RunAt.other {W : World} {p : Nat} {t : TypeId} {r : RunS} (h : RunAt W p t r) (a : Addr) (v : Value) (hne : p ≠ a.block) : RunAt (W.setCell a v) p t r := (Below.heap_setCell W a v p hne).trans h
theorem RunAt.num {W : World} {p : Nat} {t : TypeId} {r : RunS} (h : RunAt W p t r) (ho : r.ok) {i : Nat} (hi : i < 8) : W.cell? ⟨p, 1 + i, none⟩ = some (.int .u32 (uv (r.s.getD i 0))) := by
  have := h.eight i (.int .u32 (uv (r.s.getD i 0))) (by have := get_cells32 (l := r.s) (i := i) (by rw [ho.1]; exact hi); simpa using this)
  exact this

/-- A number's eight bytes, the highest one first. -/
def be8 (m : Nat) : List UInt8 := (List.range 8).map fun i => UInt8.ofNat (m >>> (56 - 8 * i))
/-- A run, ended. -/
def finish (r : RunS) : RunS := putAll (putAll (putAll r [128]) (List.replicate ((120 - (r.many + 1) % 64) % 64) 0)) (be8 (r.many * 8))
/-- The sum of eight numbers, so many of its bytes told. -/
def told32 (s : List UInt32) : Nat → List UInt8
  | 0 => List.replicate 32 0
  | i + 1 => (told32 s i).set i (UInt8.ofNat ((s.getD (i / 4) 0).toNat >>> (8 * (3 - i % 4))))
theorem length_told32 (s : List UInt32) (i : Nat) : (told32 s i).length = 32 := by
  induction i with
  | zero => rfl
  | succ i ih => rw [told32, List.length_set, ih]
/-- No bytes yet. -/
def run0 : RunS := ⟨begin8, List.replicate 64 0, 0⟩
theorem run0_ok : run0.ok := ⟨rfl, rfl⟩
/-- The sum of a run. -/
def sumBytes (l : List UInt8) (h : l.length = 32) : Sum := ⟨l.toArray, by rw [List.size_toArray, h]⟩
theorem cellsOf_sumBytes (l : List UInt8) (h : l.length = 32) : cellsOf (sumBytes l h) = cells8 l := rfl
/-- The sum of a run. -/
def sumOf (r : RunS) : Sum := sumBytes (told32 (finish r).s 32) (length_told32 _ _)
theorem cellsOf_sumOf (r : RunS) : cellsOf (sumOf r) = cells8 (told32 (finish r).s 32) := by
  unfold sumOf
  exact cellsOf_sumBytes _ _
/-- The sum of bytes. -/
def sha (l : List UInt8) : Sum := sumOf (putAll run0 l)

end Alm
-- Plain: the sum of bytes as the document defines it: what stands behind the bytes, block by block. No program in sight.
namespace Alm
/-- What stands behind so many bytes. -/
def rend (n : Nat) : List UInt8 := 128 :: (List.replicate ((120 - (n + 1) % 64) % 64) 0 ++ be8 (n * 8))
def rfull (l : List UInt8) : List UInt8 := l ++ rend l.length
theorem length_be8 (m : Nat) : (be8 m).length = 8 := by simp [be8]
theorem length_rend (n : Nat) : (rend n).length = (120 - (n + 1) % 64) % 64 + 9 := by simp [rend, length_be8]
theorem length_rfull (l : List UInt8) : (rfull l).length % 64 = 0 := by
  rw [rfull, List.length_append, length_rend]; omega
/-- So many blocks of bytes, taken. -/
def rblocks (s : List UInt32) (all : List UInt8) : Nat → List UInt32
  | 0 => s
  | k + 1 => rtook (rblocks s all k) ((all.drop (64 * k)).take 64)
theorem length_rblocks (s : List UInt32) (all : List UInt8) (hs : s.length = 8) (k : Nat) : (rblocks s all k).length = 8 := by
  cases k with
  | zero => exact hs
  | succ k => simp [rblocks, rtook]
theorem splice_whole {α : Type} (L c : List α) (h : L.length = c.length) : splice L 0 c = c := by
  simp [splice, ← h]
theorem run_blocks (all : List UInt8) : ∀ k, 64 * k ≤ all.length → (putAll run0 (all.take (64 * k))).s = rblocks begin8 all k ∧ (putAll run0 (all.take (64 * k))).many = 64 * k
  | 0, _ => by simp [putAll, run0, rblocks]
  | k + 1, h => by
    obtain ⟨ih1, ih2⟩ := run_blocks all k (by omega)
    have hok := putAll_ok (all.take (64 * k)) run0_ok
    have hc : ((all.drop (64 * k)).take 64).length = 64 := by rw [List.length_take, List.length_drop]; omega
    rw [show 64 * (k + 1) = 64 * k + 64 by omega, List.take_add, putAll_append]
    generalize putAll run0 (all.take (64 * k)) = r at *
    rw [putAll_chunk _ r hok (by intro h0; rw [h0] at hc; cases hc) (by rw [ih2, hc]; omega), if_pos (by rw [ih2, hc]; omega)]
    refine ⟨?_, by rw [ih2, hc]⟩
    show Alm.took r.s _ = rtook _ _
    rw [ih2, show 64 * k % 64 = 0 by omega, splice_whole _ _ (by rw [hok.2, hc]), ih1, rtook_eq _ _ (by rw [← ih1]; exact hok.1)]
/-- The sum of bytes, block by block. -/
theorem sha_blocks (l : List UInt8) (k : Nat) (hk : (rfull l).length = 64 * k) : sha l = sumBytes (told32 (rblocks begin8 (rfull l) k) 32) (length_told32 _ _) := by
  have h1 : (finish (putAll run0 l)).s = rblocks begin8 (rfull l) k := by
    have hm : (putAll run0 l).many = l.length := by rw [putAll_many]; exact Nat.zero_add _
    have e : finish (putAll run0 l) = putAll run0 (rfull l) := by
      unfold finish
      rw [hm, ← putAll_append, ← putAll_append, ← putAll_append]
      congr 1
      try simp [rfull, rend]
    rw [e, ← (run_blocks (rfull l) k (by omega)).1, ← hk, List.take_length]
  unfold sha sumOf
  simp only [h1]
end Alm
