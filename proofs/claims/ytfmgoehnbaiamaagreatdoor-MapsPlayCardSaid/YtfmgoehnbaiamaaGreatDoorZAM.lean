/-
  Joined: U0, R1, R2, Y1.
-/
import Derived.Test.YtfmgoehnbaiamaaGreatDoorZAK
import Derived.Test.YtfmgoehnbaiamaaGreatDoorZAL
import Derived.Deep.AppendLies
import Derived.WalkMore
import Derived.Great.BuildSlice
import Derived.Test.YtfmgoehnbaiamaaGreatDoorSha
import Derived.Test.YtfmgoehnbaiamaaGreatDoorZAJ
-- The seat's words for lists of sums that grow.
open Go Go.RowKit Alm
namespace Go.Proofs.YtfmgoehnbaiamaaGreatDoor
/-- The sum of noughts. -/
def zeroSum : Sum := Vector.replicate 32 0
theorem info_sum : ∃ i z, Tryz.prog.info? 24 = some i ∧ i.zero = some z ∧ i.size = 32 ∧ i.bytes = 32 ∧ z.cells.size = 32 := by
  have h : (Tryz.prog.info? 24).map (fun i => (i.zero.map fun z => z.cells.size, i.size, i.bytes)) = some (some 32, 32, 32) := by kernel_rfl
  obtain ⟨i, hi, h2⟩ := Option.map_eq_some_iff.1 h
  simp only [Prod.mk.injEq] at h2
  obtain ⟨z, hz, hz2⟩ := Option.map_eq_some_iff.1 h2.1
  exact ⟨i, z, hi, hz, h2.2.1, h2.2.2, hz2⟩
theorem wp_load_sum {op : Oper} {a : Act} {w : World} {K : Act → World → Prop} {Q : Exit → Act → World → Prop} (x : Operand) (ho : op.op = .load 24 x)
    (b o : Nat) (hx : a.eval x = .pointer (some ⟨b, o, none⟩)) (s : Sum) (hc : w.rangeAt b o (cellsOf s)) (h : K (a.put op.dst (sv s)) w) : op.wp Tryz.prog a w K Q :=
  wp_load_mid _ x ho b o hx (cellsOf s) _ hc Tryz.underlying24 rfl (by rw [length_cellsOf]; exact infoSum) h
theorem wp_store_sum {op : Oper} {a : Act} {w : World} {K : Act → World → Prop} {Q : Exit → Act → World → Prop} (x y : Operand) (ho : op.op = .store 24 x y)
    (b o : Nat) (s : Sum) (hx : a.eval x = .pointer (some ⟨b, o, none⟩)) (hy : a.eval y = sv s) (ht : w.there b o 32) (h : K (a.put op.dst undef) (w.setCells b o (cellsOf s))) : op.wp Tryz.prog a w K Q :=
  wp_store_mid _ x y ho b o _ hx hy (by rw [size_cellsOf]; exact ht) (by rw [size_cellsOf]; exact infoSum) (all_cellsOf s) h
/-- append of a row of sums. -/
theorem wp_append_sums {w : World} {o : Oper} {a : Act} {K : Act → World → Prop} {Q : Exit → Act → World → Prop} (s x : Operand)
    (ho : o.op = .call { callee := .builtin .append, args := #[s, x], argTypes := #[61, 61] })
    (base : Nat) (v : Value) (l ys : List Sum) (n m : Nat) (_hn : l.length = n) (hm : ys.length = m) (hs : a.eval s = v) (hown : w.ownsRow base 24 32 v n (cellsAll l))
    (b off c : Nat) (hx : a.eval x = .slice (some ⟨b, off, none⟩) m c) (hr : w.rangeAt b off (cellsAll ys)) (h0 : 0 < m) (hl : n + m < 4000000000000) (hB : base ≤ w.heap.size)
    (h : ∀ g cap w', w'.ownsRow base 24 32 (.slice (some ⟨g, 0, none⟩) (n + m) cap) (n + m) (cellsAll (l ++ ys)) → w.grownBy w' v.ownBlock → (v.ownBlock = some g ∨ g = w.heap.size) → g < w'.heap.size → K (a.put o.dst (.slice (some ⟨g, 0, none⟩) (n + m) cap)) w') : o.wp Tryz.prog a w K Q := by
  obtain ⟨i, z, hi, hz, h1, h2, h3⟩ := info_sum
  refine wp_append_lies w s x _ ho base _ i z 32 32 Tryz.underlying61 hi hz h1 h2 h3 (by omega) v n (cellsAll l) hs hown ⟨b, off, none⟩ m c (cellsAll ys) hx (by rw [length_cellsAll, hm]; omega) (fun j u hj => by rw [Addr.add_mid]; exact hr j u hj) (oneCell_cellsAll ys) h0 (by unfold maxLen; omega) (by omega) hB w.heap.size rfl ?_
  intro g cap w' ho' hg hat hlt
  refine h g cap w' ?_ hg hat hlt
  rw [cellsAll_append]; exact ho'
theorem wpList_append_sums {w : World} {ops : Array Oper} {rest : List Oper} {o : Oper} {a : Act} {Q : Exit → Act → World → Prop} (hgd : o.guard = none) (s x : Operand)
    (ho : o.op = .call { callee := .builtin .append, args := #[s, x], argTypes := #[61, 61] })
    (base : Nat) (v : Value) (l ys : List Sum) (n m : Nat) (hn : l.length = n) (hm : ys.length = m) (hs : a.eval s = v) (hown : w.ownsRow base 24 32 v n (cellsAll l))
    (b off c : Nat) (hx : a.eval x = .slice (some ⟨b, off, none⟩) m c) (hr : w.rangeAt b off (cellsAll ys)) (h0 : 0 < m) (hl : n + m < 4000000000000) (hB : base ≤ w.heap.size)
    (h : ∀ g cap w', w'.ownsRow base 24 32 (.slice (some ⟨g, 0, none⟩) (n + m) cap) (n + m) (cellsAll (l ++ ys)) → w.grownBy w' v.ownBlock → (v.ownBlock = some g ∨ g = w.heap.size) → g < w'.heap.size → wpList Tryz.prog ops Q rest (a.put o.dst (.slice (some ⟨g, 0, none⟩) (n + m) cap)) w') : wpList Tryz.prog ops Q (o :: rest) a w :=
  wpList_plain hgd fun _ hK => wp_append_sums s x ho base v l ys n m hn hm hs hown b off c hx hr h0 hl hB fun g cap w' h1 h2 h3 h4 => hK _ _ (h g cap w' h1 h2 h3 h4)
/-- A slice literal of sums. -/
theorem wp_build_sums {w : World} {o : Oper} {a : Act} {K : Act → World → Prop} {Q : Exit → Act → World → Prop} (len : Nat) (parts : Array (Nat × Operand)) (ho : o.op = .buildSlice 61 len parts) (l : List Sum) (hl : l.length = len) (h0 : 0 < len) (h1 : len ≤ 1000)
    (hp : (parts.toList.map fun (i, x) => (i, a.eval x)) = (((l.map fun s => sv s)).zipIdx 0).map fun x => (x.2, x.1))
    (h : K (a.put o.dst (.slice (some ⟨w.heap.size, 0, none⟩) len len)) (w.alloc (.cells (cellsAll l).toArray 24))) : o.wp Tryz.prog a w K Q := by
  obtain ⟨i, z, hi, hz, hs, hb, hzs⟩ := info_sum
  refine wp_buildSlice _ 24 len parts ho (cellsAll l).toArray i z Tryz.underlying61 hi hz (by rw [hs]; omega) (by rw [hs]; omega) ?_ h
  have hc : (l.map fun s => sv s).flatMap (fun v => v.cells.toList) = cellsAll l := by
    rw [List.flatMap_map, cellsAll]
    rfl
  rw [Array.toList_map, hp, hs, Great.fill_whole (by omega) (l.map fun s => sv s) _ (fun v hv => by obtain ⟨s, _, rfl⟩ := List.mem_map.1 hv; exact size_cellsOf s) (by simp [hl]), hc]
/-- A load of a sum, as a move of a scheduled walk. -/
theorem wpS_load_sum {md : Region.Mode} {S : World → Prop} {ops : List Oper} {Q : Exit → Act → World → Prop} {r : List Mv} {a : Act} {w : World} {o : Oper} {i : Nat} (hS : S w) (ho : ops[i]? = some o) (hg : Region.wanted o (yielded ops.toArray a.tmps) = true) (x : Operand) (hop : o.op = .load 24 x) (b off : Nat) (hx : a.eval x = .pointer (some ⟨b, off, none⟩)) (s : Sum)
    (hc : ∀ W, S W → W.rangeAt b off (cellsOf s)) (h : wpS Tryz.prog md ops.toArray Q S r (a.put o.dst (sv s)) w) : wpS Tryz.prog md ops.toArray Q S (.s i :: r) a w :=
  wpS_load_mid hS ho hg _ x hop b off hx (cellsOf s) _ hc Tryz.underlying24 rfl (by rw [length_cellsOf]; exact infoSum) h
theorem own_lt {w : World} {base : Nat} {e : TypeId} {size : Nat} {v : Value} {n : Nat} {xs : List Value} (h : w.ownsRow base e size v n xs) {k : Nat} (hk : v.ownBlock = some k) : k < w.heap.size := (h.lt k hk).2
theorem own_sum_range {w : World} {base : Nat} {e : TypeId} {g n cap : Nat} {l : List Sum} (h : w.ownsRow base e 32 (.slice (some ⟨g, 0, none⟩) n cap) n (cellsAll l)) : w.rangeAt g 0 (cellsAll l) := fun j u hj => by
  have := h.cells (g := g) rfl j u hj
  rwa [Addr.add_mid] at this
end Go.Proofs.YtfmgoehnbaiamaaGreatDoor
-- Plain: the sum of bytes as the document defines it is the one that the program's text computes: words, times, a block. No program in sight.
open Go Go.RowKit
namespace Alm
theorem u32_ext {x y : UInt32} (h : ∀ i, i < 32 → x.toBitVec.getLsbD i = y.toBitVec.getLsbD i) : x = y := by
  apply UInt32.toBitVec_inj.1
  exact BitVec.eq_of_getLsbD_eq fun i hi => h i hi
theorem ch_eq (e f g : UInt32) : (e &&& f) ||| (~~~e &&& g) = (e &&& (f ^^^ g)) ^^^ g := by
  apply u32_ext
  intro i hi
  simp only [UInt32.toBitVec_or, UInt32.toBitVec_and, UInt32.toBitVec_xor, UInt32.toBitVec_not, BitVec.getLsbD_or, BitVec.getLsbD_and, BitVec.getLsbD_xor, BitVec.getLsbD_not, hi, decide_true, Bool.true_and]
  cases e.toBitVec.getLsbD i <;> cases f.toBitVec.getLsbD i <;> cases g.toBitVec.getLsbD i <;> rfl
theorem maj_eq (a b c : UInt32) : (a &&& b) ||| (a &&& c) ||| (b &&& c) = (a &&& (b ||| c)) ||| (b &&& c) := by
  apply u32_ext
  intro i hi
  simp only [UInt32.toBitVec_or, UInt32.toBitVec_and, BitVec.getLsbD_or, BitVec.getLsbD_and]
  cases a.toBitVec.getLsbD i <;> cases b.toBitVec.getLsbD i <;> cases c.toBitVec.getLsbD i <;> rfl
theorem or_comm32 (x y : UInt32) : x ||| y = y ||| x := by
  apply u32_ext
  intro i hi
  simp only [UInt32.toBitVec_or, BitVec.getLsbD_or]
  exact Bool.or_comm _ _
/-- A byte more at a number's end. -/
theorem shl_or (x : UInt32) (c : UInt8) : (x <<< 8) ||| c.toUInt32 = 256 * x + c.toUInt32 := by
  apply UInt32.toNat_inj.1
  have hc : c.toNat < 256 := c.toNat_lt
  rw [UInt32.toNat_or, UInt32.toNat_shiftLeft, UInt32.toNat_add, UInt32.toNat_mul]
  have e1 : c.toUInt32.toNat = c.toNat := by simp
  have e2 : x.toNat <<< ((8 : UInt32).toNat % 32) % 2 ^ 32 = (x.toNat % 2 ^ 24) <<< 8 := by
    rw [show (8 : UInt32).toNat % 32 = 8 from rfl, Nat.shiftLeft_eq, Nat.shiftLeft_eq]
    omega
  rw [e1, e2, ← Nat.shiftLeft_add_eq_or_of_lt (by omega : c.toNat < 2 ^ 8), Nat.shiftLeft_eq, show (256 : UInt32).toNat = 256 from rfl]
  omega
/-- The number of four bytes. -/
def word4 (b : List UInt8) (t : Nat) : Nat → UInt32
  | 0 => 0
  | i + 1 => 256 * word4 b t i + (b.getD (4 * t + i) 0).toUInt32
/-- The sixty-four numbers, so many of them reckoned. -/
def rws (b : List UInt8) : Nat → List UInt32
  | 0 => List.replicate 64 0
  | t + 1 => (rws b t).set t (if t < 16 then word4 b t 4 else (rws b t).getD (t - 16) 0 + (rws b t).getD (t - 7) 0 + two ((rws b t).getD (t - 15) 0) 7 18 3 + two ((rws b t).getD (t - 2) 0) 17 19 10)
theorem length_rws (b : List UInt8) (t : Nat) : (rws b t).length = 64 := by
  induction t with
  | zero => simp [rws]
  | succ t ih => rw [rws, List.length_set, ih]
theorem getD_set {l : List UInt32} {i j : Nat} {x : UInt32} (hi : i < l.length) : (l.set i x).getD j 0 = if i = j then x else l.getD j 0 := by
  by_cases h : i = j
  · subst h; simp [List.getD_eq_getElem?_getD, hi]
  · simp [List.getD_eq_getElem?_getD, h]
theorem rws_get (b : List UInt8) {t : Nat} : ∀ {n : Nat}, t < n → n ≤ 64 → (rws b n).getD t 0 = (rws b (t + 1)).getD t 0
  | 0, h, _ => by omega
  | n + 1, h, hn => by
    by_cases e : t = n
    · subst e; rfl
    · rw [rws, getD_set (by rw [length_rws]; omega), if_neg (by omega)]
      exact rws_get b (by omega) (by omega)
theorem rws_at (b : List UInt8) {t : Nat} (h : t < 64) : (rws b 64).getD t 0 = if t < 16 then word4 b t 4 else (rws b 64).getD (t - 16) 0 + (rws b 64).getD (t - 7) 0 + two ((rws b 64).getD (t - 15) 0) 7 18 3 + two ((rws b 64).getD (t - 2) 0) 17 19 10 := by
  rw [rws_get b h (Nat.le_refl _), rws, getD_set (by rw [length_rws]; omega), if_pos rfl]
  by_cases h16 : t < 16
  · rw [if_pos h16, if_pos h16]
  · rw [if_neg h16, if_neg h16]
    have e : ∀ j, 1 ≤ j → j ≤ 16 → (rws b t).getD (t - j) 0 = (rws b 64).getD (t - j) 0 := fun j h1 h2 => by
      rw [rws_get b (show t - j < t by omega) (by omega), rws_get b (show t - j < 64 by omega) (Nat.le_refl _)]
    rw [e 16 (by omega) (by omega), e 7 (by omega) (by omega), e 15 (by omega) (by omega), e 2 (by omega) (by omega)]
/-- The words of a block, by their bytes. -/
theorem words_get (b : List UInt8) : ∀ (i : Nat), i ≤ 64 → ∀ t, t < 16 → (words b i).getD t 0 = if i ≤ 4 * t then 0 else word4 b t (min (i - 4 * t) 4)
  | 0, _, t, ht => by
    rw [if_pos (by omega)]
    simp only [words]
    rw [List.getD_eq_getElem?_getD, List.getElem?_replicate, if_pos (by omega)]
    rfl
  | i + 1, hi, t, ht => by
    have ih := fun u hu => words_get b i (by omega) u hu
    rw [words, getD_set (by rw [length_words]; omega)]
    by_cases e : i / 4 = t
    · rw [if_pos e, if_neg (by omega), e, shl_or, ih t ht]
      have hmin : min (i + 1 - 4 * t) 4 = (i - 4 * t) + 1 := by omega
      rw [hmin, word4]
      have e2 : 4 * t + (i - 4 * t) = i := by omega
      rw [e2]
      by_cases h0 : i ≤ 4 * t
      · rw [if_pos h0, show i - 4 * t = 0 by omega]; rfl
      · rw [if_neg h0, show min (i - 4 * t) 4 = i - 4 * t by omega]
    · rw [if_neg e, ih t ht]
      by_cases h0 : i ≤ 4 * t
      · rw [if_pos h0, if_pos (by omega)]
      · rw [if_neg h0, if_neg (by omega), show min (i + 1 - 4 * t) 4 = min (i - 4 * t) 4 by omega]
theorem words_all (b : List UInt8) {t : Nat} (ht : t < 16) : (words b 64).getD t 0 = word4 b t 4 := by
  rw [words_get b 64 (Nat.le_refl _) t ht, if_neg (by omega), show min (64 - 4 * t) 4 = 4 by omega]
/-- One time, as it is written down. -/
def radds (k w : UInt32) (n : List UInt32) : UInt32 := n.getD 7 0 + k + w + three (n.getD 4 0) 6 11 25 + ((n.getD 4 0 &&& n.getD 5 0) ||| (~~~(n.getD 4 0) &&& n.getD 6 0))
def rmore (n : List UInt32) : UInt32 := three (n.getD 0 0) 2 13 22 + ((n.getD 0 0 &&& n.getD 1 0) ||| (n.getD 0 0 &&& n.getD 2 0) ||| (n.getD 1 0 &&& n.getD 2 0))
def rtime (k w : UInt32) (n : List UInt32) : List UInt32 := [radds k w n + rmore n, n.getD 0 0, n.getD 1 0, n.getD 2 0, n.getD 3 0 + radds k w n, n.getD 4 0, n.getD 5 0, n.getD 6 0]
def rtimes (s : List UInt32) (b : List UInt8) : Nat → List UInt32
  | 0 => s
  | t + 1 => rtime (table.getD t 0) ((rws b 64).getD t 0) (rtimes s b t)
theorem length_rtimes (s : List UInt32) (b : List UInt8) (hs : s.length = 8) (t : Nat) : (rtimes s b t).length = 8 := by
  cases t with
  | zero => exact hs
  | succ t => rfl
def rtook (s : List UInt32) (b : List UInt8) : List UInt32 := (List.range 8).map fun i => s.getD i 0 + (rtimes s b 64).getD i 0
/-- Where in the ring of sixteen a number lies. -/
def ring (t j : Nat) : Nat := if t ≤ 16 then j else t - 16 + (j + 16 - t % 16) % 16
theorem add4 (a b c d : UInt32) : c + (a + d + b) = c + d + a + b := by ac_rfl
theorem add3 (a b c : UInt32) : a + b + c = a + (b + c) := by ac_rfl
theorem ring_a (t : Nat) (h : ¬ t < 16) : ring (t + 1) (t % 16) = t := by unfold ring; split <;> omega
theorem ring_b (t : Nat) (h : ¬ t < 16) : ring t (t % 16) = t - 16 := by unfold ring; split <;> omega
theorem ring_c (t : Nat) (h : ¬ t < 16) : ring t ((t + 1) % 16) = t - 15 := by unfold ring; split <;> omega
theorem ring_d (t : Nat) (h : ¬ t < 16) : ring t ((t + 9) % 16) = t - 7 := by unfold ring; split <;> omega
theorem ring_e (t : Nat) (h : ¬ t < 16) : ring t ((t + 14) % 16) = t - 2 := by unfold ring; split <;> omega
theorem ring_f (t j : Nat) (h : ¬ t < 16) (hj : j < 16) (e : ¬ t % 16 = j) : ring t j = ring (t + 1) j := by unfold ring; split <;> split <;> omega
theorem ring_g (t : Nat) : ring (t + 1) (t % 16) = t := by unfold ring; split <;> omega
theorem ring_inv (s : List UInt32) (b : List UInt8) (hs : s.length = 8) : ∀ t, t ≤ 64 → ∀ j, j < 16 → (times s b t).2.getD j 0 = (rws b 64).getD (ring t j) 0
  | 0, _, j, hj => by
    have e0 : ring 0 j = j := if_pos (by omega)
    have e1 := rws_at b (t := j) (by omega)
    rw [if_pos hj] at e1
    simp only [times]
    rw [e0, e1, words_all b hj]
  | t + 1, ht, j, hj => by
    have ih := fun u hu => ring_inv s b hs t (by omega) u hu
    have hl := (length_times s b hs t).2
    simp only [times]
    unfold sched
    by_cases h16 : t < 16
    · rw [if_pos h16, ih j hj]
      rw [show ring t j = j from if_pos (by omega), show ring (t + 1) j = j from if_pos (by omega)]
    · rw [if_neg h16, getD_set (by rw [hl]; omega)]
      by_cases e : t % 16 = j
      · rw [if_pos e, ← e, ring_a t h16, rws_at b (by omega), if_neg h16]
        rw [ih (t % 16) (by omega), ih ((t + 1) % 16) (by omega), ih ((t + 9) % 16) (by omega), ih ((t + 14) % 16) (by omega)]
        rw [ring_b t h16, ring_c t h16, ring_d t h16, ring_e t h16]
        generalize two ((rws b 64).getD (t - 15) 0) 7 18 3 = x1
        generalize two ((rws b 64).getD (t - 2) 0) 17 19 10 = x2
        generalize (rws b 64).getD (t - 16) 0 = x3
        generalize (rws b 64).getD (t - 7) 0 = x4
        exact add4 x1 x2 x3 x4
      · rw [if_neg e, ih j hj, ring_f t j h16 hj e]
/-- What the ring holds when a time begins is that time's number. -/
theorem ring_now (s : List UInt32) (b : List UInt8) (hs : s.length = 8) (t : Nat) (ht : t < 64) : (sched t (times s b t).2).getD (t % 16) 0 = (rws b 64).getD t 0 := by
  have := ring_inv s b hs (t + 1) (by omega) (t % 16) (by omega)
  simp only [times] at this
  rw [this, ring_g]
theorem turn_inv (s : List UInt32) (b : List UInt8) (hs : s.length = 8) : ∀ t, t ≤ 64 → ∀ k, k < 8 → (times s b t).1.getD (turn8 k t) 0 = (rtimes s b t).getD k 0
  | 0, _, k, hk => by rw [show turn8 k 0 = k by unfold turn8; omega]; rfl
  | t + 1, ht, k, hk => by
    have ih := fun u hu => turn_inv s b hs t (by omega) u hu
    have hl := (length_times s b hs t).1
    have hnow := ring_now s b hs t (by omega)
    have hadds : adds t (table.getD t 0) (times s b t).1 (sched t (times s b t).2) = radds (table.getD t 0) ((rws b 64).getD t 0) (rtimes s b t) := by
      unfold adds radds
      rw [ih 7 (by omega), ih 4 (by omega), ih 5 (by omega), ih 6 (by omega), hnow, ch_eq]
    simp only [times]
    unfold time
    rw [hadds, ih 3 (by omega), ih 0 (by omega), ih 1 (by omega), ih 2 (by omega)]
    have l1 : turn8 7 t < ((times s b t).1.set (turn8 3 t) ((rtimes s b t).getD 3 0 + radds (table.getD t 0) ((rws b 64).getD t 0) (rtimes s b t))).length := by rw [List.length_set, hl]; exact turn8_lt _ _
    rw [getD_set l1, getD_set (by rw [hl]; exact turn8_lt _ _)]
    by_cases h0 : k = 0
    · subst h0
      rw [if_pos (by unfold turn8; omega)]
      show _ = radds _ _ _ + rmore _
      unfold rmore
      rw [maj_eq]
      exact add3 _ _ _
    · rw [if_neg (by unfold turn8; omega)]
      by_cases h4 : k = 4
      · subst h4
        rw [if_pos (by unfold turn8; omega)]
        rfl
      · rw [if_neg (by unfold turn8; omega), show turn8 k (t + 1) = turn8 (k - 1) t by unfold turn8; omega, ih (k - 1) (by omega)]
        match k, hk, h0, h4 with
        | 1, _, _, _ => rfl
        | 2, _, _, _ => rfl
        | 3, _, _, _ => rfl
        | 5, _, _, _ => rfl
        | 6, _, _, _ => rfl
        | 7, _, _, _ => rfl
theorem sums8_get (s v : List UInt32) : ∀ n, n ≤ s.length → ∀ i, i < s.length → (sums8 s v n).getD i 0 = if i < n then s.getD i 0 + v.getD i 0 else s.getD i 0
  | 0, _, i, _ => by rw [if_neg (by omega)]; rfl
  | n + 1, hn, i, hi => by
    have ih := fun u hu => sums8_get s v n (by omega) u hu
    rw [sums8, getD_set (by rw [length_sums8]; omega)]
    by_cases e : n = i
    · subst e; rw [if_pos rfl, if_pos (by omega), ih n hi, if_neg (by omega)]
    · rw [if_neg e, ih i hi]
      by_cases h : i < n
      · rw [if_pos h, if_pos (by omega)]
      · rw [if_neg h, if_neg (by omega)]
/-- A block, taken as it is written down. -/
theorem rtook_eq (s : List UInt32) (b : List UInt8) (hs : s.length = 8) : rtook s b = took s b := by
  apply List.ext_getElem
  · rw [length_took, hs]; simp [rtook]
  · intro i h1 h2
    have hi : i < 8 := by simpa [rtook] using h1
    have e : (took s b)[i] = (took s b).getD i 0 := by simp [List.getD_eq_getElem?_getD, h2]
    rw [e]
    unfold took
    rw [sums8_get s _ 8 (by omega) i (by omega), if_pos hi]
    have := turn_inv s b hs 64 (Nat.le_refl _) i hi
    rw [show turn8 i 64 = i by unfold turn8; omega] at this
    rw [this]
    simp [rtook]
end Alm
-- Plain: the sum of bytes as the document defines it: what stands behind the bytes, block by block. No program in sight.
namespace Alm
/-- What stands behind so many bytes. -/
def rend (n : Nat) : List UInt8 := 128 :: (List.replicate ((120 - (n + 1) % 64) % 64) 0 ++ be8 (n * 8))
def rfull (l : List UInt8) : List UInt8 := l ++ rend l.length
theorem length_be8 (m : Nat) : (be8 m).length = 8 := by simp [be8]
theorem length_rend (n : Nat) : (rend n).length = (120 - (n + 1) % 64) % 64 + 9 := by simp [rend, length_be8]
theorem length_rfull (l : List UInt8) : (rfull l).length % 64 = 0 := by
  rw [rfull, List.length_append, length_rend]; omega
/-- So many blocks of bytes, taken. -/
def rblocks (s : List UInt32) (all : List UInt8) : Nat → List UInt32
  | 0 => s
  | k + 1 => rtook (rblocks s all k) ((all.drop (64 * k)).take 64)
theorem length_rblocks (s : List UInt32) (all : List UInt8) (hs : s.length = 8) (k : Nat) : (rblocks s all k).length = 8 := by
  cases k with
  | zero => exact hs
  | succ k => simp [rblocks, rtook]
theorem splice_whole {α : Type} (L c : List α) (h : L.length = c.length) : splice L 0 c = c := by
  simp [splice, ← h]
theorem run_blocks (all : List UInt8) : ∀ k, 64 * k ≤ all.length → (putAll run0 (all.take (64 * k))).s = rblocks begin8 all k ∧ (putAll run0 (all.take (64 * k))).many = 64 * k
  | 0, _ => by simp [putAll, run0, rblocks]
  | k + 1, h => by
    obtain ⟨ih1, ih2⟩ := run_blocks all k (by omega)
    have hok := putAll_ok (all.take (64 * k)) run0_ok
    have hc : ((all.drop (64 * k)).take 64).length = 64 := by rw [List.length_take, List.length_drop]; omega
    rw [show 64 * (k + 1) = 64 * k + 64 by omega, List.take_add, putAll_append]
    generalize putAll run0 (all.take (64 * k)) = r at *
    rw [putAll_chunk _ r hok (by intro h0; rw [h0] at hc; cases hc) (by rw [ih2, hc]; omega), if_pos (by rw [ih2, hc]; omega)]
    refine ⟨?_, by rw [ih2, hc]⟩
    show Alm.took r.s _ = rtook _ _
    rw [ih2, show 64 * k % 64 = 0 by omega, splice_whole _ _ (by rw [hok.2, hc]), ih1, rtook_eq _ _ (by rw [← ih1]; exact hok.1)]
/-- The sum of bytes, block by block. -/
theorem sha_blocks (l : List UInt8) (k : Nat) (hk : (rfull l).length = 64 * k) : sha l = sumBytes (told32 (rblocks begin8 (rfull l) k) 32) (length_told32 _ _) := by
  have h1 : (finish (putAll run0 l)).s = rblocks begin8 (rfull l) k := by
    have hm : (putAll run0 l).many = l.length := by rw [putAll_many]; exact Nat.zero_add _
    have e : finish (putAll run0 l) = putAll run0 (rfull l) := by
      unfold finish
      rw [hm, ← putAll_append, ← putAll_append, ← putAll_append]
      congr 1
      try simp [rfull, rend]
    rw [e, ← (run_blocks (rfull l) k (by omega)).1, ← hk, List.take_length]
  unfold sha sumOf
  simp only [h1]
end Alm
-- Plain: sums of bytes reckoned on numbers, so that the kernel reckons one in no time. No program in sight.
namespace Alm
namespace Fast
def s1 (E : Nat) : Nat := Nat.mod (Nat.xor (Nat.xor (Nat.shiftRight E 6) (Nat.shiftRight E 11)) (Nat.shiftRight E 25)) 4294967296
def s0 (E : Nat) : Nat := Nat.mod (Nat.xor (Nat.xor (Nat.shiftRight E 2) (Nat.shiftRight E 13)) (Nat.shiftRight E 22)) 4294967296
def g0 (x E : Nat) : Nat := Nat.mod (Nat.xor (Nat.xor (Nat.shiftRight E 7) (Nat.shiftRight E 18)) (Nat.shiftRight x 3)) 4294967296
def g1 (x E : Nat) : Nat := Nat.mod (Nat.xor (Nat.xor (Nat.shiftRight E 17) (Nat.shiftRight E 19)) (Nat.shiftRight x 10)) 4294967296
def ch (e f g : Nat) : Nat := Nat.xor (Nat.land e (Nat.xor f g)) g
def mj (a b c : Nat) : Nat := Nat.lor (Nat.land a (Nat.lor b c)) (Nat.land b c)
def t1 (k w e f g h : Nat) : Nat := Nat.add (Nat.add (Nat.add (Nat.add h k) w) (s1 (Nat.mul e 4294967297))) (ch e f g)
def t2 (a b c : Nat) : Nat := Nat.add (s0 (Nat.mul a 4294967297)) (mj a b c)
def nw (w0 w1 w9 w14 : Nat) : Nat := Nat.mod (Nat.add (Nat.add (Nat.add w0 w9) (g0 w1 (Nat.mul w1 4294967297))) (g1 w14 (Nat.mul w14 4294967297))) 4294967296
abbrev F : Type := Nat → Nat → Nat → Nat → Nat → Nat → Nat → Nat → Nat → Nat → Nat → Nat → Nat → Nat → Nat → Nat → Nat → Nat → Nat → Nat → Nat → Nat → Nat → Nat → Nat
def pack (a b c d e f g h : Nat) : Nat := Nat.add h (Nat.mul 4294967296 (Nat.add g (Nat.mul 4294967296 (Nat.add f (Nat.mul 4294967296 (Nat.add e (Nat.mul 4294967296 (Nat.add d (Nat.mul 4294967296 (Nat.add c (Nat.mul 4294967296 (Nat.add b (Nat.mul 4294967296 a)))))))))))))
def step (k : Nat) (ih : F) : F := fun a b c d e f g h w0 w1 w2 w3 w4 w5 w6 w7 w8 w9 w10 w11 w12 w13 w14 w15 => ih (Nat.mod (Nat.add (t1 k w0 e f g h) (t2 a b c)) 4294967296) a b c (Nat.mod (Nat.add d (t1 k w0 e f g h)) 4294967296) e f g w1 w2 w3 w4 w5 w6 w7 w8 w9 w10 w11 w12 w13 w14 w15 (nw w0 w1 w9 w14)
noncomputable def run (ks : List Nat) : F := @List.rec Nat (fun _ => F) (fun a b c d e f g h _ _ _ _ _ _ _ _ _ _ _ _ _ _ _ _ => pack a b c d e f g h) (fun k _ ih => step k ih) ks
def tbl : List Nat := [1116352408, 1899447441, 3049323471, 3921009573, 961987163, 1508970993, 2453635748, 2870763221, 3624381080, 310598401, 607225278, 1426881987, 1925078388, 2162078206, 2614888103, 3248222580, 3835390401, 4022224774, 264347078, 604807628, 770255983, 1249150122, 1555081692, 1996064986, 2554220882, 2821834349, 2952996808, 3210313671, 3336571891, 3584528711, 113926993, 338241895, 666307205, 773529912, 1294757372, 1396182291, 1695183700, 1986661051, 2177026350, 2456956037, 2730485921, 2820302411, 3259730800, 3345764771, 3516065817, 3600352804, 4094571909, 275423344, 430227734, 506948616, 659060556, 883997877, 958139571, 1322822218, 1537002063, 1747873779, 1955562222, 2024104815, 2227730452, 2361852424, 2428436474, 2756734187, 3204031479, 3329325298]
def pk2 (s r : Nat) : Nat := pack (Nat.mod (Nat.add (Nat.shiftRight s 224) (Nat.shiftRight r 224)) 4294967296) (Nat.mod (Nat.add (Nat.shiftRight s 192) (Nat.shiftRight r 192)) 4294967296) (Nat.mod (Nat.add (Nat.shiftRight s 160) (Nat.shiftRight r 160)) 4294967296) (Nat.mod (Nat.add (Nat.shiftRight s 128) (Nat.shiftRight r 128)) 4294967296) (Nat.mod (Nat.add (Nat.shiftRight s 96) (Nat.shiftRight r 96)) 4294967296) (Nat.mod (Nat.add (Nat.shiftRight s 64) (Nat.shiftRight r 64)) 4294967296) (Nat.mod (Nat.add (Nat.shiftRight s 32) (Nat.shiftRight r 32)) 4294967296) (Nat.mod (Nat.add (Nat.shiftRight s 0) (Nat.shiftRight r 0)) 4294967296)
noncomputable def block (s b : Nat) : Nat := pk2 s (run tbl (Nat.mod (Nat.shiftRight s 224) 4294967296) (Nat.mod (Nat.shiftRight s 192) 4294967296) (Nat.mod (Nat.shiftRight s 160) 4294967296) (Nat.mod (Nat.shiftRight s 128) 4294967296) (Nat.mod (Nat.shiftRight s 96) 4294967296) (Nat.mod (Nat.shiftRight s 64) 4294967296) (Nat.mod (Nat.shiftRight s 32) 4294967296) (Nat.mod (Nat.shiftRight s 0) 4294967296) (Nat.mod (Nat.shiftRight b 480) 4294967296) (Nat.mod (Nat.shiftRight b 448) 4294967296) (Nat.mod (Nat.shiftRight b 416) 4294967296) (Nat.mod (Nat.shiftRight b 384) 4294967296) (Nat.mod (Nat.shiftRight b 352) 4294967296) (Nat.mod (Nat.shiftRight b 320) 4294967296) (Nat.mod (Nat.shiftRight b 288) 4294967296) (Nat.mod (Nat.shiftRight b 256) 4294967296) (Nat.mod (Nat.shiftRight b 224) 4294967296) (Nat.mod (Nat.shiftRight b 192) 4294967296) (Nat.mod (Nat.shiftRight b 160) 4294967296) (Nat.mod (Nat.shiftRight b 128) 4294967296) (Nat.mod (Nat.shiftRight b 96) 4294967296) (Nat.mod (Nat.shiftRight b 64) 4294967296) (Nat.mod (Nat.shiftRight b 32) 4294967296) (Nat.mod (Nat.shiftRight b 0) 4294967296))
def iv : Nat := 47962653771679561900652889051773562940742041696833059450490514104358170316057

/-! ### numbers of 32 bits -/
/-! ### bytes as a number -/
def bnum (l : List UInt8) : Nat := l.foldl (fun n b => n * 256 + b.toNat) 0
theorem foldl_bnum : ∀ (l : List UInt8) (n : Nat), l.foldl (fun n b => n * 256 + b.toNat) n = n * 256 ^ l.length + bnum l
  | [], n => by simp [bnum]
  | c :: l, n => by
    unfold bnum
    rw [List.foldl_cons, List.foldl_cons, foldl_bnum l, foldl_bnum l, List.length_cons, Nat.pow_succ, Nat.zero_mul, Nat.zero_add, Nat.add_mul, Nat.mul_assoc, Nat.mul_comm 256]
    omega
theorem bnum_append (x y : List UInt8) : bnum (x ++ y) = bnum x * 256 ^ y.length + bnum y := by
  unfold bnum; rw [List.foldl_append, foldl_bnum]; rfl
theorem bnum_lt : ∀ (l : List UInt8), bnum l < 256 ^ l.length
  | [] => by simp [bnum]
  | c :: l => by
    have h := bnum_append [c] l
    rw [List.singleton_append] at h
    rw [h, List.length_cons, Nat.pow_succ]
    have := bnum_lt l
    have hc : c.toNat < 256 := c.toNat_lt
    have e : bnum [c] = c.toNat := by simp [bnum]
    rw [e]
    calc c.toNat * 256 ^ l.length + bnum l < c.toNat * 256 ^ l.length + 256 ^ l.length := by omega
      _ = (c.toNat + 1) * 256 ^ l.length := by rw [Nat.add_mul, Nat.one_mul]
      _ ≤ 256 * 256 ^ l.length := Nat.mul_le_mul_right _ (by omega)
      _ = 256 ^ l.length * 256 := Nat.mul_comm _ _
theorem bnum_inj : ∀ (x y : List UInt8), x.length = y.length → bnum x = bnum y → x = y
  | [], [], _, _ => rfl
  | [], _ :: _, h, _ => by cases h
  | _ :: _, [], h, _ => by cases h
  | a :: x, b :: y, h, e => by
    have hl : x.length = y.length := by simpa using h
    have ha := bnum_append [a] x
    have hb := bnum_append [b] y
    rw [List.singleton_append] at ha hb
    rw [ha, hb, hl] at e
    have h1 := bnum_lt x
    have h2 := bnum_lt y
    rw [hl] at h1
    have e1 : bnum [a] = a.toNat := by simp [bnum]
    have e2 : bnum [b] = b.toNat := by simp [bnum]
    rw [e1, e2] at e
    have hpos : 0 < 256 ^ y.length := Nat.lt_of_le_of_lt (Nat.zero_le _) h2
    have q1 : (a.toNat * 256 ^ y.length + bnum x) / 256 ^ y.length = a.toNat := by
      rw [Nat.mul_comm, Nat.mul_add_div hpos, Nat.div_eq_of_lt h1, Nat.add_zero]
    have q2 : (b.toNat * 256 ^ y.length + bnum y) / 256 ^ y.length = b.toNat := by
      rw [Nat.mul_comm, Nat.mul_add_div hpos, Nat.div_eq_of_lt h2, Nat.add_zero]
    have hab : a.toNat = b.toNat := by rw [← q1, ← q2, e]
    have hxy : bnum x = bnum y := by rw [hab] at e; omega
    rw [UInt8.toNat_inj.1 hab, bnum_inj x y hl hxy]
/-! ### a block -/
/-! ### a sum's number -/
def snum (s : Sum) : Nat := bnum s.toList
theorem snum_inj {a b : Sum} (h : snum a = snum b) : a = b := Vector.toList_inj.1 (bnum_inj _ _ (by simp) h)
theorem snum_lt (a : Sum) : snum a < 2 ^ 256 := by
  have h := bnum_lt a.toList
  have e : a.toList.length = 32 := by simp
  rw [e] at h
  exact h
/-! ### sums of one block, of two -/
end Fast
end Alm
