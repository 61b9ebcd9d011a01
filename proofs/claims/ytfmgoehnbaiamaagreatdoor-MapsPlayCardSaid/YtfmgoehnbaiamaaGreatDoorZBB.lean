/-
  Joined: BL2, BL3, BL4.
-/
import Derived.Test.YtfmgoehnbaiamaaGreatDoorBL1
import Derived.Test.YtfmgoehnbaiamaaGreatDoorZAZ
import Derived.Test.YtfmgoehnbaiamaaGreatDoorZAL
import Derived.Deep.AppendLies
import Derived.WalkMore
import Derived.Great.BuildSlice
-- Plain: what a Book holds: lists of one kind, written over, then grown.
open Go Go.RowKit
namespace Alm
/-- What is held: the list, the longer one, its number. -/
abbrev Held := Value × Value × Nat
def cellsH (h : Held) : List Value := [h.1, h.2.1, .int .i64 ((h.2.2 : Nat) : Int)]
def cellsHs (l : List Held) : List Value := l.flatMap cellsH
theorem length_cellsH (h : Held) : (cellsH h).length = 3 := rfl
theorem length_cellsHs (l : List Held) : (cellsHs l).length = 3 * l.length := by
  induction l with
  | nil => rfl
  | cons x l ih => rw [cellsHs, List.flatMap_cons, List.length_append, length_cellsH]; rw [cellsHs] at ih; rw [ih, List.length_cons]; omega
theorem cellsHs_append (a b : List Held) : cellsHs (a ++ b) = cellsHs a ++ cellsHs b := by simp [cellsHs]
theorem cellsHs_one (h : Held) : cellsHs [h] = cellsH h := by simp [cellsHs]
theorem keepsC (b : Nat) : ∀ (vs : List Value) (o : Nat) (w : World), Keeps (· = b) w (w.setCells b o vs)
  | [], _, _ => Keeps.refl _ _
  | v :: r, o, w => by
    rw [World.setCells]
    exact ((Keeps.refl (· = b) w).setCell (p := ⟨b, o, none⟩) (.inl rfl) v).trans (keepsC b r (o + 1) _)
theorem cell_range {W : World} {b o : Nat} {v : Value} (h : W.cell? ⟨b, o, none⟩ = some v) : W.rangeAt b o [v] := fun j u hj => by
  cases j with
  | zero =>
    simp only [List.getElem?_cons_zero, Option.some.injEq] at hj
    rw [← hj]; exact h
  | succ j => simp at hj
/-- A Book at q: how many it has numbered, and its nine lists. -/
structure Book (W : World) (q n : Nat) (F : Nat → Value) : Prop where
  th : W.there q 0 10
  cn : W.cell? ⟨q, 0, none⟩ = some (.int .i64 ((n : Nat) : Int))
  cs : ∀ j, 1 ≤ j → j < 10 → W.cell? ⟨q, j, none⟩ = some (F j)
theorem Book.lt {W : World} {q n : Nat} {F : Nat → Value} (h : Book W q n F) : q < W.heap.size := there_lt h.th (by omega)
theorem Book.keep {X : Nat → Prop} {W W' : World} {q n : Nat} {F : Nat → Value} (h : Book W q n F) (hk : Keeps X W W') (hq : ¬ X q) : Book W' q n F :=
  ⟨hk.there h.th (by decide) hq, hk.cell h.cn hq, fun j h1 h2 => hk.cell (h.cs j h1 h2) hq⟩
theorem Book.below {W W' : World} {q n : Nat} {F : Nat → Value} (h : Book W q n F) (hb : Below W.heap.size W W') : Book W' q n F := h.keep (Keeps.of_below (X := fun _ => False) hb) (fun h => h)
theorem Book.count {W : World} {q n : Nat} {F : Nat → Value} (h : Book W q n F) (m : Nat) : Book (W.setCell ⟨q, 0, none⟩ (.int .i64 ((m : Nat) : Int))) q m F := by
  have ht := World.there_setCells h.th q 0 [.int .i64 ((m : Nat) : Int)]
  refine ⟨ht, ?_, fun j h1 h2 => ?_⟩
  · exact range_stored q [.int .i64 ((m : Nat) : Int)] 0 W (fun j hj => by have := ht j (by simp at hj; omega); exact this) 0 _ rfl
  · exact World.rangeAt_setCells_apart (cell_range (h.cs j h1 h2)) q 0 [.int .i64 ((m : Nat) : Int)] (by right; right; simpa using h1) 0 _ rfl
/-- One of its lists is another one. -/
def put (F : Nat → Value) (k : Nat) (v : Value) : Nat → Value := fun j => if j = k then v else F j
theorem put_self (F : Nat → Value) (k : Nat) (v : Value) : put F k v k = v := if_pos rfl
theorem put_other (F : Nat → Value) {j k : Nat} (v : Value) (h : j ≠ k) : put F k v j = F j := if_neg h
theorem Book.list {W : World} {q n : Nat} {F : Nat → Value} (h : Book W q n F) {k : Nat} (h1 : 1 ≤ k) (h2 : k < 10) (v : Value) : Book (W.setCell ⟨q, k, none⟩ v) q n (put F k v) := by
  have ht := World.there_setCells h.th q k [v]
  refine ⟨ht, ?_, fun j h3 h4 => ?_⟩
  · exact World.rangeAt_setCells_apart (cell_range h.cn) q k [v] (by right; left; simpa using h1) 0 _ rfl
  · by_cases e : j = k
    · subst e
      rw [put_self]
      exact range_stored q [v] j W (fun i hi => by have := ht (j + i) (by simp at hi; omega); rwa [Nat.zero_add] at this) 0 _ rfl
    · rw [put_other F v e]
      exact World.rangeAt_setCells_apart (cell_range (h.cs j h3 h4)) q k [v] (by right; simp; omega) 0 _ rfl
/-- The list that is held at a place; the longer one; its number; the block of each. -/
def hd (H : List Held) (i : Nat) : Held := H.getD i (.slice none 0 0, .slice none 0 0, 0)
def lst (H : List Held) (i : Nat) : Value := (hd H i).1
def lng (H : List Held) (i : Nat) : Value := (hd H i).2.1
def num (H : List Held) (i : Nat) : Nat := (hd H i).2.2
/-- A row of what is held, in a block of its own. -/
def Row3 (W : World) (t : TypeId) (base q : Nat) (hv : Value) (H : List Held) : Prop := W.ownsRow base t 3 hv H.length (cellsHs H) ∧ hv.ownBlock ≠ some q
theorem Row3.keep {X : Nat → Prop} {W W' : World} {t : TypeId} {base q : Nat} {hv : Value} {H : List Held} (h : Row3 W t base q hv H) (hk : Keeps X W W') (hx : ∀ k, hv.ownBlock = some k → ¬ X k) : Row3 W' t base q hv H := ⟨hk.owns h.1 hx, h.2⟩
theorem Row3.below {W W' : World} {t : TypeId} {base q : Nat} {hv : Value} {H : List Held} (h : Row3 W t base q hv H) (hb : Below W.heap.size W W') : Row3 W' t base q hv H := h.keep (Keeps.of_below (X := fun _ => False) hb) (fun _ _ h => h)
theorem Row3.form {W : World} {t : TypeId} {base q : Nat} {hv : Value} {H : List Held} (h : Row3 W t base q hv H) : ∃ a c, hv = .slice a H.length c := by
  rcases h.1.2 with ⟨h1, h2⟩ | ⟨g, cap, cur, h1, _⟩
  · exact ⟨none, 0, by rw [h2]; exact h1⟩
  · exact ⟨_, _, h1⟩
theorem own_lies {w : World} {base : Nat} {e : TypeId} {size : Nat} {v : Value} {n : Nat} {xs : List Value} (h : w.ownsRow base e size v n xs) (hn : 1 ≤ n) : ∃ g cap, v = .slice (some ⟨g, 0, none⟩) n cap ∧ n ≤ cap ∧ cap ≤ maxLen ∧ base ≤ g ∧ g < w.heap.size ∧ w.rangeAt g 0 xs := by
  rcases h.2 with ⟨rfl, h0⟩ | ⟨g, cap, cur, rfl, h4, hg, hnc, hcm, hsz, htk⟩
  · omega
  · refine ⟨g, cap, rfl, hnc, hcm, h4, (Array.getElem?_eq_some_iff.1 hg).1, fun j v hj => ?_⟩
    rw [cell_of_row w g _ cur e (0, 0) hg, Nat.zero_add]
    rw [← htk, List.getElem?_take] at hj
    split at hj
    · simpa using hj
    · cases hj
theorem held_at {W : World} {g o : Nat} : ∀ {H : List Held} {i : Nat}, W.rangeAt g o (cellsHs H) → i < H.length → W.rangeAt g (o + i * 3) (cellsH (hd H i))
  | [], i, _, hi => by simp at hi
  | h :: H, 0, hr, _ => (range_append.1 (show W.rangeAt g o (cellsH h ++ cellsHs H) from hr)).1
  | h :: H, i + 1, hr, hi => by
    have h1 := (range_append.1 (show W.rangeAt g o (cellsH h ++ cellsHs H) from hr)).2
    rw [length_cellsH] at h1
    have h2 := held_at (i := i) h1 (by simpa using hi)
    rw [show o + (i + 1) * 3 = o + 3 + i * 3 by omega]
    exact h2
/-- Where the i-th of what is held stands. -/
theorem Row3.at {W : World} {t : TypeId} {base q : Nat} {hv : Value} {H : List Held} (h : Row3 W t base q hv H) {i : Nat} (hi : i < H.length) : ∃ g c, hv = .slice (some ⟨g, 0, none⟩) H.length c ∧ base ≤ g ∧ g < W.heap.size ∧ g ≠ q ∧ W.rangeAt g (i * 3) (cellsH (hd H i)) := by
  obtain ⟨g, c, hv', _, _, hb, hg, hr⟩ := own_lies h.1 (by omega)
  refine ⟨g, c, hv', hb, hg, fun e => h.2 (by rw [hv', e]; rfl), ?_⟩
  have := held_at hr hi
  rwa [Nat.zero_add] at this
/-- The lists that are held lie in memory. -/
def Lies (W : World) (base size : Nat) (H : List Held) (S : Nat → List (List Value)) : Prop := ∀ i, i < H.length → Lie W base size (lst H i) (S i)
/-- They lie apart: of one another, of the Book, of its row. -/
def ApartH (H : List Held) (q : Nat) (hv : Value) : Prop := ∀ i, i < H.length → ∀ g, (lst H i).ownBlock = some g → g ≠ q ∧ hv.ownBlock ≠ some g ∧ ∀ j, j < H.length → j ≠ i → (lst H j).ownBlock ≠ some g
/-- The blocks of what is held. -/
def InH (H : List Held) (k : Nat) : Prop := ∃ i, i < H.length ∧ (lst H i).ownBlock = some k
/-- What stands in the lists when those ahead of a place, and so many of its own, are written over. -/
def fillTo (mk : Nat → List Value) (H : List Held) (S : Nat → List (List Value)) (i k : Nat) : Nat → List (List Value) := fun j => if j < i then List.replicate (S j).length (mk (num H j)) else if j = i then List.replicate k (mk (num H i)) ++ (S i).drop k else S j
theorem fillTo_zero (mk : Nat → List Value) (H : List Held) (S : Nat → List (List Value)) : fillTo mk H S 0 0 = S := by
  funext j
  unfold fillTo
  rw [if_neg (by omega)]
  by_cases h : j = 0
  · rw [if_pos h, h]; rfl
  · rw [if_neg h]
theorem fillTo_next (mk : Nat → List Value) (H : List Held) (S : Nat → List (List Value)) (i : Nat) : fillTo mk H S i (S i).length = fillTo mk H S (i + 1) 0 := by
  funext j
  unfold fillTo
  by_cases h : j < i
  · rw [if_pos h, if_pos (by omega)]
  · by_cases e : j = i
    · rw [if_neg h, if_pos e, if_pos (by omega), e, List.drop_length, List.append_nil]
    · rw [if_neg h, if_neg e, if_neg (by omega)]
      by_cases e2 : j = i + 1
      · rw [if_pos e2, e2]; rfl
      · rw [if_neg e2]
theorem length_fillTo (mk : Nat → List Value) (H : List Held) (S : Nat → List (List Value)) (i k j : Nat) (hk : k ≤ (S i).length) : (fillTo mk H S i k j).length = (S j).length := by
  unfold fillTo
  by_cases h : j < i
  · rw [if_pos h, List.length_replicate]
  · by_cases e : j = i
    · rw [if_neg h, if_pos e, List.length_append, List.length_replicate, List.length_drop, e]; omega
    · rw [if_neg h, if_neg e]
theorem fillTo_set (mk : Nat → List Value) (H : List Held) (S : Nat → List (List Value)) (i k : Nat) (hk : k < (S i).length) : (fillTo mk H S i k i).set k (mk (num H i)) = fillTo mk H S i (k + 1) i := by
  unfold fillTo
  rw [if_neg (Nat.lt_irrefl i), if_pos rfl, if_neg (Nat.lt_irrefl i), if_pos rfl]
  rw [List.set_append_right _ _ (by simp), List.length_replicate, Nat.sub_self, List.drop_eq_getElem_cons hk, List.set_cons_zero, List.replicate_succ', List.append_assoc]
  rfl
theorem fillTo_other (mk : Nat → List Value) (H : List Held) (S : Nat → List (List Value)) (i k j : Nat) (hj : j ≠ i) : fillTo mk H S i k j = fillTo mk H S i (k + 1) j := by
  unfold fillTo
  by_cases h : j < i
  · rw [if_pos h, if_pos h]
  · rw [if_neg h, if_neg h, if_neg hj, if_neg hj]
/-- What stands in them when all are written over. -/
def filled (mk : Nat → List Value) (H : List Held) (S : Nat → List (List Value)) : Nat → List (List Value) := fun j => List.replicate (S j).length (mk (num H j))
theorem lies_filled {W : World} {base size : Nat} {mk : Nat → List Value} {H : List Held} {S : Nat → List (List Value)} (h : Lies W base size H (fillTo mk H S H.length 0)) : Lies W base size H (filled mk H S) := fun i hi => by
  have := h i hi
  rwa [fillTo, if_pos hi] at this
theorem Lies.keep {X : Nat → Prop} {W W' : World} {base size : Nat} {H : List Held} {S : Nat → List (List Value)} (h : Lies W base size H S) (hk : Keeps X W W') (hx : ∀ k, InH H k → ¬ X k) : Lies W' base size H S := fun i hi => (h i hi).keep hk fun k hk2 => hx k ⟨i, hi, hk2⟩
theorem Lies.below {W W' : World} {base size : Nat} {H : List Held} {S : Nat → List (List Value)} (h : Lies W base size H S) (hb : Below W.heap.size W W') : Lies W' base size H S := h.keep (Keeps.of_below (X := fun _ => False) hb) (fun _ _ h => h)
/-- One element more is written over. -/
theorem lies_set {W : World} {base size : Nat} {mk : Nat → List Value} {H : List Held} {S : Nat → List (List Value)} {i k q : Nat} {hv : Value} (h : Lies W base size H (fillTo mk H S i k)) (ha : ApartH H q hv) (hi : i < H.length) (hk : k < (S i).length) (hm : (mk (num H i)).length = size) {g n cap : Nat} (hl : lst H i = .slice (some ⟨g, 0, none⟩) n cap) : Lies (W.setCells g (k * size) (mk (num H i))) base size H (fillTo mk H S i (k + 1)) := fun j hj => by
  have hb : (lst H i).ownBlock = some g := by rw [hl]; rfl
  by_cases e : j = i
  · subst e
    have h1 := h j hj
    rw [hl] at h1 ⊢
    have h2 := Lie.set h1 (k := k) (by rw [length_fillTo mk H S j k j (by omega)]; exact hk) hm
    rwa [fillTo_set mk H S j k hk] at h2
  · have h1 := (h j hj).keep (keepsC g (mk (num H i)) (k * size) W) (fun b hb2 e2 => (ha i hi g hb).2.2 j hj e (by rw [hb2, e2]))
    rwa [fillTo_other mk H S i k j e] at h1
/-- What is held when the longer ones of those ahead of a place are told. -/
def longTo (H : List Held) (L : Nat → Value) (i : Nat) : List Held := H.mapIdx fun j h => if j < i then (h.1, L j, h.2.2) else h
theorem length_longTo (H : List Held) (L : Nat → Value) (i : Nat) : (longTo H L i).length = H.length := List.length_mapIdx
theorem hd_longTo (H : List Held) (L : Nat → Value) (i j : Nat) (hj : j < H.length) : hd (longTo H L i) j = if j < i then (lst H j, L j, num H j) else hd H j := by
  unfold hd lst num hd longTo
  simp only [List.getD_eq_getElem?_getD, List.getElem?_mapIdx, List.getElem?_eq_getElem hj, Option.map_some, Option.getD_some]
theorem longTo_zero (H : List Held) (L : Nat → Value) : longTo H L 0 = H := by
  apply List.ext_getElem
  · exact length_longTo H L 0
  · intro j h1 h2; simp [longTo]
theorem longTo_set (H : List Held) (L : Nat → Value) (i : Nat) (v : Value) (hi : i < H.length) : longTo H (fun j => if j = i then v else L j) (i + 1) = (longTo H L i).set i (lst H i, v, num H i) := by
  apply List.ext_getElem
  · rw [List.length_set, length_longTo, length_longTo]
  · intro j h1 h2
    rw [length_longTo] at h1
    rw [List.getElem_set]
    unfold longTo
    simp only [List.getElem_mapIdx]
    by_cases e : i = j
    · subst e
      rw [if_pos (by omega), if_pos rfl, if_pos rfl]
      simp [lst, num, hd, List.getD_eq_getElem?_getD, List.getElem?_eq_getElem hi]
    · rw [if_neg e]
      by_cases h : j < i
      · rw [if_pos (by omega), if_pos h, if_neg (by omega)]
      · rw [if_neg (by omega), if_neg h]
theorem cellsHs_set {H : List Held} {i : Nat} (hi : i < H.length) (h : Held) : cellsHs (H.set i h) = (cellsHs H).take (i * 3) ++ (cellsH h ++ (cellsHs H).drop (i * 3 + 3)) := by
  have hl : ∀ x ∈ H.map cellsH, x.length = 3 := fun x hx => by
    obtain ⟨y, _, rfl⟩ := List.mem_map.1 hx
    rfl
  have e : ∀ l : List Held, cellsHs l = (l.map cellsH).flatten := fun l => List.flatMap_def
  rw [e, e, List.map_set]
  obtain ⟨f1, f2⟩ := flat_split (xs := (H.map cellsH).set i (cellsH h)) (size := 3) (fun x hx => by
    rcases List.mem_or_eq_of_mem_set hx with h1 | h1
    · exact hl x h1
    · rw [h1]; rfl) (k := i) (by simpa using hi)
  obtain ⟨g1, g2⟩ := flat_split hl (k := i) (by simpa using hi)
  rw [f1, List.take_set_of_le (Nat.le_refl i), List.getElem_set_self, List.drop_set_of_lt (by omega)]
  congr 1
  · rw [g1, ← g2, List.take_left]
  · congr 1
    have g3 : i * 3 + 3 = ((List.take i (List.map cellsH H)).flatten ++ (List.map cellsH H)[i]'(by simpa using hi)).length := by rw [List.length_append, g2, hl _ (List.getElem_mem _)]
    conv => rhs; rw [g1, ← List.append_assoc, g3, List.drop_left]
theorem own_setCell {w : World} {base : Nat} {e : TypeId} {size g n cap : Nat} {xs : List Value} (h : w.ownsRow base e size (.slice (some ⟨g, 0, none⟩) n cap) n xs) (k : Nat) (u : Value) : (w.setCell ⟨g, k, none⟩ u).ownsRow base e size (.slice (some ⟨g, 0, none⟩) n cap) n (xs.set k u) := by
  refine ⟨by rw [List.length_set]; exact h.1, ?_⟩
  rcases h.2 with ⟨h0, _⟩ | ⟨g', cap', cur, he, hb, hg, hnc, hcm, hsz, htk⟩
  · cases h0
  · simp only [Value.slice.injEq, Option.some.injEq, Addr.mk.injEq, and_true, true_and] at he
    obtain ⟨rfl, rfl⟩ := he
    exact .inr ⟨g, cap, cur.setIfInBounds k u, rfl, hb, heap_setCell_same w g k _ _ u hg, hnc, hcm, by simpa using hsz, by rw [← htk, Array.toList_setIfInBounds, List.take_set]⟩
/-- The longer one of what is held at a place is told. -/
theorem Row3.long {W : World} {t : TypeId} {base q : Nat} {hv : Value} {H : List Held} (h : Row3 W t base q hv H) {i : Nat} (hi : i < H.length) {g n c : Nat} (hg : hv = .slice (some ⟨g, 0, none⟩) n c) (v : Value) : Row3 (W.setCell ⟨g, i * 3 + 1, none⟩ v) t base q hv (H.set i (lst H i, v, num H i)) := by
  refine ⟨?_, h.2⟩
  subst hg
  have hn : n = H.length := by
    obtain ⟨a, c', e⟩ := h.form
    simp only [Value.slice.injEq] at e
    exact e.2.1
  subst hn
  rw [List.length_set]
  have h1 := own_setCell h.1 (i * 3 + 1) v
  have e : (cellsHs H).set (i * 3 + 1) v = cellsHs (H.set i (lst H i, v, num H i)) := by
    have hl := length_cellsHs H
    rw [cellsHs_set hi]
    have e2 : H = H.set i (hd H i) := by
      unfold hd
      rw [List.getD_eq_getElem?_getD, List.getElem?_eq_getElem hi, Option.getD_some, List.set_getElem_self]
    conv => lhs; rw [e2, cellsHs_set hi]
    have h3 : ((cellsHs H).take (i * 3)).length = i * 3 := by rw [List.length_take, hl]; omega
    rw [List.set_append_right _ _ (by omega), h3, show i * 3 + 1 - i * 3 = 1 by omega]
    rfl
  rwa [e] at h1
end Alm
-- Walk: a Book keeps a list of sums (keepSum).
open Go Go.RowKit Alm
namespace Go.Proofs.YtfmgoehnbaiamaaGreatDoor
end Go.Proofs.YtfmgoehnbaiamaaGreatDoor
-- Walk: a Book writes over the sums that it holds (fillSum).
namespace Go.Proofs.YtfmgoehnbaiamaaGreatDoor
theorem infoHeld : (Tryz.prog.info? 155).map (·.size) = some 3 := by kernel_rfl
theorem wpList_load_held {ops : Array Oper} {rest : List Oper} {op : Oper} {a : Act} {w : World} {Q : Exit → Act → World → Prop} (hgd : op.guard = none) (x : Operand) (ho : op.op = .load 155 x)
    (b o : Nat) (hx : a.eval x = .pointer (some ⟨b, o, none⟩)) (h : Held) (hc : w.rangeAt b o (cellsH h))
    (hk : wpList Tryz.prog ops Q rest (a.put op.dst (.agg (cellsH h).toArray)) w) : wpList Tryz.prog ops Q (op :: rest) a w :=
  wpList_load_mid hgd _ x ho b o hx (cellsH h) _ hc Tryz.underlying155 rfl infoHeld hk
theorem wpList_var_held {ops : Array Oper} {rest : List Oper} {op : Oper} {a : Act} {w : World} {C : Array Value} {t : TypeId} {Q : Exit → Act → World → Prop} (hC : C.size = 3) (hgd : op.guard = none) (x y : Operand) (ho : op.op = .store 155 x y) (h : Held) (h1 : h.1.oneCell' = true) (h2 : h.2.1.oneCell' = true)
    (hx : a.eval x = .pointer (some ⟨w.heap.size, 0, none⟩)) (hy : a.eval y = .agg (cellsH h).toArray)
    (hk : ∀ W', Below w.heap.size w W' → W'.rangeAt w.heap.size 0 (cellsH h) → wpList Tryz.prog ops Q rest (a.put op.dst undef) W') : wpList Tryz.prog ops Q (op :: rest) a (w.alloc (.cells C t)) := by
  have ht : (w.alloc (.cells C t)).there w.heap.size 0 3 := by rw [← hC]; exact there_new _ _ _
  have ht2 := World.there_setCells ht w.heap.size 0 (cellsH h)
  exact wpList_store_mid hgd _ x y ho w.heap.size 0 _ hx hy ht infoHeld (by simp [cellsH, h1, h2]; rfl) (hk _ (setCells_below _ (Nat.le_refl _) _ 0 _ _ (al (Below.refl _ _) _)) (range_stored _ _ _ _ ht2))
theorem wp_store_mk {op : Oper} {a : Act} {w : World} {K : Act → World → Prop} {Q : Exit → Act → World → Prop} (x y : Operand) (ho : op.op = .store 24 x y)
    (b o : Nat) (s : Sum) (hx : a.eval x = .pointer (some ⟨b, o, none⟩)) (hy : a.eval y = sv s) (ht : w.there b o 32) (h : K (a.put op.dst undef) (w.setCells b o (cellsOf s))) : op.wp Tryz.prog a w K Q :=
  wp_store_mid _ x y ho b o _ hx hy (by rw [size_cellsOf]; exact ht) (by rw [size_cellsOf]; exact infoSum) (all_cellsOf s) h
theorem wrap_next {k m : Nat} (h : k < m) (hm : m < 1000000) : wrap64 ((k : Int) + 1) = ((k + 1 : Nat) : Int) := by
  unfold wrap64
  omega
/-- The mark of a number among sums, in cells. -/
noncomputable def mkC (n : Nat) : List Value := cellsOf (mkS (UInt8.ofNat n))
theorem length_mkC (n : Nat) : (mkC n).length = 32 := length_cellsOf _
theorem not_in {H : List Held} {q : Nat} {hv : Value} (ha : ApartH H q hv) : ¬ InH H q := fun ⟨i, hi, h⟩ => (ha i hi q h).1 rfl
theorem not_row {H : List Held} {q : Nat} {hv : Value} (ha : ApartH H q hv) : ∀ k, hv.ownBlock = some k → ¬ InH H k := fun k hk ⟨i, hi, h⟩ => (ha i hi k h).2.1 hk
theorem lies_form {W : World} {base : Nat} {H : List Held} {S : Nat → List (List Value)} {mk : Nat → List Value} {i k : Nat} (h : Lies W base 32 H (fillTo mk H S i k)) (hk : k ≤ (S i).length) (hi : i < H.length) : ∃ al cl, lst H i = .slice al (S i).length cl := by
  obtain ⟨a, c, h1⟩ := (h i hi).form
  rw [length_fillTo mk H S i k i hk] at h1
  exact ⟨a, c, h1⟩
theorem lie_block {W : World} {base size g n cap : Nat} {xs : List (List Value)} (h : Lie W base size (.slice (some ⟨g, 0, none⟩) n cap) xs) : ∀ o m, o + m ≤ n * size → W.there g o m := by
  rcases h with ⟨h0, _⟩ | ⟨g', cap', hv, hb, hg, hnc, hcm, hr, ht, hl⟩
  · cases h0
  · simp only [Value.slice.injEq, Option.some.injEq, Addr.mk.injEq, and_true] at hv
    obtain ⟨rfl, rfl, rfl⟩ := hv
    intro o m hom j hj
    have h1 : xs.length * size ≤ cap * size := Nat.mul_le_mul_right _ hnc
    have := ht (o + j) (by omega)
    rwa [Nat.zero_add] at this
set_option maxRecDepth 100000 in
set_option maxHeartbeats 1000000 in
theorem fillSum_any (base q n : Nat) (hv : Value) (F : Nat → Value) (H : List Held) (S : Nat → List (List Value)) (w : World) (hb : Book w q n F) (hF : F 5 = hv) (hrow : Row3 w 155 base q hv H) (hr : Lies w base 32 H S) (ha : ApartH H q hv) (hN : ∀ i, i < H.length → num H i < 256) (hS : ∀ i, i < H.length → (S i).length < 1000000) (hH : H.length < 100000) (hL : ∀ i, i < H.length → lng H i = .slice none 0 0) :
    Calls Tryz.prog 71 #[.pointer (some ⟨q, 0, none⟩)] w fun e w' => e = .returned (.tuple #[]) ∧ Lies w' base 32 H (filled mkC H S) ∧ Keeps (InH H) w w' := by
  obtain ⟨ah, ch, hform⟩ := hrow.form
  obtain ⟨N, hNN⟩ : ∃ N, N = H.length := ⟨_, rfl⟩
  rw [← hNN] at hform
  subst hform
  have HBk := Lib.hid (And.intro hb (And.intro hrow hF))
  have H0 := Lib.hid (And.intro (show Lies w base 32 H (fillTo mkC H S 0 0) by rw [fillTo_zero]; exact hr) (Keeps.refl (InH H) w))
  have HH := Lib.hid (And.intro ha (And.intro hN (And.intro hS (And.intro hH hNN))))
  have HLL := Lib.hid hL
  have book : ∀ W, Keeps (InH H) w W → Book W q n F ∧ Row3 W 155 base q (.slice ah N ch) H ∧ W.cell? ⟨q, 5, none⟩ = some (.slice ah N ch) := fun W hk => by
    have h1 := HBk.out.1.keep hk (not_in HH.out.1)
    exact ⟨h1, HBk.out.2.1.keep hk (not_row HH.out.1), by rw [← HBk.out.2.2]; exact h1.cs 5 (by omega) (by omega)⟩
  have HBO := Lib.hid book
  clear hb hrow hF hr ha hN hS hH hL hNN book HBk
  go_enter Tryz.func71, Tryz.ntmps71
  go_wp2_with fail
  go_loopw [2] (fun iv W => ∃ i : Nat, i ≤ N ∧ iv = .int .i64 (i : Int) ∧ Lies W base 32 H (fillTo mkC H S i 0) ∧ Keeps (InH H) w W) (fun iv _ => N - (intOf iv).toNat)
  case atStart => exact ⟨0, by omega, rfl, H0.out⟩
  case round =>
    clear H0
    obtain ⟨i, hi, rfl, hR, hK⟩ := hrel
    have HB := Lib.hid (And.intro hR hK)
    have g5 := (HBO.out _ hK).2.2
    clear hR hK
    by_cases hlt : i < N
    · have c1 : decide (i < N) = true := by simpa using hlt
      have c1' : decide ((i : Int) < (N : Int)) = true := by simp; omega
      have hj0 : (0 : Int) ≤ (i : Int) := by omega
      have hlt' : (i : Int) < (N : Int) := by omega
      have hiH : i < H.length := by rw [← HH.out.2.2.2.2]; exact hlt
      obtain ⟨gH, capH, he, _, _, _, hat⟩ := (HBO.out _ HB.out.2).2.1.at hiH
      rw [← HH.out.2.2.2.2] at he
      simp only [Value.slice.injEq, true_and] at he
      obtain ⟨rfl, rfl⟩ := he
      have hcl : cellsH (hd H i) = cellsH (lst H i, .slice none 0 0, num H i) := by
        rw [← HLL.out i hiH]; rfl
      rw [hcl] at hat
      obtain ⟨al, cl, hfl⟩ := lies_form HB.out.1 (Nat.zero_le _) hiH
      rw [hfl] at hat
      obtain ⟨m, hm⟩ : ∃ m, m = (S i).length := ⟨_, rfl⟩
      obtain ⟨nm, hnm⟩ : ∃ x, x = num H i := ⟨_, rfl⟩
      rw [← hm] at hat hfl
      rw [← hnm] at hat
      have HF := Lib.hid (And.intro hfl (And.intro hm (And.intro hnm hiH)))
      clear hfl hm hnm hcl hiH
      have HG := Lib.hid trivial
      have HAT := Lib.hid hat
      clear hat
      go_wp2_with (first
        | (refine wpList_load_held rfl _ rfl gH (i * 3) rfl _ HAT.out ?_)
        | (have _ := HG; refine wpList_var_held (by rfl) rfl _ _ rfl (.slice al m cl, .slice none 0 0, nm) rfl rfl (by rfl) (by rfl) ?_; intro W2 hb hr2; obtain ⟨bx, hbx⟩ : ∃ z, z = wr.heap.size := ⟨_, rfl⟩; rw [← hbx] at hr2 ⊢; have H2 := Lib.hid (And.intro hb (And.intro hr2 hbx)); clear HG hb hr2 hbx))
      have hbxw : Below wr.heap.size wr W2 := H2.out.1
      have H3 := Lib.hid (show Lies W2 base 32 H (fillTo mkC H S i 0) ∧ Keeps (InH H) w W2 ∧ W2.rangeAt bx 0 (cellsH (.slice al m cl, .slice none 0 0, nm)) from ⟨HB.out.1.below hbxw, HB.out.2.trans (Keeps.of_below hbxw), H2.out.2.1⟩)
      clear hbxw g5
      go_loopw [4] (fun kv W => ∃ k : Nat, k ≤ m ∧ kv = .int .i64 (k : Int) ∧ Lies W base 32 H (fillTo mkC H S i k) ∧ Keeps (InH H) w W ∧ W.rangeAt bx 0 (cellsH (.slice al m cl, .slice none 0 0, nm))) (fun kv _ => m - (intOf kv).toNat)
      case atStart => exact ⟨0, by omega, rfl, H3.out⟩
      case round =>
        clear H3
        obtain ⟨k, hk, rfl, hR, hK, hX⟩ := hrel
        have HI := Lib.hid (And.intro hR (And.intro hK hX))
        have g0 : wr.cell? ⟨bx, 0, none⟩ = some (.slice al m cl) := hX 0 _ rfl
        clear hR hK hX
        by_cases hkm : k < m
        · have d1 : decide (k < m) = true := by simpa using hkm
          have d1' : decide ((k : Int) < (m : Int)) = true := by simp; omega
          have hk0 : (0 : Int) ≤ (k : Int) := by omega
          have hkm' : (k : Int) < (m : Int) := by omega
          go_wp2_with fail
          have hiH := HF.out.2.2.2
          have hmS : m = (S i).length := HF.out.2.1
          have hown := HI.out.1 i hiH
          rw [HF.out.1] at hown
          have hgi : ∃ gi, al = some ⟨gi, 0, none⟩ := by
            rcases hown with ⟨h0, _⟩ | ⟨g', cap', hv, _⟩
            · simp only [Value.slice.injEq] at h0
              omega
            · simp only [Value.slice.injEq] at hv
              exact ⟨g', hv.1⟩
          obtain ⟨gi, rfl⟩ := hgi
          have hbk := lie_block hown (k * 32) 32 (by omega)
          have hown0 := HB.out.1 i hiH
          rw [HF.out.1] at hown0
          have hgx : gi ≠ bx := by have := (hown0.lt gi rfl).2; have := H2.out.2.2; omega
          have hnm : nm < 256 := by rw [HF.out.2.2.1]; exact HH.out.2.1 i hiH
          have hu : ((UInt8.ofNat nm).toNat : Nat) = nm := by simp; omega
          have hmk : cellsOf (mkS (UInt8.ofNat nm)) = mkC (num H i) := by unfold mkC; rw [HF.out.2.2.1]
          have HC := Lib.hid (And.intro hiH (And.intro hmS (And.intro hbk (And.intro hgx (And.intro hu hmk)))))
          clear hiH hmS hown hown0 hbk hgx hnm hu hmk
          have hd := (Below.refl wr.heap.size wr).drew
          have HJ := Lib.hid (show Lies wr.drew base 32 H (fillTo mkC H S i k) ∧ Keeps (InH H) w wr.drew ∧ wr.drew.rangeAt bx 0 (cellsH (.slice (some ⟨gi, 0, none⟩) m cl, .slice none 0 0, nm)) ∧ wr.drew.there gi (k * 32) 32 from ⟨HI.out.1.below hd, HI.out.2.1.trans (Keeps.of_below hd), (Keeps.of_below (X := fun _ => False) hd).range HI.out.2.2 (fun h => h), (Keeps.of_below (X := fun _ => False) hd).there HC.out.2.2.1 (by decide) (fun h => h)⟩)
          clear hd HI g0
          refine wp_region_sched (fun V => Below wr.drew.heap.size wr.drew V) [.t 0, .t 2, .t 3, .s 1, .e 4 true, .e 5 true, .t 6, .e 7 false] (by kernel_rfl) (by kernel_rfl) (by intro c a d v w h; cases d <;> exact h) ?_
          generalize wr.drew = V at *
          iterate 3
            refine wpS_t rfl (v := ?_) (by rfl) (fun W => ?_) ?_
            rotate_left
            · go_simp
              try rfl
            try simp only [Act.put, List.setIfInBounds_toArray, List.set_cons_zero, List.set_cons_succ]
          refine wpS_s (Below.refl _ _) rfl (v := .slice (some ⟨gi, 0, none⟩) m cl) (by rfl) (fun W hW => ?_) ?_
          · have g : W.cell? ⟨bx, 0, none⟩ = some (.slice (some ⟨gi, 0, none⟩) m cl) := (Keeps.of_below (X := fun _ => False) hW).cell (HJ.out.2.2.1 0 _ rfl) (fun h => h)
            go_simp
          try simp only [Act.put, List.setIfInBounds_toArray, List.set_cons_zero, List.set_cons_succ]
          refine wpS_k rfl (by rfl) (fun K hK => ?_)
          have g : V.cell? ⟨bx, 2, none⟩ = some (.int .i64 ((nm : Nat) : Int)) := HJ.out.2.2.1 2 _ rfl
          go_simp
          refine hK _ _ ⟨Below.refl _ _, ?_⟩; clear hK K
          try simp only [Act.put, List.setIfInBounds_toArray, List.set_cons_zero, List.set_cons_succ]
          clear g
          refine wpS_k rfl (by rfl) (fun K hK => ?_)
          go_simp
          have hc := markSum_any (UInt8.ofNat nm) V
          rw [HC.out.2.2.2.2.1] at hc
          refine hc.mono ?_
          clear hc
          rintro e V2 ⟨rfl, hb2⟩
          have hbV : Below V.heap.size V V2 := hb2
          have HK := Lib.hid (show Lies V2 base 32 H (fillTo mkC H S i k) ∧ Keeps (InH H) w V2 ∧ V2.rangeAt bx 0 (cellsH (.slice (some ⟨gi, 0, none⟩) m cl, .slice none 0 0, nm)) ∧ V2.there gi (k * 32) 32 from ⟨HJ.out.1.below hb2, HJ.out.2.1.trans (Keeps.of_below hb2), (Keeps.of_below (X := fun _ => False) hb2).range HJ.out.2.2.1 (fun h => h), (Keeps.of_below (X := fun _ => False) hb2).there HJ.out.2.2.2 (by decide) (fun h => h)⟩)
          clear hb2 HJ
          refine hK _ _ ⟨hbV, ?_⟩; clear hK K
          try simp only [Act.put, List.setIfInBounds_toArray, List.set_cons_zero, List.set_cons_succ]
          clear hbV
          iterate 1
            refine wpS_t rfl (v := ?_) (by rfl) (fun W => ?_) ?_
            rotate_left
            · go_simp
              try rfl
            try simp only [Act.put, List.setIfInBounds_toArray, List.set_cons_zero, List.set_cons_succ]
          refine wpS_e rfl (by rfl) (fun K hK => ?_)
          refine wp_store_mk _ _ (by rfl) gi (k * 32) (mkS (UInt8.ofNat nm)) (by rfl) (by rfl) HK.out.2.2.2 ?_
          refine hK _ _ ?_; clear hK K
          try simp only [Act.put]
          refine wpS_done ?_
          go_wp2_with fail
          rw [HC.out.2.2.2.2.2]
          have hkc := keepsC gi (mkC (num H i)) (k * 32) V2
          have hrs := lies_set HK.out.1 HH.out.1 HC.out.1 (by rw [← HC.out.2.1]; exact hkm) (length_mkC _) HF.out.1
          have hkk := HK.out.2.1.trans (hkc.mono (Y := InH H) fun b hb2 => ⟨i, HC.out.1, by rw [HF.out.1, hb2]; rfl⟩)
          have hrx := hkc.range HK.out.2.2.1 (fun e => HC.out.2.2.2.1 e.symm)
          have hwk : wrap64 ((k : Int) + 1) = ((k + 1 : Nat) : Int) := wrap_next hkm (by rw [HC.out.2.1]; exact HH.out.2.2.1 i HC.out.1)
          exact ⟨⟨k + 1, hkm, by rw [hwk], hrs, hkk, hrx⟩, by rw [hwk]; simp only [intOf, Int.toNat_natCast]; omega⟩
        · have hkn : k = m := by omega
          subst hkn
          go_wp2_with fail
          have hfn := fillTo_next mkC H S i
          rw [← HF.out.2.1] at hfn
          have hwi : wrap64 ((i : Int) + 1) = ((i + 1 : Nat) : Int) := wrap_next (m := 100000) (by rw [HH.out.2.2.2.2] at hlt; exact Nat.lt_trans hlt HH.out.2.2.2.1) (by decide)
          have HI2 := HI.out
          clear HI H2 HAT HF hkm g0 HB
          exact ⟨⟨i + 1, hlt, by rw [hwi], by rw [← hfn]; exact HI2.1, HI2.2.1⟩, by rw [hwi]; simp only [intOf, Int.toNat_natCast]; omega⟩
    · have hjn : i = N := by omega
      subst hjn
      go_wp2_with fail
      exact bodyPost_end (results_none rfl _ _ _) rfl ⟨rfl, lies_filled (by rw [← HH.out.2.2.2.2]; exact HB.out.1), HB.out.2⟩
end Go.Proofs.YtfmgoehnbaiamaaGreatDoor
