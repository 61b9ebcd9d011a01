/-
  Joined: BL2, BL3.
-/
import Derived.Test.YtdkcndgehgmadaaGreatDoorZAW
import Derived.Test.YtdkcndgehgmadaaGreatDoorSched
import Derived.Deep.AppendLies
import Derived.WalkMore
import Derived.Great.BuildSlice
-- Plain: what a Book holds: lists of one kind, written over, then grown.
open Go Go.RowKit
namespace Alm
/-- What is held: the list, the longer one, its number. -/
abbrev Held := Value × Value × Nat
def cellsH (h : Held) : List Value := [h.1, h.2.1, .int .i64 ((h.2.2 : Nat) : Int)]
def cellsHs (l : List Held) : List Value := l.flatMap cellsH
theorem length_cellsH (h : Held) : (cellsH h).length = 3 := rfl
theorem length_cellsHs (l : List Held) : (cellsHs l).length = 3 * l.length := by
  induction l with
  | nil => rfl
  | cons x l ih => rw [cellsHs, List.flatMap_cons, List.length_append, length_cellsH]; rw [cellsHs] at ih; rw [ih, List.length_cons]; omega
theorem cellsHs_append (a b : List Held) : cellsHs (a ++ b) = cellsHs a ++ cellsHs b := by simp [cellsHs]
theorem cellsHs_one (h : Held) : cellsHs [h] = cellsH h := by simp [cellsHs]
theorem keepsC (b : Nat) : ∀ (vs : List Value) (o : Nat) (w : World), Keeps (· = b) w (w.setCells b o vs)
  | [], _, _ => Keeps.refl _ _
  | v :: r, o, w => by
    rw [World.setCells]
    exact ((Keeps.refl (· = b) w).setCell (p := ⟨b, o, none⟩) (.inl rfl) v).trans (keepsC b r (o + 1) _)
theorem cell_range {W : World} {b o : Nat} {v : Value} (h : W.cell? ⟨b, o, none⟩ = some v) : W.rangeAt b o [v] := fun j u hj => by
  cases j with
  | zero =>
    simp only [List.getElem?_cons_zero, Option.some.injEq] at hj
    rw [← hj]; exact h
  | succ j => simp at hj
/-- A Book at q: how many it has numbered, and its nine lists. -/
structure Book (W : World) (q n : Nat) (F : Nat → Value) : Prop where
  th : W.there q 0 10
  cn : W.cell? ⟨q, 0, none⟩ = some (.int .i64 ((n : Nat) : Int))
  cs : ∀ j, 1 ≤ j → j < 10 → W.cell? ⟨q, j, none⟩ = some (F j)
theorem Book.lt {W : World} {q n : Nat} {F : Nat → Value} (h : Book W q n F) : q < W.heap.size := there_lt h.th (by omega)
theorem Book.keep {X : Nat → Prop} {W W' : World} {q n : Nat} {F : Nat → Value} (h : Book W q n F) (hk : Keeps X W W') (hq : ¬ X q) : Book W' q n F :=
  ⟨hk.there h.th (by decide) hq, hk.cell h.cn hq, fun j h1 h2 => hk.cell (h.cs j h1 h2) hq⟩
theorem Book.below {W W' : World} {q n : Nat} {F : Nat → Value} (h : Book W q n F) (hb : Below W.heap.size W W') : Book W' q n F := h.keep (Keeps.of_below (X := fun _ => False) hb) (fun h => h)
theorem Book.count {W : World} {q n : Nat} {F : Nat → Value} (h : Book W q n F) (m : Nat) : Book (W.setCell ⟨q, 0, none⟩ (.int .i64 ((m : Nat) : Int))) q m F := by
  have ht := World.there_setCells h.th q 0 [.int .i64 ((m : Nat) : Int)]
  refine ⟨ht, ?_, fun j h1 h2 => ?_⟩
  · exact range_stored q [.int .i64 ((m : Nat) : Int)] 0 W (fun j hj => by have := ht j (by simp at hj; omega); exact this) 0 _ rfl
  · exact World.rangeAt_setCells_apart (cell_range (h.cs j h1 h2)) q 0 [.int .i64 ((m : Nat) : Int)] (by right; right; simpa using h1) 0 _ rfl
/-- One of its lists is another one. -/
def put (F : Nat → Value) (k : Nat) (v : Value) : Nat → Value := fun j => if j = k then v else F j
theorem put_self (F : Nat → Value) (k : Nat) (v : Value) : put F k v k = v := if_pos rfl
theorem put_other (F : Nat → Value) {j k : Nat} (v : Value) (h : j ≠ k) : put F k v j = F j := if_neg h
theorem Book.list {W : World} {q n : Nat} {F : Nat → Value} (h : Book W q n F) {k : Nat} (h1 : 1 ≤ k) (h2 : k < 10) (v : Value) : Book (W.setCell ⟨q, k, none⟩ v) q n (put F k v) := by
  have ht := World.there_setCells h.th q k [v]
  refine ⟨ht, ?_, fun j h3 h4 => ?_⟩
  · exact World.rangeAt_setCells_apart (cell_range h.cn) q k [v] (by right; left; simpa using h1) 0 _ rfl
  · by_cases e : j = k
    · subst e
      rw [put_self]
      exact range_stored q [v] j W (fun i hi => by have := ht (j + i) (by simp at hi; omega); rwa [Nat.zero_add] at this) 0 _ rfl
    · rw [put_other F v e]
      exact World.rangeAt_setCells_apart (cell_range (h.cs j h3 h4)) q k [v] (by right; simp; omega) 0 _ rfl
/-- The list that is held at a place; the longer one; its number; the block of each. -/
def hd (H : List Held) (i : Nat) : Held := H.getD i (.slice none 0 0, .slice none 0 0, 0)
def lst (H : List Held) (i : Nat) : Value := (hd H i).1
def lng (H : List Held) (i : Nat) : Value := (hd H i).2.1
def num (H : List Held) (i : Nat) : Nat := (hd H i).2.2
/-- A row of what is held, in a block of its own. -/
def Row3 (W : World) (t : TypeId) (base q : Nat) (hv : Value) (H : List Held) : Prop := W.ownsRow base t 3 hv H.length (cellsHs H) ∧ hv.ownBlock ≠ some q
theorem Row3.keep {X : Nat → Prop} {W W' : World} {t : TypeId} {base q : Nat} {hv : Value} {H : List Held} (h : Row3 W t base q hv H) (hk : Keeps X W W') (hx : ∀ k, hv.ownBlock = some k → ¬ X k) : Row3 W' t base q hv H := ⟨hk.owns h.1 hx, h.2⟩
theorem Row3.below {W W' : World} {t : TypeId} {base q : Nat} {hv : Value} {H : List Held} (h : Row3 W t base q hv H) (hb : Below W.heap.size W W') : Row3 W' t base q hv H := h.keep (Keeps.of_below (X := fun _ => False) hb) (fun _ _ h => h)
theorem Row3.form {W : World} {t : TypeId} {base q : Nat} {hv : Value} {H : List Held} (h : Row3 W t base q hv H) : ∃ a c, hv = .slice a H.length c := by
  rcases h.1.2 with ⟨h1, h2⟩ | ⟨g, cap, cur, h1, _⟩
  · exact ⟨none, 0, by rw [h2]; exact h1⟩
  · exact ⟨_, _, h1⟩
theorem own_lies {w : World} {base : Nat} {e : TypeId} {size : Nat} {v : Value} {n : Nat} {xs : List Value} (h : w.ownsRow base e size v n xs) (hn : 1 ≤ n) : ∃ g cap, v = .slice (some ⟨g, 0, none⟩) n cap ∧ n ≤ cap ∧ cap ≤ maxLen ∧ base ≤ g ∧ g < w.heap.size ∧ w.rangeAt g 0 xs := by
  rcases h.2 with ⟨rfl, h0⟩ | ⟨g, cap, cur, rfl, h4, hg, hnc, hcm, hsz, htk⟩
  · omega
  · refine ⟨g, cap, rfl, hnc, hcm, h4, (Array.getElem?_eq_some_iff.1 hg).1, fun j v hj => ?_⟩
    rw [cell_of_row w g _ cur e (0, 0) hg, Nat.zero_add]
    rw [← htk, List.getElem?_take] at hj
    split at hj
    · simpa using hj
    · cases hj
theorem held_at {W : World} {g o : Nat} : ∀ {H : List Held} {i : Nat}, W.rangeAt g o (cellsHs H) → i < H.length → W.rangeAt g (o + i * 3) (cellsH (hd H i))
  | [], i, _, hi => by simp at hi
  | h :: H, 0, hr, _ => (range_append.1 (show W.rangeAt g o (cellsH h ++ cellsHs H) from hr)).1
  | h :: H, i + 1, hr, hi => by
    have h1 := (range_append.1 (show W.rangeAt g o (cellsH h ++ cellsHs H) from hr)).2
    rw [length_cellsH] at h1
    have h2 := held_at (i := i) h1 (by simpa using hi)
    rw [show o + (i + 1) * 3 = o + 3 + i * 3 by omega]
    exact h2
/-- Where the i-th of what is held stands. -/
theorem Row3.at {W : World} {t : TypeId} {base q : Nat} {hv : Value} {H : List Held} (h : Row3 W t base q hv H) {i : Nat} (hi : i < H.length) : ∃ g c, hv = .slice (some ⟨g, 0, none⟩) H.length c ∧ base ≤ g ∧ g < W.heap.size ∧ g ≠ q ∧ W.rangeAt g (i * 3) (cellsH (hd H i)) := by
  obtain ⟨g, c, hv', _, _, hb, hg, hr⟩ := own_lies h.1 (by omega)
  refine ⟨g, c, hv', hb, hg, fun e => h.2 (by rw [hv', e]; rfl), ?_⟩
  have := held_at hr hi
  rwa [Nat.zero_add] at this
/-- The lists that are held lie in memory. -/
def Lies (W : World) (base size : Nat) (H : List Held) (S : Nat → List (List Value)) : Prop := ∀ i, i < H.length → Lie W base size (lst H i) (S i)
/-- They lie apart: of one another, of the Book, of its row. -/
def ApartH (H : List Held) (q : Nat) (hv : Value) : Prop := ∀ i, i < H.length → ∀ g, (lst H i).ownBlock = some g → g ≠ q ∧ hv.ownBlock ≠ some g ∧ ∀ j, j < H.length → j ≠ i → (lst H j).ownBlock ≠ some g
/-- The blocks of what is held. -/
def InH (H : List Held) (k : Nat) : Prop := ∃ i, i < H.length ∧ (lst H i).ownBlock = some k
/-- What stands in the lists when those ahead of a place, and so many of its own, are written over. -/
def fillTo (mk : Nat → List Value) (H : List Held) (S : Nat → List (List Value)) (i k : Nat) : Nat → List (List Value) := fun j => if j < i then List.replicate (S j).length (mk (num H j)) else if j = i then List.replicate k (mk (num H i)) ++ (S i).drop k else S j
theorem fillTo_zero (mk : Nat → List Value) (H : List Held) (S : Nat → List (List Value)) : fillTo mk H S 0 0 = S := by
  funext j
  unfold fillTo
  rw [if_neg (by omega)]
  by_cases h : j = 0
  · rw [if_pos h, h]; rfl
  · rw [if_neg h]
theorem fillTo_next (mk : Nat → List Value) (H : List Held) (S : Nat → List (List Value)) (i : Nat) : fillTo mk H S i (S i).length = fillTo mk H S (i + 1) 0 := by
  funext j
  unfold fillTo
  by_cases h : j < i
  · rw [if_pos h, if_pos (by omega)]
  · by_cases e : j = i
    · rw [if_neg h, if_pos e, if_pos (by omega), e, List.drop_length, List.append_nil]
    · rw [if_neg h, if_neg e, if_neg (by omega)]
      by_cases e2 : j = i + 1
      · rw [if_pos e2, e2]; rfl
      · rw [if_neg e2]
theorem length_fillTo (mk : Nat → List Value) (H : List Held) (S : Nat → List (List Value)) (i k j : Nat) (hk : k ≤ (S i).length) : (fillTo mk H S i k j).length = (S j).length := by
  unfold fillTo
  by_cases h : j < i
  · rw [if_pos h, List.length_replicate]
  · by_cases e : j = i
    · rw [if_neg h, if_pos e, List.length_append, List.length_replicate, List.length_drop, e]; omega
    · rw [if_neg h, if_neg e]
theorem fillTo_set (mk : Nat → List Value) (H : List Held) (S : Nat → List (List Value)) (i k : Nat) (hk : k < (S i).length) : (fillTo mk H S i k i).set k (mk (num H i)) = fillTo mk H S i (k + 1) i := by
  unfold fillTo
  rw [if_neg (Nat.lt_irrefl i), if_pos rfl, if_neg (Nat.lt_irrefl i), if_pos rfl]
  rw [List.set_append_right _ _ (by simp), List.length_replicate, Nat.sub_self, List.drop_eq_getElem_cons hk, List.set_cons_zero, List.replicate_succ', List.append_assoc]
  rfl
theorem fillTo_other (mk : Nat → List Value) (H : List Held) (S : Nat → List (List Value)) (i k j : Nat) (hj : j ≠ i) : fillTo mk H S i k j = fillTo mk H S i (k + 1) j := by
  unfold fillTo
  by_cases h : j < i
  · rw [if_pos h, if_pos h]
  · rw [if_neg h, if_neg h, if_neg hj, if_neg hj]
/-- What stands in them when all are written over. -/
def filled (mk : Nat → List Value) (H : List Held) (S : Nat → List (List Value)) : Nat → List (List Value) := fun j => List.replicate (S j).length (mk (num H j))
theorem lies_filled {W : World} {base size : Nat} {mk : Nat → List Value} {H : List Held} {S : Nat → List (List Value)} (h : Lies W base size H (fillTo mk H S H.length 0)) : Lies W base size H (filled mk H S) := fun i hi => by
  have := h i hi
  rwa [fillTo, if_pos hi] at this
theorem Lies.keep {X : Nat → Prop} {W W' : World} {base size : Nat} {H : List Held} {S : Nat → List (List Value)} (h : Lies W base size H S) (hk : Keeps X W W') (hx : ∀ k, InH H k → ¬ X k) : Lies W' base size H S := fun i hi => (h i hi).keep hk fun k hk2 => hx k ⟨i, hi, hk2⟩
theorem Lies.below {W W' : World} {base size : Nat} {H : List Held} {S : Nat → List (List Value)} (h : Lies W base size H S) (hb : Below W.heap.size W W') : Lies W' base size H S := h.keep (Keeps.of_below (X := fun _ => False) hb) (fun _ _ h => h)
/-- One element more is written over. -/
theorem lies_set {W : World} {base size : Nat} {mk : Nat → List Value} {H : List Held} {S : Nat → List (List Value)} {i k q : Nat} {hv : Value} (h : Lies W base size H (fillTo mk H S i k)) (ha : ApartH H q hv) (hi : i < H.length) (hk : k < (S i).length) (hm : (mk (num H i)).length = size) {g n cap : Nat} (hl : lst H i = .slice (some ⟨g, 0, none⟩) n cap) : Lies (W.setCells g (k * size) (mk (num H i))) base size H (fillTo mk H S i (k + 1)) := fun j hj => by
  have hb : (lst H i).ownBlock = some g := by rw [hl]; rfl
  by_cases e : j = i
  · subst e
    have h1 := h j hj
    rw [hl] at h1 ⊢
    have h2 := Lie.set h1 (k := k) (by rw [length_fillTo mk H S j k j (by omega)]; exact hk) hm
    rwa [fillTo_set mk H S j k hk] at h2
  · have h1 := (h j hj).keep (keepsC g (mk (num H i)) (k * size) W) (fun b hb2 e2 => (ha i hi g hb).2.2 j hj e (by rw [hb2, e2]))
    rwa [fillTo_other mk H S i k j e] at h1
/-- What is held when the longer ones of those ahead of a place are told. -/
def longTo (H : List Held) (L : Nat → Value) (i : Nat) : List Held := H.mapIdx fun j h => if j < i then (h.1, L j, h.2.2) else h
theorem length_longTo (H : List Held) (L : Nat → Value) (i : Nat) : (longTo H L i).length = H.length := List.length_mapIdx
theorem hd_longTo (H : List Held) (L : Nat → Value) (i j : Nat) (hj : j < H.length) : hd (longTo H L i) j = if j < i then (lst H j, L j, num H j) else hd H j := by
  unfold hd lst num hd longTo
  simp only [List.getD_eq_getElem?_getD, List.getElem?_mapIdx, List.getElem?_eq_getElem hj, Option.map_some, Option.getD_some]
theorem longTo_zero (H : List Held) (L : Nat → Value) : longTo H L 0 = H := by
  apply List.ext_getElem
  · exact length_longTo H L 0
  · intro j h1 h2; simp [longTo]
theorem longTo_set (H : List Held) (L : Nat → Value) (i : Nat) (v : Value) (hi : i < H.length) : longTo H (fun j => if j = i then v else L j) (i + 1) = (longTo H L i).set i (lst H i, v, num H i) := by
  apply List.ext_getElem
  · rw [List.length_set, length_longTo, length_longTo]
  · intro j h1 h2
    rw [length_longTo] at h1
    rw [List.getElem_set]
    unfold longTo
    simp only [List.getElem_mapIdx]
    by_cases e : i = j
    · subst e
      rw [if_pos (by omega), if_pos rfl, if_pos rfl]
      simp [lst, num, hd, List.getD_eq_getElem?_getD, List.getElem?_eq_getElem hi]
    · rw [if_neg e]
      by_cases h : j < i
      · rw [if_pos (by omega), if_pos h, if_neg (by omega)]
      · rw [if_neg (by omega), if_neg h]
theorem longTo_congr (H : List Held) {L L' : Nat → Value} (i : Nat) (h : ∀ j, j < i → L j = L' j) : longTo H L i = longTo H L' i := by
  unfold longTo
  apply List.ext_getElem
  · simp
  · intro j h1 h2
    simp only [List.getElem_mapIdx]
    by_cases hj : j < i
    · rw [if_pos hj, if_pos hj, h j hj]
    · rw [if_neg hj, if_neg hj]
theorem cellsHs_set {H : List Held} {i : Nat} (hi : i < H.length) (h : Held) : cellsHs (H.set i h) = (cellsHs H).take (i * 3) ++ (cellsH h ++ (cellsHs H).drop (i * 3 + 3)) := by
  have hl : ∀ x ∈ H.map cellsH, x.length = 3 := fun x hx => by
    obtain ⟨y, _, rfl⟩ := List.mem_map.1 hx
    rfl
  have e : ∀ l : List Held, cellsHs l = (l.map cellsH).flatten := fun l => List.flatMap_def
  rw [e, e, List.map_set]
  obtain ⟨f1, f2⟩ := flat_split (xs := (H.map cellsH).set i (cellsH h)) (size := 3) (fun x hx => by
    rcases List.mem_or_eq_of_mem_set hx with h1 | h1
    · exact hl x h1
    · rw [h1]; rfl) (k := i) (by simpa using hi)
  obtain ⟨g1, g2⟩ := flat_split hl (k := i) (by simpa using hi)
  rw [f1, List.take_set_of_le (Nat.le_refl i), List.getElem_set_self, List.drop_set_of_lt (by omega)]
  congr 1
  · rw [g1, ← g2, List.take_left]
  · congr 1
    have g3 : i * 3 + 3 = ((List.take i (List.map cellsH H)).flatten ++ (List.map cellsH H)[i]'(by simpa using hi)).length := by rw [List.length_append, g2, hl _ (List.getElem_mem _)]
    conv => rhs; rw [g1, ← List.append_assoc, g3, List.drop_left]
theorem own_setCell {w : World} {base : Nat} {e : TypeId} {size g n cap : Nat} {xs : List Value} (h : w.ownsRow base e size (.slice (some ⟨g, 0, none⟩) n cap) n xs) (k : Nat) (u : Value) : (w.setCell ⟨g, k, none⟩ u).ownsRow base e size (.slice (some ⟨g, 0, none⟩) n cap) n (xs.set k u) := by
  refine ⟨by rw [List.length_set]; exact h.1, ?_⟩
  rcases h.2 with ⟨h0, _⟩ | ⟨g', cap', cur, he, hb, hg, hnc, hcm, hsz, htk⟩
  · cases h0
  · simp only [Value.slice.injEq, Option.some.injEq, Addr.mk.injEq, and_true, true_and] at he
    obtain ⟨rfl, rfl⟩ := he
    exact .inr ⟨g, cap, cur.setIfInBounds k u, rfl, hb, heap_setCell_same w g k _ _ u hg, hnc, hcm, by simpa using hsz, by rw [← htk, Array.toList_setIfInBounds, List.take_set]⟩
/-- The longer one of what is held at a place is told. -/
theorem Row3.long {W : World} {t : TypeId} {base q : Nat} {hv : Value} {H : List Held} (h : Row3 W t base q hv H) {i : Nat} (hi : i < H.length) {g n c : Nat} (hg : hv = .slice (some ⟨g, 0, none⟩) n c) (v : Value) : Row3 (W.setCell ⟨g, i * 3 + 1, none⟩ v) t base q hv (H.set i (lst H i, v, num H i)) := by
  refine ⟨?_, h.2⟩
  subst hg
  have hn : n = H.length := by
    obtain ⟨a, c', e⟩ := h.form
    simp only [Value.slice.injEq] at e
    exact e.2.1
  subst hn
  rw [List.length_set]
  have h1 := own_setCell h.1 (i * 3 + 1) v
  have e : (cellsHs H).set (i * 3 + 1) v = cellsHs (H.set i (lst H i, v, num H i)) := by
    have hl := length_cellsHs H
    rw [cellsHs_set hi]
    have e2 : H = H.set i (hd H i) := by
      unfold hd
      rw [List.getD_eq_getElem?_getD, List.getElem?_eq_getElem hi, Option.getD_some, List.set_getElem_self]
    conv => lhs; rw [e2, cellsHs_set hi]
    have h3 : ((cellsHs H).take (i * 3)).length = i * 3 := by rw [List.length_take, hl]; omega
    rw [List.set_append_right _ _ (by omega), h3, show i * 3 + 1 - i * 3 = 1 by omega]
    rfl
  rwa [e] at h1
end Alm
-- Walk: a Book keeps a list of sums (keepSum).
open Go Go.RowKit Alm
namespace Go.Proofs.YtdkcndgehgmadaaGreatDoor
theorem info_held : ∃ i z, Tryz.prog.info? 161 = some i ∧ i.zero = some z ∧ i.size = 3 ∧ i.bytes = 56 ∧ z.cells.size = 3 := by
  have h : (Tryz.prog.info? 161).map (fun i => (i.zero.map fun z => z.cells.size, i.size, i.bytes)) = some (some 3, 3, 56) := by kernel_rfl
  obtain ⟨i, hi, h2⟩ := Option.map_eq_some_iff.1 h
  simp only [Prod.mk.injEq] at h2
  obtain ⟨z, hz, hz2⟩ := Option.map_eq_some_iff.1 h2.1
  exact ⟨i, z, hi, hz, h2.2.1, h2.2.2, hz2⟩
theorem wp_lit_held {w : World} {o : Oper} {a : Act} {K : Act → World → Prop} {Q : Exit → Act → World → Prop} (x : Operand) (ho : o.op = .buildSlice 38 1 #[(0, x)]) (s : Held) (hx : a.eval x = .agg (cellsH s).toArray)
    (h : K (a.put o.dst (.slice (some ⟨w.heap.size, 0, none⟩) 1 1)) (w.alloc (.cells (cellsH s).toArray 161))) : o.wp Tryz.prog a w K Q := by
  obtain ⟨i, z, hi, hz, hs, hb, hzs⟩ := info_held
  refine wp_buildSlice _ 161 1 _ ho (cellsH s).toArray i z Tryz.underlying38 hi hz (by rw [hs]; omega) (by rw [hs]; omega) ?_ h
  have hp : ((#[(0, x)] : Array (Nat × Operand)).toList.map fun (i, x) => (i, a.eval x)) = (([(.agg (cellsH s).toArray : Value)]).zipIdx 0).map fun x => (x.2, x.1) := by simp [hx]
  rw [Array.toList_map, hp, hs, Great.fill_whole (s := 3) (by omega) [(.agg (cellsH s).toArray : Value)] _ (fun v hv => by rw [List.mem_singleton.1 hv]; simp [Value.cells, length_cellsH]) (by simp)]
  simp [Value.cells]
theorem wp_append_held {w : World} {o : Oper} {a : Act} {K : Act → World → Prop} {Q : Exit → Act → World → Prop} (s x : Operand)
    (ho : o.op = .call { callee := .builtin .append, args := #[s, x], argTypes := #[38, 38] })
    (base : Nat) (v : Value) (l : List Held) (n : Nat) (hn : l.length = n) (hs : a.eval s = v) (hown : w.ownsRow base 161 3 v n (cellsHs l))
    (b off c : Nat) (y : Held) (hy1 : y.1.oneCell' = true) (hy2 : y.2.1.oneCell' = true) (hx : a.eval x = .slice (some ⟨b, off, none⟩) 1 c) (hr : w.rangeAt b off (cellsH y)) (hl : n < 1000000) (hB : base ≤ w.heap.size)
    (h : ∀ g cap w', w'.ownsRow base 161 3 (.slice (some ⟨g, 0, none⟩) (n + 1) cap) (n + 1) (cellsHs (l ++ [y])) → w.grownBy w' v.ownBlock → (v.ownBlock = some g ∨ g = w.heap.size) → g < w'.heap.size → K (a.put o.dst (.slice (some ⟨g, 0, none⟩) (n + 1) cap)) w') : o.wp Tryz.prog a w K Q := by
  obtain ⟨i, z, hi, hz, h1, h2, h3⟩ := info_held
  refine wp_append_lies w s x _ ho base _ i z 3 56 Tryz.underlying38 hi hz h1 h2 h3 (by omega) v n (cellsHs l) hs hown ⟨b, off, none⟩ 1 c (cellsH y) hx (by rw [length_cellsH]) (fun j u hj => by rw [Addr.add_mid]; exact hr j u hj) (fun u hu => by
    unfold cellsH at hu
    simp only [List.mem_cons, List.not_mem_nil, or_false] at hu
    rcases hu with rfl | rfl | rfl
    · exact hy1
    · exact hy2
    · rfl) (by omega) (by unfold maxLen; omega) (by omega) hB w.heap.size rfl ?_
  intro g cap w' ho' hg hat hlt
  refine h g cap w' ?_ hg hat hlt
  rw [cellsHs_append, cellsHs_one]; exact ho'
set_option maxRecDepth 100000 in
set_option maxHeartbeats 1000000 in
theorem keepSum_any (va : Option Addr) (vn vc : Nat) (hv : Value) (base q n : Nat) (F : Nat → Value) (H : List Held) (w : World) (hb : Book w q n F) (hF : F 5 = hv) (hr : Row3 w 161 base q hv H) (hbs : base ≤ w.heap.size) (hn : n < 100000) (hH : H.length < 100000) :
    Calls Tryz.prog 71 #[.pointer (some ⟨q, 0, none⟩), .slice va vn vc] w fun e w' => e = .returned (.tuple #[]) ∧ ∃ hv', Book w' q (n + 1) (put F 5 hv') ∧ Row3 w' 161 base q hv' (H ++ [(.slice va vn vc, .slice none 0 0, n + 1)]) ∧ (∀ k, hv'.ownBlock = some k → hv.ownBlock = some k ∨ w.heap.size ≤ k) ∧ Keeps (fun i => i = q ∨ hv.ownBlock = some i) w w' := by
  have g1 := hb.cn
  have hf : w.frozen? ⟨q, 0, none⟩ = false := (hb.th 0 (by omega)).2
  obtain ⟨m, hm⟩ : ∃ m : Int, m = ((n + 1 : Nat) : Int) := ⟨_, rfl⟩
  have hw : wrap64 m = m := by rw [hm]; unfold wrap64; omega
  have hw2 : (n : Int) + 1 = m := by rw [hm]; rfl
  have hb1 := hb.count (n + 1)
  have hk1 := keepsC q [.int .i64 ((n + 1 : Nat) : Int)] 0 w
  rw [← hm] at hb1 hk1
  change Keeps _ _ (w.setCell ⟨q, 0, none⟩ (.int .i64 m)) at hk1
  have hr1 : Row3 (w.setCell ⟨q, 0, none⟩ (.int .i64 m)) 161 base q hv H := hr.keep hk1 (fun k hk e => hr.2 (by rw [hk, e]))
  have H1 := Lib.hid (And.intro hb1 (And.intro (hk1.mono (Y := fun i => i = q ∨ hv.ownBlock = some i) fun k h => .inl h) (And.intro hr1 (Nat.le_trans hbs hk1.size))))
  have HM := Lib.hid hm
  have HV := Lib.hid (And.intro hH (And.intro hr.2 hF))
  have HW0 := Lib.hid hk1.size
  clear hb hb1 hk1 hm hH hn hr hr1 hF hbs
  go_enter Tryz.func71, Tryz.ntmps71
  go_wp2_with fail
  generalize w.setCell ⟨q, 0, none⟩ (.int .i64 m) = w1 at *
  clear g1 hf hw hw2
  have hd := (Below.refl w1.heap.size w1).drew
  have H2 := Lib.hid (And.intro (H1.out.1.below hd) (And.intro (H1.out.2.1.trans (Keeps.of_below hd)) (And.intro (H1.out.2.2.1.below hd) (And.intro H1.out.2.2.2 HW0.out))))
  clear hd H1 HW0
  refine wp_region_sched (fun V => Below w1.drew.heap.size w1.drew V) [.t 0, .t 1, .t 2, .t 3, .t 5, .t 6, .t 7, .t 8, .s 4, .e 9 true, .t 10, .e 11 true, .e 12 false, .t 13, .t 14, .e 15 false] (by kernel_rfl) (by kernel_rfl) (by intro c a d v w h; cases d <;> exact h) ?_
  change wpS _ _ _ _ _ _ _ w1.drew
  have hsz : w1.drew.heap.size = w1.heap.size := rfl
  rw [← hsz] at H2
  clear hsz
  generalize w1.drew = V at *
  iterate 8
    refine wpS_t rfl (v := ?_) (by rfl) (fun W => ?_) ?_
    rotate_left
    · go_simp
      try rfl
    try simp only [Act.put, List.setIfInBounds_toArray, List.set_cons_zero, List.set_cons_succ]
  refine wpS_s (Below.refl _ _) rfl (v := hv) (by rfl) (fun W hW => ?_) ?_
  · have g : W.cell? ⟨q, 5, none⟩ = some hv := by rw [← HV.out.2.2]; exact (Keeps.of_below (X := fun _ => False) hW).cell (H2.out.1.cs 5 (by omega) (by omega)) (fun h => h)
    go_simp
  try simp only [Act.put, List.setIfInBounds_toArray, List.set_cons_zero, List.set_cons_succ]
  refine wpS_k rfl (by rfl) (fun K hK => ?_)
  have g := H2.out.1.cn
  rw [← HM.out] at g
  go_simp
  refine hK _ _ ⟨Below.refl _ _, ?_⟩; clear hK K
  try simp only [Act.put, List.setIfInBounds_toArray, List.set_cons_zero, List.set_cons_succ]
  clear g
  iterate 1
    refine wpS_t rfl (v := ?_) (by rfl) (fun W => ?_) ?_
    rotate_left
    · go_simp
      try rfl
    try simp only [Act.put, List.setIfInBounds_toArray, List.set_cons_zero, List.set_cons_succ]
  refine wpS_k rfl (by rfl) (fun K hK => ?_)
  refine wp_lit_held _ rfl (.slice va vn vc, .slice none 0 0, n + 1) (by rw [cellsH, ← HM.out]; rfl) ?_
  have hb3 := al (Below.refl V.heap.size V) (.cells (cellsH (.slice va vn vc, .slice none 0 0, n + 1)).toArray 161)
  have hr3 := range_new V (cellsH (.slice va vn vc, .slice none 0 0, n + 1)).toArray 161 _ rfl
  have H3 := Lib.hid (And.intro hb3 hr3)
  clear hb3 hr3
  refine hK _ _ ⟨by exact H3.out.1, ?_⟩; clear hK K
  try simp only [Act.put, List.setIfInBounds_toArray, List.set_cons_zero, List.set_cons_succ]
  generalize V.alloc (.cells (cellsH (.slice va vn vc, .slice none 0 0, n + 1)).toArray 161) = V3 at *
  refine wpS_e rfl (by rfl) (fun K hK => ?_)
  have hown3 : V3.ownsRow base 161 3 hv H.length (cellsHs H) := (H2.out.2.2.1.below H3.out.1).1
  refine wp_append_held _ _ (by rfl) base hv H H.length rfl (by rfl) hown3 V.heap.size 0 1 (.slice va vn vc, .slice none 0 0, n + 1) rfl rfl (by rfl) H3.out.2 (by have := HV.out.1; omega) (Nat.le_trans (Nat.le_trans H2.out.2.2.2.1 (Nat.le_refl _)) H3.out.1.size) ?_
  intro g cap W4 ho hg hat hlt
  have hq3 : q < V.heap.size := H2.out.1.lt
  have hk4 : Keeps (fun i => hv.ownBlock = some i) V3 W4 := Keeps.of_grown hg (fun k hk => hk)
  have hgq : g ≠ q := by
    intro e
    rcases hat with h | h
    · exact HV.out.2.1 (by rw [h, e])
    · have := H3.out.1.size
      omega
  have hgB : hv.ownBlock = some g ∨ V.heap.size ≤ g := by
    rcases hat with h | h
    · exact .inl h
    · exact .inr (by rw [h]; exact H3.out.1.size)
  have hkV : Keeps (fun i => hv.ownBlock = some i) V W4 := (Keeps.of_below H3.out.1).trans hk4
  have hbk4 : Book W4 q (n + 1) F := H2.out.1.keep hkV (fun h => HV.out.2.1 h)
  have H4 := Lib.hid (And.intro ho (And.intro hgq (And.intro hbk4 (And.intro hgB hkV))))
  clear hown3 hg hat hlt hq3 hk4 hgq hkV hbk4 hgB ho
  refine hK _ _ ?_; clear hK K
  try simp only [Act.put, List.setIfInBounds_toArray, List.set_cons_zero, List.set_cons_succ]
  iterate 2
    refine wpS_t rfl (v := ?_) (by rfl) (fun W => ?_) ?_
    rotate_left
    · go_simp
      try rfl
    try simp only [Act.put, List.setIfInBounds_toArray, List.set_cons_zero, List.set_cons_succ]
  refine wpS_e rfl (by rfl) (fun K hK => ?_)
  have hf : W4.frozen? ⟨q, 5, none⟩ = false := (H4.out.2.2.1.th 5 (by omega)).2
  have hu5 := H4.out.2.2.1.cs 5 (by omega) (by omega)
  go_simp
  refine hK _ _ ?_; clear hK K
  try simp only [Act.put, List.setIfInBounds_toArray, List.set_cons_zero, List.set_cons_succ]
  clear hf hu5
  refine wpS_done ?_
  go_wp2_with fail
  have hbk := H4.out.2.2.1.list (k := 5) (by omega) (by omega) (.slice (some ⟨g, 0, none⟩) (H.length + 1) cap)
  have hk5 := (H4.out.2.2.2.2.mono (Y := fun i => i = q ∨ hv.ownBlock = some i) fun k h => .inr h).trans ((keepsC q [.slice (some ⟨g, 0, none⟩) (H.length + 1) cap] 5 W4).mono fun k h => .inl h)
  have hkq := keepsC q [.slice (some ⟨g, 0, none⟩) (H.length + 1) cap] 5 W4
  refine bodyPost_end (results_none rfl _ _ _) rfl ⟨rfl, _, hbk, ⟨?_, fun h => H4.out.2.1 (by simpa [Value.ownBlock] using h)⟩, fun k hk => ?_, H2.out.2.1.trans hk5⟩
  · have ho5 := hkq.owns H4.out.1 (fun k hk e => H4.out.2.1 (by rw [← e]; simpa [Value.ownBlock] using hk))
    rw [List.length_append]
    exact ho5
  · obtain rfl : g = k := by simpa [Value.ownBlock] using hk
    rcases H4.out.2.2.2.1 with h | h
    · exact .inl h
    · exact .inr (Nat.le_trans H2.out.2.2.2.2 h)
end Go.Proofs.YtdkcndgehgmadaaGreatDoor
