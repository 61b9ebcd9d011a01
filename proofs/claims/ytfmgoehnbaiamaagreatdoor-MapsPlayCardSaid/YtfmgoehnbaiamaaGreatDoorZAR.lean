/-
  Joined: U5, U6.
-/
import Derived.Test.YtfmgoehnbaiamaaGreatDoorZAQ
import Derived.Laws.Externs
import Derived.Lib.BytesEntry
-- Walks: bytes.Compare of two keys; the order of pairs.
open Go Go.RowKit Alm
namespace Go.Proofs.YtfmgoehnbaiamaaGreatDoor
/-- Which key stands ahead. -/
def kcmp (x y : Sum) : Int := if Keys.kn x < Keys.kn y then -1 else if Keys.kn y < Keys.kn x then 1 else 0
theorem bnum_first (p r s : List UInt8) (a b : UInt8) (hl : r.length = s.length) (h : a < b) : Fast.bnum (p ++ [a] ++ r) < Fast.bnum (p ++ [b] ++ s) := by
  rw [Fast.bnum_append, Fast.bnum_append, Fast.bnum_append, Fast.bnum_append, hl]
  have h1 := Fast.bnum_lt r
  have h2 := Fast.bnum_lt s
  rw [hl] at h1
  have e1 : Fast.bnum [a] = a.toNat := by simp [Fast.bnum]
  have e2 : Fast.bnum [b] = b.toNat := by simp [Fast.bnum]
  rw [e1, e2]
  have hab : a.toNat < b.toNat := UInt8.lt_iff_toNat_lt.1 h
  generalize 256 ^ s.length = M at *
  simp only [List.length_singleton]
  generalize Fast.bnum p * 256 ^ 1 = P at *
  have : (P + a.toNat) * M + M ≤ (P + b.toNat) * M := by
    rw [← Nat.succ_mul]; exact Nat.mul_le_mul_right _ (by omega)
  omega
theorem split_at (x : List UInt8) (i : Nat) (h : i < x.length) : x = x.take i ++ [x.getD i 0] ++ x.drop (i + 1) := by
  rw [List.getD_eq_getElem?_getD, List.getElem?_eq_getElem h, Option.getD_some, List.append_assoc, List.singleton_append, ← List.drop_eq_getElem_cons h, List.take_append_drop]
theorem cmp_lists (x y : List UInt8) (hx : x.length = 32) (hy : y.length = 32) : Extern.BytealgCompare.cmp ⟨x.toArray⟩ ⟨y.toArray⟩ = if Fast.bnum x < Fast.bnum y then -1 else if Fast.bnum y < Fast.bnum x then 1 else 0 := by
  have gx : ∀ i, (⟨x.toArray⟩ : ByteArray)[i]! = x.getD i 0 := fun i => by
    by_cases h : i < x.length
    · rw [getElem!_pos _ i (show i < (⟨x.toArray⟩ : ByteArray).size from by show i < x.toArray.size; simpa using h), List.getD_eq_getElem?_getD, List.getElem?_eq_getElem h]; rfl
    · rw [getElem!_neg _ i (show ¬ i < (⟨x.toArray⟩ : ByteArray).size from by show ¬ i < x.toArray.size; simpa using h), List.getD_eq_getElem?_getD, List.getElem?_eq_none (by omega)]; rfl
  have gy : ∀ i, (⟨y.toArray⟩ : ByteArray)[i]! = y.getD i 0 := fun i => by
    by_cases h : i < y.length
    · rw [getElem!_pos _ i (show i < (⟨y.toArray⟩ : ByteArray).size from by show i < y.toArray.size; simpa using h), List.getD_eq_getElem?_getD, List.getElem?_eq_getElem h]; rfl
    · rw [getElem!_neg _ i (show ¬ i < (⟨y.toArray⟩ : ByteArray).size from by show ¬ i < y.toArray.size; simpa using h), List.getD_eq_getElem?_getD, List.getElem?_eq_none (by omega)]; rfl
  have sx : (⟨x.toArray⟩ : ByteArray).size = 32 := by show x.toArray.size = 32; simp [hx]
  have sy : (⟨y.toArray⟩ : ByteArray).size = 32 := by show y.toArray.size = 32; simp [hy]
  unfold Extern.BytealgCompare.cmp
  simp only [gx, gy, sx, sy, Nat.min_self, Nat.lt_irrefl, if_false]
  cases hf : (List.range 32).find? fun i => x.getD i 0 != y.getD i 0 with
  | none =>
    have e : x = y := by
      apply List.ext_getElem?
      intro i
      by_cases hi : i < 32
      · have := List.find?_eq_none.1 hf i (List.mem_range.2 hi)
        simp only [bne_iff_ne, ne_eq, Decidable.not_not] at this
        rw [List.getD_eq_getElem?_getD, List.getD_eq_getElem?_getD, List.getElem?_eq_getElem (by omega), List.getElem?_eq_getElem (by omega)] at this
        rw [List.getElem?_eq_getElem (by omega), List.getElem?_eq_getElem (by omega)]
        simpa using this
      · rw [List.getElem?_eq_none (by omega), List.getElem?_eq_none (by omega)]
    subst e
    simp
  | some i =>
    have hm := List.mem_of_find?_eq_some hf
    have hi : i < 32 := List.mem_range.1 hm
    have hne := List.find?_some hf
    simp only [bne_iff_ne, ne_eq] at hne
    have hpre : x.take i = y.take i := by
      obtain ⟨l1, l2, e1, e2⟩ := List.find?_eq_some_iff_append.1 hf |>.2
      have hl1 : l1.length = i := by
        have h3 : (List.range 32)[l1.length]? = some i := by rw [e1]; simp
        rw [List.getElem?_range (by
          have := congrArg List.length e1
          simp at this
          omega)] at h3
        simpa using h3
      apply List.ext_getElem?
      intro j
      by_cases hj : j < i
      · have hjm : j ∈ l1 := by
          have h3 : (List.range 32)[j]? = some j := List.getElem?_range (by omega)
          rw [e1, List.getElem?_append_left (by omega)] at h3
          exact List.mem_of_getElem? h3
        have := e2 j hjm
        simp only [Bool.not_eq_true', bne_eq_false_iff_eq] at this
        rw [List.getElem?_take, List.getElem?_take, if_pos hj, if_pos hj, List.getElem?_eq_getElem (by omega), List.getElem?_eq_getElem (by omega)]
        rw [List.getD_eq_getElem?_getD, List.getD_eq_getElem?_getD, List.getElem?_eq_getElem (by omega), List.getElem?_eq_getElem (by omega)] at this
        simpa using this
      · rw [List.getElem?_take, List.getElem?_take, if_neg hj, if_neg hj]
    simp only
    have ex := split_at x i (by omega)
    have ey := split_at y i (by omega)
    rw [← hpre] at ey
    generalize x.getD i 0 = a at *
    generalize y.getD i 0 = b at *
    have hl : (x.drop (i + 1)).length = (y.drop (i + 1)).length := by rw [List.length_drop, List.length_drop, hx, hy]
    by_cases hab : a < b
    · have := bnum_first (x.take i) (x.drop (i + 1)) (y.drop (i + 1)) a b hl hab
      rw [← ex, ← ey] at this
      rw [if_pos hab, if_pos this]
    · have hba : b < a := by
        have h1 : ¬ a.toNat < b.toNat := fun h => hab (UInt8.lt_iff_toNat_lt.2 h)
        have h2 : a.toNat ≠ b.toNat := fun h => hne (UInt8.toNat_inj.1 h)
        exact UInt8.lt_iff_toNat_lt.2 (by omega)
      have := bnum_first (x.take i) (y.drop (i + 1)) (x.drop (i + 1)) b a hl.symm hba
      rw [← ex, ← ey] at this
      rw [if_neg hab, if_neg (by omega), if_pos this]
theorem load_key (x : Sum) (b o : Nat) (w : World) (h : w.rangeAt b o (cellsOf x)) : (Extern.Bytes.loadBytes ⟨b, o, none⟩ 32 .empty).run Tryz.prog w = .ok ⟨x.toList.toArray⟩ w := by
  have hl := Lib.run_loadBytesX (P := Tryz.prog) w (x.toList.map fun c => ((c.toNat : Nat) : Int)) ⟨b, o, none⟩ .empty (fun j v hj => by
    rw [Addr.add_mid]
    refine h j _ ?_
    unfold cellsOf
    rw [List.getElem?_map] at hj ⊢
    obtain ⟨c, hc, rfl⟩ := Option.map_eq_some_iff.1 hj
    rw [hc]; rfl)
  have hlen : (x.toList.map fun c => ((c.toNat : Nat) : Int)).length = 32 := by simp
  rw [hlen] at hl
  rw [hl]
  congr 1
  apply ByteArray.ext
  show (#[] : Array UInt8) ++ _ = _
  have e : Lib.bytesOf (x.toList.map fun c => ((c.toNat : Nat) : Int)) = x.toList := by
    unfold Lib.bytesOf
    rw [List.map_map]
    conv => rhs; rw [← List.map_id x.toList]
    apply List.map_congr_left
    intro c _
    simp
  rw [e]; simp
theorem ext_compare (args : Array Value) (w : World) : (callFunc 121 args).run Tryz.prog w = ((Extern.BytealgCompare.compare args).run Tryz.prog w).andThen fun v w' => .ok (.value v) w' :=
  run_callFunc_extern Tryz.func121 (by kernel_rfl) (by kernel_rfl) (by kernel_rfl) (by kernel_rfl) args w
theorem run_compare (x y : Sum) (b1 o1 c1 b2 o2 c2 : Nat) (w : World) (h1 : w.rangeAt b1 o1 (cellsOf x)) (h2 : w.rangeAt b2 o2 (cellsOf y)) :
    (callFunc 121 #[.slice (some ⟨b1, o1, none⟩) 32 c1, .slice (some ⟨b2, o2, none⟩) 32 c2]).run Tryz.prog w = .ok (.value (.int .i64 (kcmp x y))) w := by
  rw [ext_compare]
  show Result.andThen (Sem.run Tryz.prog (do pure (goInt (Extern.BytealgCompare.cmp (← Extern.Bytes.bytesOf (.slice (some ⟨b1, o1, none⟩) 32 c1)) (← Extern.Bytes.bytesOf (.slice (some ⟨b2, o2, none⟩) 32 c2))))) w) _ = _
  simp only [Extern.Bytes.bytesOf, Sem.run_bind, Sem.run_pure, load_key x b1 o1 w h1, load_key y b2 o2 w h2, Result.andThen]
  rw [cmp_lists _ _ (by simp) (by simp)]
  rfl
theorem compare_any (x y : Sum) (b1 o1 c1 b2 o2 c2 : Nat) (w : World) (h1 : w.rangeAt b1 o1 (cellsOf x)) (h2 : w.rangeAt b2 o2 (cellsOf y)) :
    Calls Tryz.prog 55 #[.slice (some ⟨b1, o1, none⟩) 32 c1, .slice (some ⟨b2, o2, none⟩) 32 c2] w fun e w' => e = .returned (.int .i64 (kcmp x y)) ∧ w' = w := by
  have hrun := run_compare x y b1 o1 c1 b2 o2 c2 w h1 h2
  clear h1 h2
  generalize kcmp x y = r at *
  go_enter Tryz.func55, Tryz.ntmps55
  go_wp2_with fail
  exact bodyPost_ret (results_tmp rfl _ _ _) rfl ⟨rfl, rfl⟩
/-- A pair, as it lies: its key, its slice. -/
abbrev PE := Sum × Option Addr × Nat × Nat
def encP (x : PE) : List Value := cellsOf x.1 ++ [.slice x.2.1 x.2.2.1 x.2.2.2]
theorem length_encP (x : PE) : (encP x).length = 33 := by rw [encP, List.length_append, length_cellsOf]; rfl
theorem one_encP (x : PE) : ∀ v ∈ encP x, v.oneCell' = true := by
  intro v hv
  rcases List.mem_append.1 hv with h | h
  · exact oneCell_cellsOf _ v h
  · rw [List.mem_singleton] at h; subst h; rfl
theorem encP_key {w : World} {b o : Nat} {x : PE} (h : w.rangeAt b o (encP x)) : w.rangeAt b o (cellsOf x.1) := (range_append.1 h).1
theorem range_drew {w : World} {b o : Nat} {cs : List Value} (h : w.rangeAt b o cs) : w.drew.rangeAt b o cs := h
set_option maxRecDepth 100000 in
set_option maxHeartbeats 1000000 in
theorem porder_any (x y : PE) (W : World) : Calls Tryz.prog 54 #[.agg (encP x).toArray, .agg (encP y).toArray] W fun e w' => e = .returned (.int .i64 (kcmp x.1 y.1)) ∧ ∃ q os', w' = Sort.grow (W.drewN q) os' := by
  have hz : (W.alloc (.cells (encP x).toArray 41)).heap.size = W.heap.size + 1 := Array.size_push _
  have h1 : ((W.alloc (.cells (encP x).toArray 41)).alloc (.cells (encP y).toArray 41)).rangeAt W.heap.size 0 (encP x) := World.rangeAt_alloc (range_new W (encP x).toArray 41 _ rfl) _
  have h2 : ((W.alloc (.cells (encP x).toArray 41)).alloc (.cells (encP y).toArray 41)).rangeAt (W.heap.size + 1) 0 (encP y) := by rw [← hz]; exact range_new _ (encP y).toArray 41 _ rfl
  have H := Lib.hid (And.intro (encP_key h1) (encP_key h2))
  clear h1 h2 hz
  go_enter Tryz.func54, Tryz.ntmps54
  go_wp2_with fail
  refine wp_region_sched (fun V => V = ((W.alloc (.cells (encP x).toArray 41)).alloc (.cells (encP y).toArray 41)).drew) [.t 0, .t 1, .t 2, .t 3, .e 4 false, .t 5] (by kernel_rfl) (by kernel_rfl) (by intro c a d v w h; cases d <;> exact h) ?_
  iterate 4
    refine wpS_t rfl (v := ?_) (by rfl) (fun W => ?_) ?_
    rotate_left
    · go_simp
      try rfl
    try simp only [Act.put, List.setIfInBounds_toArray, List.set_cons_zero, List.set_cons_succ]
  refine wpS_e rfl (by rfl) (fun K hK => ?_)
  go_simp
  refine (compare_any x.1 y.1 _ _ _ _ _ _ _ (range_drew H.out.1) (range_drew H.out.2)).mono ?_
  rintro e V1 ⟨rfl, rfl⟩
  refine hK _ _ ?_; clear hK K
  try simp only [Act.put, List.setIfInBounds_toArray, List.set_cons_zero, List.set_cons_succ]
  iterate 1
    refine wpS_t rfl (v := ?_) (by rfl) (fun W => ?_) ?_
    rotate_left
    · go_simp
      try rfl
    try simp only [Act.put, List.setIfInBounds_toArray, List.set_cons_zero, List.set_cons_succ]
  refine wpS_done ?_
  go_wp2_with fail
  exact bodyPost_ret (results_tmp rfl _ _ _) rfl ⟨rfl, 1, #[.cells (encP x).toArray 41, .cells (encP y).toArray 41], by rw [Sort.alloc_eq_grow, Sort.alloc_eq_grow, Sort.grow_grow]; rfl⟩
instance : Inhabited PE := ⟨(Vector.replicate 32 0, none, 0, 0)⟩
theorem kcmp_lt (x y : Sum) : decide (kcmp x y < 0) = decide (Keys.kn x < Keys.kn y) := by
  unfold kcmp
  by_cases h : Keys.kn x < Keys.kn y
  · rw [if_pos h]; simp [h]
  · rw [if_neg h]
    by_cases h2 : Keys.kn y < Keys.kn x
    · rw [if_pos h2]; simp [h]
    · rw [if_neg h2]; simp [h]
theorem ltOf_kcmp (x y : PE) : ltOf (fun x y : PE => kcmp x.1 y.1) x y = decide (Keys.kn x.1 < Keys.kn y.1) := kcmp_lt x.1 y.1
theorem swo_kcmp : Sort.SWO (ltOf fun x y : PE => kcmp x.1 y.1) where
  irrefl x := by rw [ltOf_kcmp]; simp
  trans x y z h1 h2 := by rw [ltOf_kcmp] at *; simp at *; omega
  ntrans x y z h1 h2 := by rw [ltOf_kcmp] at *; simp at *; omega
/-- Cells of pairs. -/
def cellsP (l : List PE) : List Value := l.flatMap encP
theorem length_cellsP (l : List PE) : (cellsP l).length = 33 * l.length := by
  induction l with
  | nil => rfl
  | cons x l ih => rw [cellsP, List.flatMap_cons, List.length_append, length_encP]; rw [cellsP] at ih; rw [ih, List.length_cons]; omega
theorem oneCell_cellsP (l : List PE) : ∀ v ∈ cellsP l, v.oneCell' = true := by
  intro v hv
  obtain ⟨x, _, hx⟩ := List.mem_flatMap.1 hv
  exact one_encP x v hx
theorem cellsP_append (a b : List PE) : cellsP (a ++ b) = cellsP a ++ cellsP b := by simp [cellsP]
theorem cellsP_one (x : PE) : cellsP [x] = encP x := by simp [cellsP]
theorem cellsP_get : ∀ (l : List PE) (i j : Nat), i < l.length → j < 33 → (cellsP l)[33 * i + j]? = (encP (l.getD i default))[j]?
  | [], i, j, h, _ => by simp at h
  | x :: l, 0, j, _, hj => by
    show (encP x ++ cellsP l)[33 * 0 + j]? = _
    rw [List.getElem?_append_left (by rw [length_encP]; omega), Nat.mul_zero, Nat.zero_add]; rfl
  | x :: l, i + 1, j, h, hj => by
    show (encP x ++ cellsP l)[33 * (i + 1) + j]? = _
    rw [List.getElem?_append_right (by rw [length_encP]; omega), length_encP, show 33 * (i + 1) + j - 33 = 33 * i + j by omega, cellsP_get l i j (by simpa using h) hj]; rfl
theorem flat_cellsP (l : List PE) : (Sort.flatK encP 33 l.toArray).toList = cellsP l := by
  apply List.ext_getElem?
  intro t
  by_cases ht : t < l.length * 33
  · have h1 := Sort.get_flatK encP 33 l.toArray t (by simpa using ht)
    have hs : t < (Sort.flatK encP 33 l.toArray).size := by simpa using ht
    have hq : t / 33 < l.length := by omega
    have hr : t % 33 < 33 := Nat.mod_lt _ (by omega)
    have e := cellsP_get l (t / 33) (t % 33) hq hr
    rw [show 33 * (t / 33) + t % 33 = t by omega] at e
    rw [e, Array.getElem?_toList, Array.getElem?_eq_getElem hs]
    rw [getElem!_pos _ t hs] at h1
    rw [h1]
    have e2 : (l.toArray[t / 33]! : PE) = l.getD (t / 33) default := by
      rw [List.getElem!_toArray, List.getElem!_eq_getElem?_getD, List.getD_eq_getElem?_getD]
    rw [e2]
    have hl : t % 33 < (encP (l.getD (t / 33) default)).length := by rw [length_encP]; exact hr
    rw [List.getElem?_eq_getElem hl, getElem!_pos (encP (l.getD (t / 33) default)) (t % 33) hl]
  · rw [List.getElem?_eq_none (by simp; omega), List.getElem?_eq_none (by rw [length_cellsP]; omega)]
theorem holdsP {w : World} {g : Nat} {cur : Array Value} {e : TypeId} {l : List PE} (hb : w.heap[g]? = some (.cells cur e (0, 0))) (ht : cur.toList.take (33 * l.length) = cellsP l) : Sort.HoldsK encP 33 w g 0 l.toArray := by
  intro j hj
  have hj' : j < 33 * l.length := by simpa [Nat.mul_comm] using hj
  refine ⟨?_, by simp [World.frozen?, hb]⟩
  have h1 : (cur.toList.take (33 * l.length))[j]? = (Sort.flatK encP 33 l.toArray).toList[j]? := by rw [ht, flat_cellsP]
  rw [List.getElem?_take_of_lt hj', Array.getElem?_toList, Array.getElem?_toList, Array.getElem?_eq_getElem hj] at h1
  rw [Nat.zero_add, cell_of_row w g j cur e (0, 0) hb, h1, getElem!_pos _ j hj]; rfl
/-- Behind the sort: the row, and nothing else that was there. -/
theorem sortedP {w : World} {g cap n : Nat} {e : TypeId} {os : Array Obj} {cur : Array Value} {l l' : List PE} (hl : l'.length = l.length) (hb : w.heap[g]? = some (.cells cur e (0, 0))) (_h2 : cap ≤ maxLen) (h1 : l.length ≤ cap) (h3 : cur.size = 33 * cap) :
    (sortWorldK encP 33 w g 0 n l'.toArray os).rangeAt g 0 (cellsP l') ∧ Keeps (fun i => i = g) w (sortWorldK encP 33 w g 0 n l'.toArray os) ∧ g < (sortWorldK encP 33 w g 0 n l'.toArray os).heap.size := by
  have hg : g < w.heap.size := (Array.getElem?_eq_some_iff.1 hb).1
  have hh : (sortWorldK encP 33 w g 0 n l'.toArray os).heap[g]? = some (.cells (Sort.putCells id 0 (Sort.flatK encP 33 l'.toArray) cur) e (0, 0)) := by
    unfold sortWorldK Sort.putRowK
    rw [Sort.heap_grow_old _ _ (by simpa using hg)]
    simp [Sort.putRow, Sort.mapBlock, Sort.ahead, Array.getElem?_modify, hb, Sort.onCells]
  refine ⟨fun j v hj => ?_, ⟨rfl, rfl, rfl, by simp [sortWorldK, Sort.putRowK, Sort.grow], fun k hk hne => ?_⟩, (Array.getElem?_eq_some_iff.1 hh).1⟩
  · have hjl : j < 33 * l'.length := by rw [← length_cellsP]; exact (List.getElem?_eq_some_iff.1 hj).1
    rw [Nat.zero_add, cell_of_row _ g j _ e (0, 0) hh]
    rw [← flat_cellsP, Array.getElem?_toList] at hj
    have hjs : j < (Sort.flatK encP 33 l'.toArray).size := by simp; omega
    have hjc : j < cur.size := by omega
    rw [← hj]
    simp only [Sort.putCells, Array.getElem?_mapIdx, Array.getElem?_eq_getElem hjc, Option.map_some, Nat.zero_le, Nat.zero_add, true_and, Nat.sub_zero, if_pos hjs]
    rw [Array.getElem?_eq_getElem hjs, getElem!_pos _ j hjs]; rfl
  · unfold sortWorldK Sort.putRowK
    rw [Sort.heap_grow_old _ _ (by simpa using hk)]
    have : ¬ g = k := fun e => hne e.symm
    simp [Sort.putRow, Sort.mapBlock, Sort.ahead, Array.getElem?_modify, this]
end Go.Proofs.YtfmgoehnbaiamaaGreatDoor
-- Walks: slices.SortFunc of pairs; slices.Clip of pairs; maps: Pairs.
namespace Go.Proofs.YtfmgoehnbaiamaaGreatDoor
theorem aggPair (w : World) : (isAgg 41).run Tryz.prog w = .ok true w := Tryz.isAgg41 w
theorem sizePair (w : World) : (Go.sizeOf 41).run Tryz.prog w = .ok 33 w := Tryz.sizeOf41 w
theorem order_lays (blk off size : Nat) (w : World) : CmpLays Tryz.prog 54 #[] encP 33 (fun x y : PE => kcmp x.1 y.1) blk off size w := fun _ _ _ _ x y => porder_any x y _
theorem sort_any (w : World) (g cap : Nat) (l : List PE) (cur : Array Value) (e : TypeId) (hb : w.heap[g]? = some (.cells cur e (0, 0))) (ht : cur.toList.take (33 * l.length) = cellsP l) (h1 : l.length ≤ cap) (h2 : cap ≤ maxLen) (h3 : cur.size = 33 * cap) (hl : l.length < 1000000) :
    Calls Tryz.prog 53 #[.slice (some ⟨g, 0, none⟩) l.length cap, .func (.func 54) #[] #[]] w fun e w' => e = .returned (.tuple #[]) ∧ ∃ l', l'.Perm l ∧ l'.Pairwise (fun a b => ¬ Keys.kn b.1 < Keys.kn a.1) ∧ w'.rangeAt g 0 (cellsP l') ∧ Keeps (fun i => i = g) w w' ∧ g < w'.heap.size := by
  have eg : ∀ args w, (callFunc 54 args).run Tryz.prog w = .ok (.enter 54 args) w := enters_of Tryz.func54 (by kernel_rfl) rfl
  have hcon := AnyQ.slices_SortFunc Tryz.sortPair 33 aggPair sizePair encP length_encP one_encP (fun x y : PE => kcmp x.1 y.1) swo_kcmp 54 #[] g 0 cap l.toArray w eg (order_lays g 0 l.toArray.size w) (holdsP hb ht) (Array.getElem?_eq_some_iff.1 hb).1 (by simp; omega)
  change Calls Tryz.prog 53 _ _ _ at hcon
  rw [List.size_toArray] at hcon
  refine hcon.mono ?_
  rintro e1 w1 ⟨rfl, d', n, os, hp, hs, rfl⟩
  obtain ⟨hsz, _, hperm⟩ := hp
  have hd : d' = d'.toList.toArray := by simp
  have hlen : d'.toList.length = l.length := by simpa using hsz
  have hperm' : d'.toList.Perm l := by
    have e1 : d'.extract 0 l.length = d' := by
      rw [← hlen]; simp
    have e2 : l.toArray.extract 0 l.length = l.toArray := by simp
    rw [e1, e2] at hperm
    simpa using hperm
  obtain ⟨r1, r2, r3⟩ := sortedP (w := w) (g := g) (cap := cap) (n := n) (os := os) (l := l) (l' := d'.toList) hlen hb h2 h1 h3
  rw [← hd] at r1 r2 r3
  refine ⟨rfl, d'.toList, hperm', ?_, r1, r2, r3⟩
  rw [List.pairwise_iff_getElem]
  intro i j hi hj hij
  have := hs i j (Nat.zero_le _) hij (by omega)
  rw [ltOf_kcmp] at this
  have hi' : i < d'.size := by simpa using hi
  have hj' : j < d'.size := by simpa using hj
  rw [getElem!_pos d' i hi', getElem!_pos d' j hj'] at this
  simpa using this
/-! ### pairs in memory -/
/-- A pair's slice. -/
def peV (x : PE) : Value := .slice x.2.1 x.2.2.1 x.2.2.2
/-- A list of pairs in memory reads so. -/
def PairsAt (w : World) (v : Value) (P : List Keys.Pr) : Prop :=
  ∃ (a : Option Addr) (cap : Nat) (cs : List (PE × List UInt8)), v = .slice a P.length cap ∧ P.length ≤ cap ∧ cap ≤ maxLen ∧ cs.map (fun c => (c.1.1, c.2)) = P ∧ (∀ c ∈ cs, BytesAt w (peV c.1) c.2) ∧
    (P = [] ∨ ∃ b o, a = some ⟨b, o, none⟩ ∧ w.rangeAt b o (cellsP (cs.map Prod.fst)))
theorem cellsP_ne {l : List PE} (h : l ≠ []) : cellsP l ≠ [] := fun e => by
  have := length_cellsP l
  rw [e] at this
  exact h (List.length_eq_zero_iff.1 (by simp at this; omega))
/-- What is written holds no cells. -/
def OnMaps (X : Nat → Prop) (w : World) : Prop := ∀ k, X k → ∀ o, w.cell? ⟨k, o, none⟩ = none
theorem range_maps {X : Nat → Prop} {w : World} (hX : OnMaps X w) {b o : Nat} {cs : List Value} (h : w.rangeAt b o cs) (hne : cs ≠ []) : ¬ X b := by
  intro hx
  obtain ⟨v, r, hv⟩ := List.exists_cons_of_ne_nil hne
  have := h 0 v (by rw [hv]; rfl)
  rw [hX b hx] at this
  cases this
theorem bytes_maps {X : Nat → Prop} {w w' : World} (hX : OnMaps X w) (hk : Keeps X w w') {v : Value} {l : List UInt8} (h : BytesAt w v l) : BytesAt w' v l := by
  by_cases hl : l = []
  · subst hl
    obtain ⟨a, cap, rfl, h1, h2, _⟩ := h
    exact ⟨a, cap, rfl, h1, h2, .inl rfl⟩
  · obtain ⟨a, cap, rfl, h1, h2, h3⟩ := h
    obtain ⟨b, o, rfl, hr⟩ := h3.resolve_left hl
    have hne : cells8 l ≠ [] := by intro h; have := length_cells8 l; rw [h] at this; exact hl (List.length_eq_zero_iff.1 this.symm)
    exact ⟨_, cap, rfl, h1, h2, .inr ⟨b, o, rfl, hk.range hr (range_maps hX hr hne)⟩⟩
theorem PairsAt.maps {X : Nat → Prop} {w w' : World} {v : Value} {P : List Keys.Pr} (h : PairsAt w v P) (hX : OnMaps X w) (hk : Keeps X w w') : PairsAt w' v P := by
  obtain ⟨a, cap, cs, rfl, h1, h2, h3, h4, h5⟩ := h
  refine ⟨a, cap, cs, rfl, h1, h2, h3, fun c hc => bytes_maps hX hk (h4 c hc), ?_⟩
  rcases h5 with h5 | ⟨b, o, rfl, hr⟩
  · exact .inl h5
  · by_cases hP : P = []
    · exact .inl hP
    · have hne : cellsP (cs.map Prod.fst) ≠ [] := cellsP_ne (by
        intro e
        have : cs = [] := by simpa using e
        rw [this] at h3; exact hP h3.symm)
      exact .inr ⟨b, o, rfl, hk.range hr (range_maps hX hr hne)⟩
theorem PairsAt.below {w w' : World} {v : Value} {P : List Keys.Pr} (h : PairsAt w v P) (hb : Below w.heap.size w w') : PairsAt w' v P :=
  h.maps (X := fun _ => False) (fun _ hx => hx.elim) (Keeps.of_below hb)
theorem MapIn.maps {X : Nat → Prop} {w w' : World} {p b n : Nat} {l : List Ent} (h : MapIn w p b n l) (hX : OnMaps X w) (hk : Keeps X w w') (hb : ¬ X b) : MapIn w' p b n l := by
  refine ⟨hk.cell h.cell fun hx => ?_, ?_, h.rise, fun e he => ⟨bytes_maps hX hk (h.vals e he).1, (h.vals e he).2⟩⟩
  · have := h.cell
    rw [hX p hx] at this
    cases this
  · obtain ⟨es, c, h1, h2⟩ := h.map
    exact ⟨es, c, hk.heap h1 hb, h2⟩
theorem MapIn.on {w : World} {p b n : Nat} {l : List Ent} (h : MapIn w p b n l) : OnMaps (fun i => i = b) w := fun k hk o => by
  subst hk
  obtain ⟨es, c, hm⟩ := h.isMap
  unfold World.cell?
  simp only [hm]
theorem on_iter {H : Type} {P : Program} {k : TypeId} {R : Value → Option (DataW H × List MemPlace)} {w : World} {b r n : Nat} {D : DataW H} {left : Lit → Bool} {cnt : Nat} (h : w.ranges P k R b r n D left cnt) : OnMaps (fun i => i = r) w := fun i hi o => by
  subst hi
  obtain ⟨_, _, _, _, _, _, _, _, _, hm, _⟩ := h
  unfold World.cell?
  simp only [hm]
theorem perm_of_map {α β : Type} (f : α → β) {l m : List β} (h : l.Perm m) : ∀ cs : List α, m = cs.map f → ∃ cs' : List α, cs'.Perm cs ∧ cs'.map f = l := by
  induction h with
  | nil => intro cs hc; exact ⟨[], by simp at hc; rw [hc], rfl⟩
  | cons x _ ih =>
    intro cs hc
    cases cs with
    | nil => cases hc
    | cons c r =>
      simp only [List.map_cons, List.cons.injEq] at hc
      obtain ⟨cs', h1, h2⟩ := ih r hc.2
      exact ⟨c :: cs', h1.cons c, by rw [List.map_cons, h2, hc.1]⟩
  | swap x y r =>
    intro cs hc
    match cs, hc with
    | c :: d :: r', hc =>
      simp only [List.map_cons, List.cons.injEq] at hc
      exact ⟨d :: c :: r', List.Perm.swap c d r', by rw [List.map_cons, List.map_cons, ← hc.1, ← hc.2.1, ← hc.2.2]⟩
  | trans _ _ ih1 ih2 =>
    intro cs hc
    obtain ⟨c2, h1, h2⟩ := ih2 cs hc
    obtain ⟨c1, h3, h4⟩ := ih1 c2 h2.symm
    exact ⟨c1, h3.trans h1, h4⟩
/-! ### Pairs: what was collected on the way through the map -/
structure Coll (l : List Ent) (left : Lit → Bool) (cs : List (PE × List UInt8)) : Prop where
  mem : ∀ c ∈ cs, (c.1.1, c.2) ∈ prs l ∧ left (.string c.1.1.toList) = false
  apart : cs.Pairwise fun a b => a.1.1 ≠ b.1.1
  all : ∀ p ∈ l, left (.string p.1.toList) = true ∨ ∃ c ∈ cs, c.1.1 = p.1
theorem has_enc {l : List Ent} {p : Ent} (hp : p ∈ l) : Maps.has (encD l) (.string p.1.toList) = true := by
  unfold encD Maps.has
  rw [List.any_eq_true]
  exact ⟨encE p, List.mem_map.2 ⟨p, hp, rfl⟩, by show (p.1.toList == p.1.toList) = true; simp⟩
theorem Coll.start (l : List Ent) : Coll l (Maps.has (encD l)) [] := ⟨fun _ h => (List.not_mem_nil h).elim, List.Pairwise.nil, fun _ hp => .inl (has_enc hp)⟩
theorem same_str (a b : Sum) : Lit.sameKey (.string a.toList) (.string b.toList) = decide (a = b) := by
  show (a.toList == b.toList) = _
  by_cases h : a = b
  · subst h; simp
  · have : a.toList ≠ b.toList := fun e => h (toList_inj e)
    simp [h]
theorem Coll.step {l : List Ent} {left : Lit → Bool} {cs : List (PE × List UInt8)} (h : Coll l left cs) {x : Sum} {c : PE × List UInt8} (hl : left (.string x.toList) = true) (hx : c.1.1 = x) (hm : (x, c.2) ∈ prs l) :
    Coll l (fun z => left z && !z.sameKey (.string x.toList)) (cs ++ [c]) := by
  refine ⟨fun d hd => ?_, ?_, fun p hp => ?_⟩
  · rcases List.mem_append.1 hd with hd | hd
    · obtain ⟨h1, h2⟩ := h.mem d hd
      exact ⟨h1, by rw [h2]; rfl⟩
    · rw [List.mem_singleton] at hd
      subst hd
      refine ⟨by rw [hx]; exact hm, ?_⟩
      rw [hx, same_str]; simp
  · rw [List.pairwise_append]
    refine ⟨h.apart, List.pairwise_singleton _ _, fun a ha b hb e => ?_⟩
    rw [List.mem_singleton] at hb
    subst hb
    have := (h.mem a ha).2
    rw [e, hx, hl] at this
    cases this
  · by_cases e : p.1 = x
    · exact .inr ⟨c, List.mem_append_right _ (List.mem_singleton.2 rfl), by rw [hx, e]⟩
    · rcases h.all p hp with h1 | ⟨d, hd, h2⟩
      · exact .inl (by rw [h1, same_str]; simp [e])
      · exact .inr ⟨d, List.mem_append_left _ hd, h2⟩
theorem Coll.done {l : List Ent} {left : Lit → Bool} {cs cs' : List (PE × List UInt8)} (h : Coll l left cs) (hl : ∀ z, left z = false) (hr : Keys.Rise l) (hp : cs'.Perm cs) (hs : cs'.Pairwise fun a b => ¬ Keys.kn b.1.1 < Keys.kn a.1.1) :
    cs'.map (fun c => (c.1.1, c.2)) = prs l := by
  have hrise : Keys.Rise (cs'.map fun c => (c.1.1, c.2)) := by
    unfold Keys.Rise
    rw [List.pairwise_map]
    have ha : cs'.Pairwise fun a b => a.1.1 ≠ b.1.1 := (hp.pairwise_iff (fun {_ _} hne => Ne.symm hne)).2 h.apart
    refine (hs.and ha).imp fun {a b} hab => ?_
    have : Keys.kn a.1.1 ≠ Keys.kn b.1.1 := fun e => hab.2 (Keys.kn_inj e)
    have := hab.1
    show Keys.kn a.1.1 < Keys.kn b.1.1
    omega
  refine Keys.rise_ext hrise (prs_rise hr) fun p => ?_
  constructor
  · intro hm
    obtain ⟨c, hc, rfl⟩ := List.mem_map.1 hm
    exact (h.mem c (hp.mem_iff.1 hc)).1
  · intro hm
    obtain ⟨e, he, rfl⟩ := List.mem_map.1 hm
    rcases h.all e he with h1 | ⟨c, hc, h2⟩
    · rw [hl] at h1; cases h1
    · refine List.mem_map.2 ⟨c, hp.mem_iff.2 hc, ?_⟩
      have h3 := (h.mem c hc).1
      have h4 := Keys.rise_key (prs_rise hr) h3 hm h2
      exact h4
theorem at_found {l : List Ent} {x : Sum} {v : Value} (h : ∀ zd, (encD l).atKey (.string x.toList) zd = .held v) : ∃ p ∈ l, p.1 = x ∧ p.2.1 = v := by
  have h1 := h .nil
  unfold encD DataW.atKey at h1
  simp only at h1
  rw [List.find?_map] at h1
  have e : ((fun p : Lit × DataW Value => p.1.sameKey (.string x.toList)) ∘ encE) = fun p : Ent => decide (p.1 = x) := by
    funext p; exact same_str p.1 x
  rw [e] at h1
  cases hf : l.find? (fun p => decide (p.1 = x)) with
  | none => rw [hf] at h1; cases h1
  | some p =>
    rw [hf] at h1
    refine ⟨p, List.mem_of_find?_eq_some hf, by simpa using List.find?_some hf, ?_⟩
    have : DataW.held p.2.1 = DataW.held v := h1
    cases this
    rfl
end Go.Proofs.YtfmgoehnbaiamaaGreatDoor
