/-
  Walks: bytes.Compare of two keys; the order of pairs.
-/
import Derived.Test.YtfmgoehnbaiamaaU4
import Derived.Test.YtfmgoehnbaiamaaSortShelf
import Derived.Laws.Externs
import Derived.Lib.BytesEntry
open Go Go.RowKit Alm
namespace Go.Proofs.Ytfmgoehnbaiamaa
/-- Which key stands ahead. -/
def kcmp (x y : Sum) : Int := if Keys.kn x < Keys.kn y then -1 else if Keys.kn y < Keys.kn x then 1 else 0
theorem bnum_first (p r s : List UInt8) (a b : UInt8) (hl : r.length = s.length) (h : a < b) : Fast.bnum (p ++ [a] ++ r) < Fast.bnum (p ++ [b] ++ s) := by
  rw [Fast.bnum_append, Fast.bnum_append, Fast.bnum_append, Fast.bnum_append, hl]
  have h1 := Fast.bnum_lt r
  have h2 := Fast.bnum_lt s
  rw [hl] at h1
  have e1 : Fast.bnum [a] = a.toNat := by simp [Fast.bnum]
  have e2 : Fast.bnum [b] = b.toNat := by simp [Fast.bnum]
  rw [e1, e2]
  have hab : a.toNat < b.toNat := UInt8.lt_iff_toNat_lt.1 h
  generalize 256 ^ s.length = M at *
  simp only [List.length_singleton]
  generalize Fast.bnum p * 256 ^ 1 = P at *
  have : (P + a.toNat) * M + M ≤ (P + b.toNat) * M := by
    rw [← Nat.succ_mul]; exact Nat.mul_le_mul_right _ (by omega)
  omega
theorem split_at (x : List UInt8) (i : Nat) (h : i < x.length) : x = x.take i ++ [x.getD i 0] ++ x.drop (i + 1) := by
  rw [List.getD_eq_getElem?_getD, List.getElem?_eq_getElem h, Option.getD_some, List.append_assoc, List.singleton_append, ← List.drop_eq_getElem_cons h, List.take_append_drop]
theorem cmp_lists (x y : List UInt8) (hx : x.length = 32) (hy : y.length = 32) : Extern.BytealgCompare.cmp ⟨x.toArray⟩ ⟨y.toArray⟩ = if Fast.bnum x < Fast.bnum y then -1 else if Fast.bnum y < Fast.bnum x then 1 else 0 := by
  have gx : ∀ i, (⟨x.toArray⟩ : ByteArray)[i]! = x.getD i 0 := fun i => by
    by_cases h : i < x.length
    · rw [getElem!_pos _ i (show i < (⟨x.toArray⟩ : ByteArray).size from by show i < x.toArray.size; simpa using h), List.getD_eq_getElem?_getD, List.getElem?_eq_getElem h]; rfl
    · rw [getElem!_neg _ i (show ¬ i < (⟨x.toArray⟩ : ByteArray).size from by show ¬ i < x.toArray.size; simpa using h), List.getD_eq_getElem?_getD, List.getElem?_eq_none (by omega)]; rfl
  have gy : ∀ i, (⟨y.toArray⟩ : ByteArray)[i]! = y.getD i 0 := fun i => by
    by_cases h : i < y.length
    · rw [getElem!_pos _ i (show i < (⟨y.toArray⟩ : ByteArray).size from by show i < y.toArray.size; simpa using h), List.getD_eq_getElem?_getD, List.getElem?_eq_getElem h]; rfl
    · rw [getElem!_neg _ i (show ¬ i < (⟨y.toArray⟩ : ByteArray).size from by show ¬ i < y.toArray.size; simpa using h), List.getD_eq_getElem?_getD, List.getElem?_eq_none (by omega)]; rfl
  have sx : (⟨x.toArray⟩ : ByteArray).size = 32 := by show x.toArray.size = 32; simp [hx]
  have sy : (⟨y.toArray⟩ : ByteArray).size = 32 := by show y.toArray.size = 32; simp [hy]
  unfold Extern.BytealgCompare.cmp
  simp only [gx, gy, sx, sy, Nat.min_self, Nat.lt_irrefl, if_false]
  cases hf : (List.range 32).find? fun i => x.getD i 0 != y.getD i 0 with
  | none =>
    have e : x = y := by
      apply List.ext_getElem?
      intro i
      by_cases hi : i < 32
      · have := List.find?_eq_none.1 hf i (List.mem_range.2 hi)
        simp only [bne_iff_ne, ne_eq, Decidable.not_not] at this
        rw [List.getD_eq_getElem?_getD, List.getD_eq_getElem?_getD, List.getElem?_eq_getElem (by omega), List.getElem?_eq_getElem (by omega)] at this
        rw [List.getElem?_eq_getElem (by omega), List.getElem?_eq_getElem (by omega)]
        simpa using this
      · rw [List.getElem?_eq_none (by omega), List.getElem?_eq_none (by omega)]
    subst e
    simp
  | some i =>
    have hm := List.mem_of_find?_eq_some hf
    have hi : i < 32 := List.mem_range.1 hm
    have hne := List.find?_some hf
    simp only [bne_iff_ne, ne_eq] at hne
    have hpre : x.take i = y.take i := by
      obtain ⟨l1, l2, e1, e2⟩ := List.find?_eq_some_iff_append.1 hf |>.2
      have hl1 : l1.length = i := by
        have h3 : (List.range 32)[l1.length]? = some i := by rw [e1]; simp
        rw [List.getElem?_range (by
          have := congrArg List.length e1
          simp at this
          omega)] at h3
        simpa using h3
      apply List.ext_getElem?
      intro j
      by_cases hj : j < i
      · have hjm : j ∈ l1 := by
          have h3 : (List.range 32)[j]? = some j := List.getElem?_range (by omega)
          rw [e1, List.getElem?_append_left (by omega)] at h3
          exact List.mem_of_getElem? h3
        have := e2 j hjm
        simp only [Bool.not_eq_true', bne_eq_false_iff_eq] at this
        rw [List.getElem?_take, List.getElem?_take, if_pos hj, if_pos hj, List.getElem?_eq_getElem (by omega), List.getElem?_eq_getElem (by omega)]
        rw [List.getD_eq_getElem?_getD, List.getD_eq_getElem?_getD, List.getElem?_eq_getElem (by omega), List.getElem?_eq_getElem (by omega)] at this
        simpa using this
      · rw [List.getElem?_take, List.getElem?_take, if_neg hj, if_neg hj]
    simp only
    have ex := split_at x i (by omega)
    have ey := split_at y i (by omega)
    rw [← hpre] at ey
    generalize x.getD i 0 = a at *
    generalize y.getD i 0 = b at *
    have hl : (x.drop (i + 1)).length = (y.drop (i + 1)).length := by rw [List.length_drop, List.length_drop, hx, hy]
    by_cases hab : a < b
    · have := bnum_first (x.take i) (x.drop (i + 1)) (y.drop (i + 1)) a b hl hab
      rw [← ex, ← ey] at this
      rw [if_pos hab, if_pos this]
    · have hba : b < a := by
        have h1 : ¬ a.toNat < b.toNat := fun h => hab (UInt8.lt_iff_toNat_lt.2 h)
        have h2 : a.toNat ≠ b.toNat := fun h => hne (UInt8.toNat_inj.1 h)
        exact UInt8.lt_iff_toNat_lt.2 (by omega)
      have := bnum_first (x.take i) (y.drop (i + 1)) (x.drop (i + 1)) b a hl.symm hba
      rw [← ex, ← ey] at this
      rw [if_neg hab, if_neg (by omega), if_pos this]
theorem load_key (x : Sum) (b o : Nat) (w : World) (h : w.rangeAt b o (cellsOf x)) : (Extern.Bytes.loadBytes ⟨b, o, none⟩ 32 .empty).run Try.prog w = .ok ⟨x.toList.toArray⟩ w := by
  have hl := Lib.run_loadBytesX (P := Try.prog) w (x.toList.map fun c => ((c.toNat : Nat) : Int)) ⟨b, o, none⟩ .empty (fun j v hj => by
    rw [Addr.add_mid]
    refine h j _ ?_
    unfold cellsOf
    rw [List.getElem?_map] at hj ⊢
    obtain ⟨c, hc, rfl⟩ := Option.map_eq_some_iff.1 hj
    rw [hc]; rfl)
  have hlen : (x.toList.map fun c => ((c.toNat : Nat) : Int)).length = 32 := by simp
  rw [hlen] at hl
  rw [hl]
  congr 1
  apply ByteArray.ext
  show (#[] : Array UInt8) ++ _ = _
  have e : Lib.bytesOf (x.toList.map fun c => ((c.toNat : Nat) : Int)) = x.toList := by
    unfold Lib.bytesOf
    rw [List.map_map]
    conv => rhs; rw [← List.map_id x.toList]
    apply List.map_congr_left
    intro c _
    simp
  rw [e]; simp
theorem ext_compare (args : Array Value) (w : World) : (callFunc 76 args).run Try.prog w = ((Extern.BytealgCompare.compare args).run Try.prog w).andThen fun v w' => .ok (.value v) w' :=
  run_callFunc_extern Try.func76 (by kernel_rfl) (by kernel_rfl) (by kernel_rfl) (by kernel_rfl) args w
theorem run_compare (x y : Sum) (b1 o1 c1 b2 o2 c2 : Nat) (w : World) (h1 : w.rangeAt b1 o1 (cellsOf x)) (h2 : w.rangeAt b2 o2 (cellsOf y)) :
    (callFunc 76 #[.slice (some ⟨b1, o1, none⟩) 32 c1, .slice (some ⟨b2, o2, none⟩) 32 c2]).run Try.prog w = .ok (.value (.int .i64 (kcmp x y))) w := by
  rw [ext_compare]
  show Result.andThen (Sem.run Try.prog (do pure (goInt (Extern.BytealgCompare.cmp (← Extern.Bytes.bytesOf (.slice (some ⟨b1, o1, none⟩) 32 c1)) (← Extern.Bytes.bytesOf (.slice (some ⟨b2, o2, none⟩) 32 c2))))) w) _ = _
  simp only [Extern.Bytes.bytesOf, Sem.run_bind, Sem.run_pure, load_key x b1 o1 w h1, load_key y b2 o2 w h2, Result.andThen]
  rw [cmp_lists _ _ (by simp) (by simp)]
  rfl
theorem compare_any (x y : Sum) (b1 o1 c1 b2 o2 c2 : Nat) (w : World) (h1 : w.rangeAt b1 o1 (cellsOf x)) (h2 : w.rangeAt b2 o2 (cellsOf y)) :
    Calls Try.prog 54 #[.slice (some ⟨b1, o1, none⟩) 32 c1, .slice (some ⟨b2, o2, none⟩) 32 c2] w fun e w' => e = .returned (.int .i64 (kcmp x y)) ∧ w' = w := by
  have hrun := run_compare x y b1 o1 c1 b2 o2 c2 w h1 h2
  clear h1 h2
  generalize kcmp x y = r at *
  go_enter Try.func54, Try.ntmps54
  go_wp2_with fail
  exact bodyPost_ret (results_tmp rfl _ _ _) rfl ⟨rfl, rfl⟩
/-- A pair, as it lies: its key, its slice. -/
abbrev PE := Sum × Option Addr × Nat × Nat
def encP (x : PE) : List Value := cellsOf x.1 ++ [.slice x.2.1 x.2.2.1 x.2.2.2]
theorem length_encP (x : PE) : (encP x).length = 33 := by rw [encP, List.length_append, length_cellsOf]; rfl
theorem one_encP (x : PE) : ∀ v ∈ encP x, v.oneCell' = true := by
  intro v hv
  rcases List.mem_append.1 hv with h | h
  · exact oneCell_cellsOf _ v h
  · rw [List.mem_singleton] at h; subst h; rfl
theorem encP_key {w : World} {b o : Nat} {x : PE} (h : w.rangeAt b o (encP x)) : w.rangeAt b o (cellsOf x.1) := (range_append.1 h).1
theorem range_drew {w : World} {b o : Nat} {cs : List Value} (h : w.rangeAt b o cs) : w.drew.rangeAt b o cs := h
set_option maxRecDepth 100000 in
set_option maxHeartbeats 1000000 in
theorem porder_any (x y : PE) (W : World) : Calls Try.prog 53 #[.agg (encP x).toArray, .agg (encP y).toArray] W fun e w' => e = .returned (.int .i64 (kcmp x.1 y.1)) ∧ ∃ q os', w' = Sort.grow (W.drewN q) os' := by
  have hz : (W.alloc (.cells (encP x).toArray 36)).heap.size = W.heap.size + 1 := Array.size_push _
  have h1 : ((W.alloc (.cells (encP x).toArray 36)).alloc (.cells (encP y).toArray 36)).rangeAt W.heap.size 0 (encP x) := World.rangeAt_alloc (range_new W (encP x).toArray 36 _ rfl) _
  have h2 : ((W.alloc (.cells (encP x).toArray 36)).alloc (.cells (encP y).toArray 36)).rangeAt (W.heap.size + 1) 0 (encP y) := by rw [← hz]; exact range_new _ (encP y).toArray 36 _ rfl
  have H := Lib.hid (And.intro (encP_key h1) (encP_key h2))
  clear h1 h2 hz
  go_enter Try.func53, Try.ntmps53
  go_wp2_with fail
  refine wp_region_sched (fun V => V = ((W.alloc (.cells (encP x).toArray 36)).alloc (.cells (encP y).toArray 36)).drew) [.t 0, .t 1, .t 2, .t 3, .e 4 false, .t 5] (by kernel_rfl) (by kernel_rfl) (by intro c a d v w h; cases d <;> exact h) ?_
  iterate 4
    refine wpS_t rfl (v := ?_) (by rfl) (fun W => ?_) ?_
    rotate_left
    · go_simp
      try rfl
    try simp only [Act.put, List.setIfInBounds_toArray, List.set_cons_zero, List.set_cons_succ]
  refine wpS_e rfl (by rfl) (fun K hK => ?_)
  go_simp
  refine (compare_any x.1 y.1 _ _ _ _ _ _ _ (range_drew H.out.1) (range_drew H.out.2)).mono ?_
  rintro e V1 ⟨rfl, rfl⟩
  refine hK _ _ ?_; clear hK K
  try simp only [Act.put, List.setIfInBounds_toArray, List.set_cons_zero, List.set_cons_succ]
  iterate 1
    refine wpS_t rfl (v := ?_) (by rfl) (fun W => ?_) ?_
    rotate_left
    · go_simp
      try rfl
    try simp only [Act.put, List.setIfInBounds_toArray, List.set_cons_zero, List.set_cons_succ]
  refine wpS_done ?_
  go_wp2_with fail
  exact bodyPost_ret (results_tmp rfl _ _ _) rfl ⟨rfl, 1, #[.cells (encP x).toArray 36, .cells (encP y).toArray 36], by rw [Sort.alloc_eq_grow, Sort.alloc_eq_grow, Sort.grow_grow]; rfl⟩
instance : Inhabited PE := ⟨(Vector.replicate 32 0, none, 0, 0)⟩
theorem kcmp_lt (x y : Sum) : decide (kcmp x y < 0) = decide (Keys.kn x < Keys.kn y) := by
  unfold kcmp
  by_cases h : Keys.kn x < Keys.kn y
  · rw [if_pos h]; simp [h]
  · rw [if_neg h]
    by_cases h2 : Keys.kn y < Keys.kn x
    · rw [if_pos h2]; simp [h]
    · rw [if_neg h2]; simp [h]
theorem ltOf_kcmp (x y : PE) : ltOf (fun x y : PE => kcmp x.1 y.1) x y = decide (Keys.kn x.1 < Keys.kn y.1) := kcmp_lt x.1 y.1
theorem swo_kcmp : Sort.SWO (ltOf fun x y : PE => kcmp x.1 y.1) where
  irrefl x := by rw [ltOf_kcmp]; simp
  trans x y z h1 h2 := by rw [ltOf_kcmp] at *; simp at *; omega
  ntrans x y z h1 h2 := by rw [ltOf_kcmp] at *; simp at *; omega
/-- Cells of pairs. -/
def cellsP (l : List PE) : List Value := l.flatMap encP
theorem length_cellsP (l : List PE) : (cellsP l).length = 33 * l.length := by
  induction l with
  | nil => rfl
  | cons x l ih => rw [cellsP, List.flatMap_cons, List.length_append, length_encP]; rw [cellsP] at ih; rw [ih, List.length_cons]; omega
theorem oneCell_cellsP (l : List PE) : ∀ v ∈ cellsP l, v.oneCell' = true := by
  intro v hv
  obtain ⟨x, _, hx⟩ := List.mem_flatMap.1 hv
  exact one_encP x v hx
theorem cellsP_append (a b : List PE) : cellsP (a ++ b) = cellsP a ++ cellsP b := by simp [cellsP]
theorem cellsP_one (x : PE) : cellsP [x] = encP x := by simp [cellsP]
theorem cellsP_get : ∀ (l : List PE) (i j : Nat), i < l.length → j < 33 → (cellsP l)[33 * i + j]? = (encP (l.getD i default))[j]?
  | [], i, j, h, _ => by simp at h
  | x :: l, 0, j, _, hj => by
    show (encP x ++ cellsP l)[33 * 0 + j]? = _
    rw [List.getElem?_append_left (by rw [length_encP]; omega), Nat.mul_zero, Nat.zero_add]; rfl
  | x :: l, i + 1, j, h, hj => by
    show (encP x ++ cellsP l)[33 * (i + 1) + j]? = _
    rw [List.getElem?_append_right (by rw [length_encP]; omega), length_encP, show 33 * (i + 1) + j - 33 = 33 * i + j by omega, cellsP_get l i j (by simpa using h) hj]; rfl
theorem flat_cellsP (l : List PE) : (Sort.flatK encP 33 l.toArray).toList = cellsP l := by
  apply List.ext_getElem?
  intro t
  by_cases ht : t < l.length * 33
  · have h1 := Sort.get_flatK encP 33 l.toArray t (by simpa using ht)
    have hs : t < (Sort.flatK encP 33 l.toArray).size := by simpa using ht
    have hq : t / 33 < l.length := by omega
    have hr : t % 33 < 33 := Nat.mod_lt _ (by omega)
    have e := cellsP_get l (t / 33) (t % 33) hq hr
    rw [show 33 * (t / 33) + t % 33 = t by omega] at e
    rw [e, Array.getElem?_toList, Array.getElem?_eq_getElem hs]
    rw [getElem!_pos _ t hs] at h1
    rw [h1]
    have e2 : (l.toArray[t / 33]! : PE) = l.getD (t / 33) default := by
      rw [List.getElem!_toArray, List.getElem!_eq_getElem?_getD, List.getD_eq_getElem?_getD]
    rw [e2]
    have hl : t % 33 < (encP (l.getD (t / 33) default)).length := by rw [length_encP]; exact hr
    rw [List.getElem?_eq_getElem hl, getElem!_pos (encP (l.getD (t / 33) default)) (t % 33) hl]
  · rw [List.getElem?_eq_none (by simp; omega), List.getElem?_eq_none (by rw [length_cellsP]; omega)]
theorem holdsP {w : World} {g : Nat} {cur : Array Value} {e : TypeId} {l : List PE} (hb : w.heap[g]? = some (.cells cur e (0, 0))) (ht : cur.toList.take (33 * l.length) = cellsP l) : Sort.HoldsK encP 33 w g 0 l.toArray := by
  intro j hj
  have hj' : j < 33 * l.length := by simpa [Nat.mul_comm] using hj
  refine ⟨?_, by simp [World.frozen?, hb]⟩
  have h1 : (cur.toList.take (33 * l.length))[j]? = (Sort.flatK encP 33 l.toArray).toList[j]? := by rw [ht, flat_cellsP]
  rw [List.getElem?_take_of_lt hj', Array.getElem?_toList, Array.getElem?_toList, Array.getElem?_eq_getElem hj] at h1
  rw [Nat.zero_add, cell_of_row w g j cur e (0, 0) hb, h1, getElem!_pos _ j hj]; rfl
/-- Behind the sort: the row, and nothing else that was there. -/
theorem sortedP {w : World} {g cap n : Nat} {e : TypeId} {os : Array Obj} {cur : Array Value} {l l' : List PE} (hl : l'.length = l.length) (hb : w.heap[g]? = some (.cells cur e (0, 0))) (_h2 : cap ≤ maxLen) (h1 : l.length ≤ cap) (h3 : cur.size = 33 * cap) :
    (sortWorldK encP 33 w g 0 n l'.toArray os).rangeAt g 0 (cellsP l') ∧ Keeps (fun i => i = g) w (sortWorldK encP 33 w g 0 n l'.toArray os) ∧ g < (sortWorldK encP 33 w g 0 n l'.toArray os).heap.size := by
  have hg : g < w.heap.size := (Array.getElem?_eq_some_iff.1 hb).1
  have hh : (sortWorldK encP 33 w g 0 n l'.toArray os).heap[g]? = some (.cells (Sort.putCells id 0 (Sort.flatK encP 33 l'.toArray) cur) e (0, 0)) := by
    unfold sortWorldK Sort.putRowK
    rw [Sort.heap_grow_old _ _ (by simpa using hg)]
    simp [Sort.putRow, Sort.mapBlock, Sort.ahead, Array.getElem?_modify, hb, Sort.onCells]
  refine ⟨fun j v hj => ?_, ⟨rfl, rfl, rfl, by simp [sortWorldK, Sort.putRowK, Sort.grow], fun k hk hne => ?_⟩, (Array.getElem?_eq_some_iff.1 hh).1⟩
  · have hjl : j < 33 * l'.length := by rw [← length_cellsP]; exact (List.getElem?_eq_some_iff.1 hj).1
    rw [Nat.zero_add, cell_of_row _ g j _ e (0, 0) hh]
    rw [← flat_cellsP, Array.getElem?_toList] at hj
    have hjs : j < (Sort.flatK encP 33 l'.toArray).size := by simp; omega
    have hjc : j < cur.size := by omega
    rw [← hj]
    simp only [Sort.putCells, Array.getElem?_mapIdx, Array.getElem?_eq_getElem hjc, Option.map_some, Nat.zero_le, Nat.zero_add, true_and, Nat.sub_zero, if_pos hjs]
    rw [Array.getElem?_eq_getElem hjs, getElem!_pos _ j hjs]; rfl
  · unfold sortWorldK Sort.putRowK
    rw [Sort.heap_grow_old _ _ (by simpa using hk)]
    have : ¬ g = k := fun e => hne e.symm
    simp [Sort.putRow, Sort.mapBlock, Sort.ahead, Array.getElem?_modify, this]
end Go.Proofs.Ytfmgoehnbaiamaa
