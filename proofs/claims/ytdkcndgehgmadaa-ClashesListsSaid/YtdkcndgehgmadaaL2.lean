/-
  Walks: clashes.cut, sides, pair.bytes, apart.
-/
import Derived.Test.YtdkcndgehgmadaaL1
open Go Go.RowKit Alm
namespace Go.Proofs.Ytdkcndgehgmadaa
theorem ccut_any (n : Nat) (w : World) (h2 : 2 ≤ n) (hn : n < 4000000000) : Calls Try.prog 97 #[.int .i64 (n : Int)] w fun e w' => e = .returned (.int .i64 (cut n : Int)) ∧ w = w' := by
  obtain ⟨q, hq⟩ : ∃ q, q = (n - 1).log2 := ⟨_, rfl⟩
  have hE : (((n : Int) - 1).toNat).log2 = q := by rw [hq]; congr 1; omega
  have q62 : q < 32 := by
    rw [hq]
    exact (Nat.log2_lt (by omega)).2 (by omega)
  have q62' : (q : Int) < 32 := by omega
  have q0 : (0 : Int) ≤ (q : Int) := by omega
  have m1 : 1 ≤ (n : Int) - 1 := by omega
  have m2 : (n : Int) - 1 ≤ 18446744073709551615 := by omega
  have hk : cut n = 2 ^ q := by rw [hq]; rfl
  have hkl : cut n < n := cut_lt h2
  obtain ⟨k, hkd⟩ : ∃ k, k = cut n := ⟨_, rfl⟩
  rw [← hkd] at hk hkl ⊢
  have HE := Lib.hid hE; clear hE hq
  have M2 := Lib.hid m2; clear m2
  have HK := Lib.hid hk; clear hk hkd
  go_enter Try.func97, Try.ntmps97
  go_wp2_with (go_at_call 63; refine (len_pos _ _ m1 M2.out).mono ?_; rw [HE.out]; rintro e w1 ⟨rfl, rfl⟩)
  have pw : wrap64 ((2 : Int) ^ q) = (k : Int) := by
    have h1 : (2 : Int) ^ q = (k : Int) := by rw [HK.out]; push_cast; rfl
    rw [h1]
    unfold wrap64
    omega
  exact bodyPost_ret (results_tmp rfl _ _ _) rfl ⟨by rw [← pw]; rfl, rfl⟩
theorem ListsAt.drop {w : World} {b o n cap : Nat} {ls : List (List UInt8)} (h : ListsAt w (.slice (some ⟨b, o, none⟩) n cap) ls) (k c2 : Nat) (hk : k ≤ ls.length) (hc : ls.length - k ≤ c2) (hc2 : c2 ≤ maxLen) : ListsAt w (.slice (some ⟨b, o + k, none⟩) (ls.length - k) c2) (ls.drop k) := by
  refine ⟨_, c2, by rw [List.length_drop], by rw [List.length_drop]; exact hc, hc2, .inr ⟨b, o + k, rfl, fun j hj => ?_⟩⟩
  rw [List.length_drop] at hj
  obtain ⟨u, h1, h2⟩ := h.cell (sp := none) (j := k + j) (by omega)
  exact ⟨u, by rw [Nat.add_assoc]; exact h1, by rw [List.getElem_drop]; exact h2⟩
/-- Two sums, as a pair. -/
def cellsP (x y : Sum) : List Value := cellsOf x ++ cellsOf y
abbrev pv (x y : Sum) : Value := .agg (cellsP x y).toArray
theorem length_cellsP (x y : Sum) : (cellsP x y).length = 64 := by simp [cellsP, length_cellsOf]
theorem all_cellsP (x y : Sum) : (cellsP x y).toArray.all (·.oneCell') = true := all_oneCell_toArray (fun v hv => by
  rcases List.mem_append.1 hv with h | h
  · exact oneCell_cellsOf x v h
  · exact oneCell_cellsOf y v h)
theorem infoPair : (Try.prog.info? 132).map (·.size) = some 64 := by kernel_rfl
theorem infoPairZ : (Try.prog.info? 132).map (fun i => i.zero.map fun z => z.cells.size) = some (some 64) := by kernel_rfl
set_option maxRecDepth 100000 in
theorem build_pair (x y : Sum) (w : World) : (Instr.build 132 #[(0, .agg (cellsOf x).toArray), (1, .agg (cellsOf y).toArray)]).run Try.prog w = .ok (pv x y) w := by
  obtain ⟨ib, hib, hzb⟩ := Option.map_eq_some_iff.1 infoPairZ
  obtain ⟨zb, hz, hzs⟩ := Option.map_eq_some_iff.1 hzb
  obtain ⟨i, z, hi, hz1, hs, hb, hz2⟩ := info_sum
  refine run_build w _ _ _ ?_
  unfold Program.built
  simp only [hib, Try.underlying132, hz, hi, hs]
  have := Great.fill_whole (s := 32) (by omega) [sv x, sv y] zb.cells (fun v hv => by
    rcases List.mem_cons.1 hv with rfl | hv
    · exact size_cellsOf x
    · rw [List.mem_singleton.1 hv]; exact size_cellsOf y) (by rw [hzs]; rfl)
  refine this.trans ?_
  congr 1
  simp [cellsP, Value.cells]
theorem exec_build_pair {f : Operand → Value} {o : Oper} (parts : Array (Nat × Operand)) (ho : o.op = .build 132 parts) (x y : Sum) (hp : (parts.toList.map fun (i, x) => (i, f x)) = [(0, sv x), (1, sv y)]) (W : World) :
    (execOp f o).run Try.prog W = .ok (.value (pv x y)) W := by
  have : (parts.map fun (i, x) => (i, f x)) = #[(0, sv x), (1, sv y)] := by
    apply Array.toList_inj.1
    rw [Array.toList_map]; exact hp
  unfold execOp
  simp only [ho, Sem.run_bind, Sem.run_pure, Result.andThen_ok, this, build_pair]
theorem wp_store_pair {op : Oper} {a : Act} {w : World} {K : Act → World → Prop} {Q : Exit → Act → World → Prop} (x y : Operand) (ho : op.op = .store 132 x y)
    (b o : Nat) (s t : Sum) (hx : a.eval x = .pointer (some ⟨b, o, none⟩)) (hy : a.eval y = pv s t) (ht : w.there b o 64) (h : K (a.put op.dst undef) (w.setCells b o (cellsP s t))) : op.wp Try.prog a w K Q :=
  wp_store_mid _ x y ho b o _ hx hy (by simpa [length_cellsP] using ht) (by simpa [length_cellsP] using infoPair) (all_cellsP s t) h
theorem wpList_load_pair {ops : Array Oper} {rest : List Oper} {op : Oper} {a : Act} {w : World} {Q : Exit → Act → World → Prop} (hgd : op.guard = none) (x : Operand) (ho : op.op = .load 132 x)
    (b o : Nat) (hx : a.eval x = .pointer (some ⟨b, o, none⟩)) (s t : Sum) (hc : w.rangeAt b o (cellsP s t))
    (h : wpList Try.prog ops Q rest (a.put op.dst (pv s t)) w) : wpList Try.prog ops Q (op :: rest) a w :=
  wpList_load_mid hgd _ x ho b o hx (cellsP s t) _ hc Try.underlying132 rfl (by rw [length_cellsP]; exact infoPair) h
theorem take_cellsP (x y : Sum) : (cellsP x y).take 32 = cellsOf x := by
  rw [cellsP, List.take_append, List.take_of_length_le (by rw [length_cellsOf]; exact Nat.le_refl _), length_cellsOf, Nat.sub_self, List.take_zero, List.append_nil]
theorem drop_cellsP (x y : Sum) : ((cellsP x y).drop 32).take 32 = cellsOf y := by
  rw [cellsP, List.drop_append, List.drop_of_length_le (by rw [length_cellsOf]; exact Nat.le_refl _), length_cellsOf, Nat.sub_self, List.drop_zero, List.nil_append, List.take_of_length_le (by rw [length_cellsOf]; exact Nat.le_refl _)]
theorem partP_left (x y : Sum) (w : World) : (part 24 (cellsP x y).toArray 0).run Try.prog w = .ok (sv x) w := by
  simp [part, Try.isAgg24, Try.sizeOf24, take_cellsP]
theorem partP_right (x y : Sum) (w : World) : (part 24 (cellsP x y).toArray 32).run Try.prog w = .ok (sv y) w := by
  simp [part, Try.isAgg24, Try.sizeOf24, drop_cellsP]
theorem eq_pair (x y x' y' : Sum) (w : World) : (Op.equalIn 10000 132 (pv x y) (pv x' y')).run Try.prog w = .ok (decide (x = x') && decide (y = y')) w := by
  obtain ⟨d, hd⟩ : ∃ d, 10000 = d + 3 := ⟨9997, rfl⟩
  rw [hd, Op.equalIn]
  have hl : List.range' 0 2 1 = [0, 1] := rfl
  simp only [Sem.run_bind, run_underlying Try.underlying132, Result.andThen_ok, Try.sizeOf24, Std.Legacy.Range.forIn_eq_forIn_range', Std.Legacy.Range.size, Nat.sub_zero, Nat.add_sub_cancel, Nat.div_one, hl, List.forIn_cons, Nat.zero_mul, Nat.one_mul, partP_left, partP_right, eq_sums_d]
  by_cases h1 : x = x' <;> by_cases h2 : y = y' <;> simp [h1, h2, partP_right, eq_sums_d]
theorem rangeP_left {w : World} {b : Nat} {x y : Sum} (h : w.rangeAt b 0 (cellsP x y)) : w.rangeAt b 0 (cellsOf x) := fun j v hv => h j v (by unfold cellsP; rw [List.getElem?_append_left (List.getElem?_eq_some_iff.1 hv).1]; exact hv)
theorem rangeP_right {w : World} {b : Nat} {x y : Sum} (h : w.rangeAt b 0 (cellsP x y)) : w.rangeAt b 32 (cellsOf y) := fun j v hv => by
  have := h (32 + j) v (by unfold cellsP; rw [List.getElem?_append_right (by rw [length_cellsOf]; omega), length_cellsOf, Nat.add_sub_cancel_left]; exact hv)
  rwa [← Nat.add_assoc, Nat.zero_add] at this
theorem parts_pair {w : World} {p q z : Nat} (l r : Sum) (hp : p < w.heap.size) (t : TypeId)
    (h1 : w.rangeAt p 0 (cells8 [1])) (h2 : w.rangeAt z 0 (cellsP l r)) (hz : z < w.heap.size) (hq : q = w.heap.size) :
    Parts2 (w.alloc (.cells #[.slice (some ⟨p, 0, none⟩) 1 1, .slice (some ⟨z, 0, none⟩) 32 32, .slice (some ⟨z, 32, none⟩) 32 32] t)) q 0 [.slice (some ⟨p, 0, none⟩) 1 1, .slice (some ⟨z, 0, none⟩) 32 32, .slice (some ⟨z, 32, none⟩) 32 32] [[1], l.toList, r.toList] := by
  subst hq
  have hB := al (Below.refl w.heap.size w) (.cells #[.slice (some ⟨p, 0, none⟩) 1 1, .slice (some ⟨z, 0, none⟩) 32 32, .slice (some ⟨z, 32, none⟩) 32 32] t)
  refine ⟨range_new _ _ _ _ rfl, rfl, fun j hj => ?_⟩
  have hj' : j < 3 := hj
  match j, hj' with
  | 0, _ => exact ⟨_, _, _, rfl, rfl, by decide, .inr ⟨p, 0, rfl, range_below hB h1 hp, by simp; omega⟩⟩
  | 1, _ => exact ⟨_, _, _, rfl, by simp, by decide, .inr ⟨z, 0, rfl, range_below hB (rangeP_left h2) hz, by simp; omega⟩⟩
  | 2, _ => exact ⟨_, _, _, rfl, by simp, by decide, .inr ⟨z, 32, rfl, range_below hB (rangeP_right h2) hz, by simp; omega⟩⟩
set_option maxRecDepth 100000 in
set_option maxHeartbeats 1000000 in
theorem pbytes_any (x y : Sum) (w : World) : Calls Try.prog 117 #[pv x y] w fun e w' => ∃ v, e = .returned v ∧ BytesAt w' v (1 :: (x.toList ++ y.toList)) ∧ Below w.heap.size w w' := by
  have hr0 := range_new w (cellsP x y).toArray 132 _ rfl
  have hb0 := al (Below.refl _ w) (.cells (cellsP x y).toArray 132)
  have hz0 : (w.alloc (.cells (cellsP x y).toArray 132)).heap.size = w.heap.size + 1 := Array.size_push _
  have HH := Lib.hid (And.intro hr0 (And.intro hb0 hz0))
  clear hr0 hb0 hz0
  go_enter Try.func117, Try.ntmps117
  go_wp2_with fail
  generalize w.alloc (.cells (cellsP x y).toArray 132) = W at *
  obtain ⟨z, hz⟩ : ∃ z, z = w.heap.size := ⟨_, rfl⟩
  have hz1 : z < W.heap.size := by rw [hz, HH.out.2.2]; omega
  have hzr := HH.out.1
  rw [← hz] at hzr ⊢
  have HZ := Lib.hid (And.intro hzr hz1)
  clear hz hz1 hzr
  refine wp_region_sched (fun _ => True) [.t 1, .t 2, .t 3, .t 4, .e 0 true, .e 5 true, .e 6 true, .t 7] (by kernel_rfl) (by kernel_rfl) (by intro c a d v w h; cases d <;> exact h) ?_
  have hd : W.drew.rangeAt z 0 (cellsP x y) := HZ.out.1
  have hbd : Below w.heap.size w W.drew := HH.out.2.1.drew
  have HD := Lib.hid (And.intro hd (And.intro hbd (show z < W.drew.heap.size from HZ.out.2)))
  clear hd hbd HH HZ
  generalize W.drew = V at *
  iterate 4
    refine wpS_t rfl (v := ?_) (by rfl) (fun W => ?_) ?_
    rotate_left
    · go_simp
      try rfl
    try simp only [Act.put, List.setIfInBounds_toArray, List.set_cons_zero, List.set_cons_succ]
  refine wpS_k rfl (by rfl) (fun K hK => ?_)
  go_simp
  refine hK _ _ ⟨by trivial, ?_⟩; clear hK K
  try simp only [Act.put, List.setIfInBounds_toArray, List.set_cons_zero, List.set_cons_succ]
  refine wpS_k rfl (by rfl) (fun K hK => ?_)
  go_simp
  refine hK _ _ ⟨by trivial, ?_⟩; clear hK K
  try simp only [Act.put, List.setIfInBounds_toArray, List.set_cons_zero, List.set_cons_succ]
  have hp := parts_pair (w := V.alloc (.cells #[.int .u8 1] 5)) (p := V.heap.size) (q := V.heap.size + 1) (z := z) x y (by rw [World.size_alloc]; omega) 50 (range_new _ _ _ _ rfl) (World.rangeAt_alloc HD.out.1 _) (by rw [World.size_alloc]; have := HD.out.2.2; omega) (by rw [World.size_alloc])
  have hb := al (al HD.out.2.1 (.cells #[.int .u8 1] 5)) (.cells #[.slice (some ⟨V.heap.size, 0, none⟩) 1 1, .slice (some ⟨z, 0, none⟩) 32 32, .slice (some ⟨z, 32, none⟩) 32 32] 50)
  have HP := Lib.hid (And.intro hp hb)
  clear hp hb
  refine wpS_k rfl (by rfl) (fun K hK => ?_)
  go_simp
  refine (concat_all _ [[1], x.toList, y.toList] _ _ 3 _ HP.out.1 (by simp) (by simp) (by simp) (by simp)).mono ?_
  rintro e w1 ⟨v1, rfl, hv1, hb⟩
  rw [show [[1], x.toList, y.toList].flatten = 1 :: (x.toList ++ y.toList) by simp] at hv1
  have HF := Lib.hid (And.intro hv1 (HP.out.2.trans (hb.mono HP.out.2.size)))
  clear hv1 hb HP
  refine hK _ _ ⟨by trivial, ?_⟩; clear hK K
  try simp only [Act.put, List.setIfInBounds_toArray, List.set_cons_zero, List.set_cons_succ]
  iterate 1
    refine wpS_t rfl (v := ?_) (by rfl) (fun W => ?_) ?_
    rotate_left
    · go_simp
      try rfl
    try simp only [Act.put, List.setIfInBounds_toArray, List.set_cons_zero, List.set_cons_succ]
  refine wpS_done ?_
  go_wp2_with fail
  refine bodyPost_ret (results_tmp rfl _ _ _) rfl ?_
  exact ⟨_, rfl, HF.out.1, HF.out.2⟩
end Go.Proofs.Ytdkcndgehgmadaa
