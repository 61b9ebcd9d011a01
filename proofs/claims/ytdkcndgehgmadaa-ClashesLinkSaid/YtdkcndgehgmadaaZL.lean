/-
  Merged: L1, L2, L3, L4.
-/
import Derived.Test.YtdkcndgehgmadaaZB2
import Derived.WalkLawsBesides
-- Walks: clashes.ends, pair.bytes.
open Go Go.RowKit Alm
namespace Go.Proofs.Ytdkcndgehgmadaa
/-- A clash that panics. -/
abbrev panC (va vb : Value) : List PanicEntry := [{ v := .iface 75 (cv va vb), recovered := false }]
def ClashOf (w : World) (e : Ending) (w' : World) : Prop := ∃ va vb A B, e = .panicked (panC va vb) ∧ BytesAt w' va A ∧ BytesAt w' vb B ∧ isB A B = true ∧ A.length < 1000000 ∧ B.length < 1000000 ∧ Below w.heap.size w w'
theorem ClashOf.from_ {w0 w w' : World} {e : Ending} (h : ClashOf w e w') (hb : Below w0.heap.size w0 w) : ClashOf w0 e w' := by
  obtain ⟨va, vb, A, B, h1, h2, h3, h4, h5, h6, h7⟩ := h
  exact ⟨va, vb, A, B, h1, h2, h3, h4, h5, h6, hb.trans (h7.mono hb.size)⟩
theorem isB_leaf (x y : List UInt8) (h : ¬ x = y) (hs : lf x = lf y) : isB (0 :: x) (0 :: y) = true := by
  unfold isB
  have h1 : ¬ (0 :: x) = (0 :: y) := fun e => h (List.cons.inj e).2
  have h2 : sh (0 :: x) = sh (0 :: y) := by rw [lf_eq] at hs; rw [sh_eq]; exact hs
  rw [decide_eq_false h1, decide_eq_true h2]; rfl
theorem nd_sh (a b : Sum) : nd a b = sh (1 :: (a.toList ++ b.toList)) := by rw [nd_eq, sh_eq]; rfl
theorem isB_node (a b c d : Sum) (h : ¬ (a = c ∧ b = d)) (hs : nd a b = nd c d) : isB (1 :: (a.toList ++ b.toList)) (1 :: (c.toList ++ d.toList)) = true := by
  unfold isB
  have h1 : ¬ (1 :: (a.toList ++ b.toList)) = (1 :: (c.toList ++ d.toList)) := fun e => by
    have e2 := (List.cons.inj e).2
    have hl : a.toList.length = c.toList.length := by simp
    have e3 := List.append_inj e2 hl
    exact h ⟨Vector.toList_inj.1 e3.1, Vector.toList_inj.1 e3.2⟩
  have h2 : sh (1 :: (a.toList ++ b.toList)) = sh (1 :: (c.toList ++ d.toList)) := by rw [← nd_sh, ← nd_sh]; exact hs
  rw [decide_eq_false h1, decide_eq_true h2]; rfl
set_option maxRecDepth 100000 in
set_option maxHeartbeats 1000000 in
theorem ends_any (x y : List UInt8) (vx vy : Value) (w : World) (hx : BytesAt w vx x) (hy : BytesAt w vy y) (hlx : x.length < 900000) (hly : y.length < 900000) (hne : ¬ x = y) (hs : lf x = lf y) :
    Calls Try.prog 103 #[vx, vy] w (ClashOf w) := by
  have HI := Lib.hid (isB_leaf x y hne hs)
  have hp1 := parts_two (w := w.alloc (.cells #[.int .u8 0] 5)) (p := w.heap.size) (q := w.heap.size + 1) x vx (by rw [World.size_alloc]; omega) 50 (range_new _ _ _ _ rfl) (bytes_below hx (al (Below.refl _ _) _) (Nat.le_refl _)) (by rw [World.size_alloc])
  have hb1 := al (al (Below.refl _ w) (.cells #[.int .u8 0] 5)) (.cells #[.slice (some ⟨w.heap.size, 0, none⟩) 1 1, vx] 50)
  have HP := Lib.hid (And.intro hp1 hb1)
  have HY := Lib.hid (And.intro hy (And.intro hlx hly))
  obtain ⟨ax, cx, rfl, _, _, hz1⟩ := hx
  obtain ⟨ay, cy, rfl, _, _, hz2⟩ := hy
  clear hz1 hz2 hp1 hb1 hne hs hlx hly
  go_enter Try.func103, Try.ntmps103
  go_wp2_with fail
  refine (concat_all _ [[0], x] _ _ 2 _ HP.out.1 (by simp) (by simp) (by simp) (by have := HY.out.2.1; simp; omega)).mono ?_
  rintro e w1 ⟨v1, rfl, hv1, hb⟩
  rw [show [[0], x].flatten = 0 :: x by simp] at hv1
  have hb1 := HP.out.2.trans (hb.mono HP.out.2.size)
  have hy1 := bytes_below HY.out.1 hb1 (Nat.le_refl _)
  have hp2 := parts_two (w := w1.alloc (.cells #[.int .u8 0] 5)) (p := w1.heap.size) (q := w1.heap.size + 1) y (.slice ay y.length cy) (by rw [World.size_alloc]; omega) 50 (range_new _ _ _ _ rfl) (bytes_below hy1 (al (Below.refl _ _) _) (Nat.le_refl _)) (by rw [World.size_alloc])
  have hb2 := al (al (Below.refl _ w1) (.cells #[.int .u8 0] 5)) (.cells #[.slice (some ⟨w1.heap.size, 0, none⟩) 1 1, .slice ay y.length cy] 50)
  have HP2 := Lib.hid (And.intro hp2 (And.intro hb2 (And.intro hv1 hb1)))
  have hv1' := hv1
  obtain ⟨a1, c1, rfl, _, _, hz1⟩ := hv1'
  clear hz1 hp2 hb2 hb1 hy1 hb hv1 HP
  go_wp2_with fail
  refine (concat_all _ [[0], y] _ _ 2 _ HP2.out.1 (by simp) (by simp) (by simp) (by have := HY.out.2.2; simp; omega)).mono ?_
  rintro e w2 ⟨v2, rfl, hv2, hb⟩
  rw [show [[0], y].flatten = 0 :: y by simp] at hv2
  have hb2 := HP2.out.2.1.trans (hb.mono HP2.out.2.1.size)
  have HF : Hid (ClashOf w (.panicked (panC (.slice a1 (0 :: x).length c1) v2)) w2) := Lib.hid ⟨_, _, 0 :: x, 0 :: y, rfl, bytes_below HP2.out.2.2.1 hb2 (Nat.le_refl _), hv2, HI.out, by have := HY.out.2.1; simp; omega, by have := HY.out.2.2; simp; omega, HP2.out.2.2.2.trans (hb2.mono HP2.out.2.2.2.size)⟩
  obtain ⟨a2, c2, rfl, _, _, hz1⟩ := hv2
  clear hz1 hb hb2 HP2
  go_wp2_with fail
  exact ⟨rfl, HF.out⟩
end Go.Proofs.Ytdkcndgehgmadaa
-- Walks: clashes.cut, sides, pair.bytes, apart.
open Go Go.RowKit Alm
namespace Go.Proofs.Ytdkcndgehgmadaa
theorem ccut_any (n : Nat) (w : World) (h2 : 2 ≤ n) (hn : n < 4000000000) : Calls Try.prog 97 #[.int .i64 (n : Int)] w fun e w' => e = .returned (.int .i64 (cut n : Int)) ∧ w = w' := by
  obtain ⟨q, hq⟩ : ∃ q, q = (n - 1).log2 := ⟨_, rfl⟩
  have hE : (((n : Int) - 1).toNat).log2 = q := by rw [hq]; congr 1; omega
  have q62 : q < 32 := by
    rw [hq]
    exact (Nat.log2_lt (by omega)).2 (by omega)
  have q62' : (q : Int) < 32 := by omega
  have q0 : (0 : Int) ≤ (q : Int) := by omega
  have m1 : 1 ≤ (n : Int) - 1 := by omega
  have m2 : (n : Int) - 1 ≤ 18446744073709551615 := by omega
  have hk : cut n = 2 ^ q := by rw [hq]; rfl
  have hkl : cut n < n := cut_lt h2
  obtain ⟨k, hkd⟩ : ∃ k, k = cut n := ⟨_, rfl⟩
  rw [← hkd] at hk hkl ⊢
  have HE := Lib.hid hE; clear hE hq
  have M2 := Lib.hid m2; clear m2
  have HK := Lib.hid hk; clear hk hkd
  go_enter Try.func97, Try.ntmps97
  go_wp2_with (go_at_call 63; refine (len_pos _ _ m1 M2.out).mono ?_; rw [HE.out]; rintro e w1 ⟨rfl, rfl⟩)
  have pw : wrap64 ((2 : Int) ^ q) = (k : Int) := by
    have h1 : (2 : Int) ^ q = (k : Int) := by rw [HK.out]; push_cast; rfl
    rw [h1]
    unfold wrap64
    omega
  exact bodyPost_ret (results_tmp rfl _ _ _) rfl ⟨by rw [← pw]; rfl, rfl⟩
theorem ListsAt.drop {w : World} {b o n cap : Nat} {ls : List (List UInt8)} (h : ListsAt w (.slice (some ⟨b, o, none⟩) n cap) ls) (k c2 : Nat) (hk : k ≤ ls.length) (hc : ls.length - k ≤ c2) (hc2 : c2 ≤ maxLen) : ListsAt w (.slice (some ⟨b, o + k, none⟩) (ls.length - k) c2) (ls.drop k) := by
  refine ⟨_, c2, by rw [List.length_drop], by rw [List.length_drop]; exact hc, hc2, .inr ⟨b, o + k, rfl, fun j hj => ?_⟩⟩
  rw [List.length_drop] at hj
  obtain ⟨u, h1, h2⟩ := h.cell (sp := none) (j := k + j) (by omega)
  exact ⟨u, by rw [Nat.add_assoc]; exact h1, by rw [List.getElem_drop]; exact h2⟩
/-- Two sums, as a pair. -/
def cellsP (x y : Sum) : List Value := cellsOf x ++ cellsOf y
abbrev pv (x y : Sum) : Value := .agg (cellsP x y).toArray
theorem length_cellsP (x y : Sum) : (cellsP x y).length = 64 := by simp [cellsP, length_cellsOf]
theorem all_cellsP (x y : Sum) : (cellsP x y).toArray.all (·.oneCell') = true := all_oneCell_toArray (fun v hv => by
  rcases List.mem_append.1 hv with h | h
  · exact oneCell_cellsOf x v h
  · exact oneCell_cellsOf y v h)
theorem infoPair : (Try.prog.info? 132).map (·.size) = some 64 := by kernel_rfl
theorem infoPairZ : (Try.prog.info? 132).map (fun i => i.zero.map fun z => z.cells.size) = some (some 64) := by kernel_rfl
set_option maxRecDepth 100000 in
theorem build_pair (x y : Sum) (w : World) : (Instr.build 132 #[(0, .agg (cellsOf x).toArray), (1, .agg (cellsOf y).toArray)]).run Try.prog w = .ok (pv x y) w := by
  obtain ⟨ib, hib, hzb⟩ := Option.map_eq_some_iff.1 infoPairZ
  obtain ⟨zb, hz, hzs⟩ := Option.map_eq_some_iff.1 hzb
  obtain ⟨i, z, hi, hz1, hs, hb, hz2⟩ := info_sum
  refine run_build w _ _ _ ?_
  unfold Program.built
  simp only [hib, Try.underlying132, hz, hi, hs]
  have := Great.fill_whole (s := 32) (by omega) [sv x, sv y] zb.cells (fun v hv => by
    rcases List.mem_cons.1 hv with rfl | hv
    · exact size_cellsOf x
    · rw [List.mem_singleton.1 hv]; exact size_cellsOf y) (by rw [hzs]; rfl)
  refine this.trans ?_
  congr 1
  simp [cellsP, Value.cells]
theorem exec_build_pair {f : Operand → Value} {o : Oper} (parts : Array (Nat × Operand)) (ho : o.op = .build 132 parts) (x y : Sum) (hp : (parts.toList.map fun (i, x) => (i, f x)) = [(0, sv x), (1, sv y)]) (W : World) :
    (execOp f o).run Try.prog W = .ok (.value (pv x y)) W := by
  have : (parts.map fun (i, x) => (i, f x)) = #[(0, sv x), (1, sv y)] := by
    apply Array.toList_inj.1
    rw [Array.toList_map]; exact hp
  unfold execOp
  simp only [ho, Sem.run_bind, Sem.run_pure, Result.andThen_ok, this, build_pair]
theorem wp_store_pair {op : Oper} {a : Act} {w : World} {K : Act → World → Prop} {Q : Exit → Act → World → Prop} (x y : Operand) (ho : op.op = .store 132 x y)
    (b o : Nat) (s t : Sum) (hx : a.eval x = .pointer (some ⟨b, o, none⟩)) (hy : a.eval y = pv s t) (ht : w.there b o 64) (h : K (a.put op.dst undef) (w.setCells b o (cellsP s t))) : op.wp Try.prog a w K Q :=
  wp_store_mid _ x y ho b o _ hx hy (by simpa [length_cellsP] using ht) (by simpa [length_cellsP] using infoPair) (all_cellsP s t) h
theorem wpList_load_pair {ops : Array Oper} {rest : List Oper} {op : Oper} {a : Act} {w : World} {Q : Exit → Act → World → Prop} (hgd : op.guard = none) (x : Operand) (ho : op.op = .load 132 x)
    (b o : Nat) (hx : a.eval x = .pointer (some ⟨b, o, none⟩)) (s t : Sum) (hc : w.rangeAt b o (cellsP s t))
    (h : wpList Try.prog ops Q rest (a.put op.dst (pv s t)) w) : wpList Try.prog ops Q (op :: rest) a w :=
  wpList_load_mid hgd _ x ho b o hx (cellsP s t) _ hc Try.underlying132 rfl (by rw [length_cellsP]; exact infoPair) h
theorem take_cellsP (x y : Sum) : (cellsP x y).take 32 = cellsOf x := by
  rw [cellsP, List.take_append, List.take_of_length_le (by rw [length_cellsOf]; exact Nat.le_refl _), length_cellsOf, Nat.sub_self, List.take_zero, List.append_nil]
theorem drop_cellsP (x y : Sum) : ((cellsP x y).drop 32).take 32 = cellsOf y := by
  rw [cellsP, List.drop_append, List.drop_of_length_le (by rw [length_cellsOf]; exact Nat.le_refl _), length_cellsOf, Nat.sub_self, List.drop_zero, List.nil_append, List.take_of_length_le (by rw [length_cellsOf]; exact Nat.le_refl _)]
theorem partP_left (x y : Sum) (w : World) : (part 24 (cellsP x y).toArray 0).run Try.prog w = .ok (sv x) w := by
  simp [part, Try.isAgg24, Try.sizeOf24, take_cellsP]
theorem partP_right (x y : Sum) (w : World) : (part 24 (cellsP x y).toArray 32).run Try.prog w = .ok (sv y) w := by
  simp [part, Try.isAgg24, Try.sizeOf24, drop_cellsP]
theorem eq_pair (x y x' y' : Sum) (w : World) : (Op.equalIn 10000 132 (pv x y) (pv x' y')).run Try.prog w = .ok (decide (x = x') && decide (y = y')) w := by
  obtain ⟨d, hd⟩ : ∃ d, 10000 = d + 3 := ⟨9997, rfl⟩
  rw [hd, Op.equalIn]
  have hl : List.range' 0 2 1 = [0, 1] := rfl
  simp only [Sem.run_bind, run_underlying Try.underlying132, Result.andThen_ok, Try.sizeOf24, Std.Legacy.Range.forIn_eq_forIn_range', Std.Legacy.Range.size, Nat.sub_zero, Nat.add_sub_cancel, Nat.div_one, hl, List.forIn_cons, Nat.zero_mul, Nat.one_mul, partP_left, partP_right, eq_sums_d]
  by_cases h1 : x = x' <;> by_cases h2 : y = y' <;> simp [h1, h2, partP_right, eq_sums_d]
theorem rangeP_left {w : World} {b : Nat} {x y : Sum} (h : w.rangeAt b 0 (cellsP x y)) : w.rangeAt b 0 (cellsOf x) := fun j v hv => h j v (by unfold cellsP; rw [List.getElem?_append_left (List.getElem?_eq_some_iff.1 hv).1]; exact hv)
theorem rangeP_right {w : World} {b : Nat} {x y : Sum} (h : w.rangeAt b 0 (cellsP x y)) : w.rangeAt b 32 (cellsOf y) := fun j v hv => by
  have := h (32 + j) v (by unfold cellsP; rw [List.getElem?_append_right (by rw [length_cellsOf]; omega), length_cellsOf, Nat.add_sub_cancel_left]; exact hv)
  rwa [← Nat.add_assoc, Nat.zero_add] at this
theorem parts_pair {w : World} {p q z : Nat} (l r : Sum) (hp : p < w.heap.size) (t : TypeId)
    (h1 : w.rangeAt p 0 (cells8 [1])) (h2 : w.rangeAt z 0 (cellsP l r)) (hz : z < w.heap.size) (hq : q = w.heap.size) :
    Parts2 (w.alloc (.cells #[.slice (some ⟨p, 0, none⟩) 1 1, .slice (some ⟨z, 0, none⟩) 32 32, .slice (some ⟨z, 32, none⟩) 32 32] t)) q 0 [.slice (some ⟨p, 0, none⟩) 1 1, .slice (some ⟨z, 0, none⟩) 32 32, .slice (some ⟨z, 32, none⟩) 32 32] [[1], l.toList, r.toList] := by
  subst hq
  have hB := al (Below.refl w.heap.size w) (.cells #[.slice (some ⟨p, 0, none⟩) 1 1, .slice (some ⟨z, 0, none⟩) 32 32, .slice (some ⟨z, 32, none⟩) 32 32] t)
  refine ⟨range_new _ _ _ _ rfl, rfl, fun j hj => ?_⟩
  have hj' : j < 3 := hj
  match j, hj' with
  | 0, _ => exact ⟨_, _, _, rfl, rfl, by decide, .inr ⟨p, 0, rfl, range_below hB h1 hp, by simp; omega⟩⟩
  | 1, _ => exact ⟨_, _, _, rfl, by simp, by decide, .inr ⟨z, 0, rfl, range_below hB (rangeP_left h2) hz, by simp; omega⟩⟩
  | 2, _ => exact ⟨_, _, _, rfl, by simp, by decide, .inr ⟨z, 32, rfl, range_below hB (rangeP_right h2) hz, by simp; omega⟩⟩
set_option maxRecDepth 100000 in
set_option maxHeartbeats 1000000 in
theorem pbytes_any (x y : Sum) (w : World) : Calls Try.prog 117 #[pv x y] w fun e w' => ∃ v, e = .returned v ∧ BytesAt w' v (1 :: (x.toList ++ y.toList)) ∧ Below w.heap.size w w' := by
  have hr0 := range_new w (cellsP x y).toArray 132 _ rfl
  have hb0 := al (Below.refl _ w) (.cells (cellsP x y).toArray 132)
  have hz0 : (w.alloc (.cells (cellsP x y).toArray 132)).heap.size = w.heap.size + 1 := Array.size_push _
  have HH := Lib.hid (And.intro hr0 (And.intro hb0 hz0))
  clear hr0 hb0 hz0
  go_enter Try.func117, Try.ntmps117
  go_wp2_with fail
  generalize w.alloc (.cells (cellsP x y).toArray 132) = W at *
  obtain ⟨z, hz⟩ : ∃ z, z = w.heap.size := ⟨_, rfl⟩
  have hz1 : z < W.heap.size := by rw [hz, HH.out.2.2]; omega
  have hzr := HH.out.1
  rw [← hz] at hzr ⊢
  have HZ := Lib.hid (And.intro hzr hz1)
  clear hz hz1 hzr
  refine wp_region_sched (fun _ => True) [.t 1, .t 2, .t 3, .t 4, .e 0 true, .e 5 true, .e 6 true, .t 7] (by kernel_rfl) (by kernel_rfl) (by intro c a d v w h; cases d <;> exact h) ?_
  have hd : W.drew.rangeAt z 0 (cellsP x y) := HZ.out.1
  have hbd : Below w.heap.size w W.drew := HH.out.2.1.drew
  have HD := Lib.hid (And.intro hd (And.intro hbd (show z < W.drew.heap.size from HZ.out.2)))
  clear hd hbd HH HZ
  generalize W.drew = V at *
  iterate 4
    refine wpS_t rfl (v := ?_) (by rfl) (fun W => ?_) ?_
    rotate_left
    · go_simp
      try rfl
    try simp only [Act.put, List.setIfInBounds_toArray, List.set_cons_zero, List.set_cons_succ]
  refine wpS_k rfl (by rfl) (fun K hK => ?_)
  go_simp
  refine hK _ _ ⟨by trivial, ?_⟩; clear hK K
  try simp only [Act.put, List.setIfInBounds_toArray, List.set_cons_zero, List.set_cons_succ]
  refine wpS_k rfl (by rfl) (fun K hK => ?_)
  go_simp
  refine hK _ _ ⟨by trivial, ?_⟩; clear hK K
  try simp only [Act.put, List.setIfInBounds_toArray, List.set_cons_zero, List.set_cons_succ]
  have hp := parts_pair (w := V.alloc (.cells #[.int .u8 1] 5)) (p := V.heap.size) (q := V.heap.size + 1) (z := z) x y (by rw [World.size_alloc]; omega) 50 (range_new _ _ _ _ rfl) (World.rangeAt_alloc HD.out.1 _) (by rw [World.size_alloc]; have := HD.out.2.2; omega) (by rw [World.size_alloc])
  have hb := al (al HD.out.2.1 (.cells #[.int .u8 1] 5)) (.cells #[.slice (some ⟨V.heap.size, 0, none⟩) 1 1, .slice (some ⟨z, 0, none⟩) 32 32, .slice (some ⟨z, 32, none⟩) 32 32] 50)
  have HP := Lib.hid (And.intro hp hb)
  clear hp hb
  refine wpS_k rfl (by rfl) (fun K hK => ?_)
  go_simp
  refine (concat_all _ [[1], x.toList, y.toList] _ _ 3 _ HP.out.1 (by simp) (by simp) (by simp) (by simp)).mono ?_
  rintro e w1 ⟨v1, rfl, hv1, hb⟩
  rw [show [[1], x.toList, y.toList].flatten = 1 :: (x.toList ++ y.toList) by simp] at hv1
  have HF := Lib.hid (And.intro hv1 (HP.out.2.trans (hb.mono HP.out.2.size)))
  clear hv1 hb HP
  refine hK _ _ ⟨by trivial, ?_⟩; clear hK K
  try simp only [Act.put, List.setIfInBounds_toArray, List.set_cons_zero, List.set_cons_succ]
  iterate 1
    refine wpS_t rfl (v := ?_) (by rfl) (fun W => ?_) ?_
    rotate_left
    · go_simp
      try rfl
    try simp only [Act.put, List.setIfInBounds_toArray, List.set_cons_zero, List.set_cons_succ]
  refine wpS_done ?_
  go_wp2_with fail
  refine bodyPost_ret (results_tmp rfl _ _ _) rfl ?_
  exact ⟨_, rfl, HF.out.1, HF.out.2⟩
end Go.Proofs.Ytdkcndgehgmadaa
-- Walks: clashes.apart, clashes.sides.
open Go Go.RowKit Alm
namespace Go.Proofs.Ytdkcndgehgmadaa
set_option maxRecDepth 100000 in
set_option maxHeartbeats 1000000 in
theorem apart_same (x y : Sum) (w : World) : Calls Try.prog 102 #[pv x y, pv x y] w fun e w' => e = .returned (.tuple #[]) ∧ Below w.heap.size w w' := by
  have hr0 := World.rangeAt_alloc (range_new w (cellsP x y).toArray 132 _ rfl) (.cells (cellsP x y).toArray 132)
  have hr1 := range_new (w.alloc (.cells (cellsP x y).toArray 132)) (cellsP x y).toArray 132 _ rfl
  rw [World.size_alloc] at hr1
  have HH := Lib.hid (And.intro hr0 (And.intro hr1 (al (al (Below.refl _ w) (.cells (cellsP x y).toArray 132)) (.cells (cellsP x y).toArray 132))))
  clear hr0 hr1
  have heq : ∀ w : World, (Op.equalIn 10000 132 (pv x y) (pv x y)).run Try.prog w = .ok true w := fun w => by rw [eq_pair]; simp
  go_enter Try.func102, Try.ntmps102
  go_wp2_with (first
    | (refine wpList_load_pair rfl _ rfl w.heap.size 0 rfl x y HH.out.1 ?_)
    | (refine wpList_load_pair rfl _ rfl (w.heap.size + 1) 0 rfl x y HH.out.2.1 ?_))
  exact bodyPost_end (results_none rfl _ _ _) rfl ⟨rfl, HH.out.2.2⟩
theorem wpS_load_pair {md : Region.Mode} {S : World → Prop} {ops : List Oper} {Q : Exit → Act → World → Prop} {r : List Mv} {a : Act} {w : World} {o : Oper} {i : Nat} (hS : S w) (ho : ops[i]? = some o) (hg : Region.wanted o (yielded ops.toArray a.tmps) = true) (x : Operand) (hop : o.op = .load 132 x) (b off : Nat) (hx : a.eval x = .pointer (some ⟨b, off, none⟩)) (s t : Sum)
    (hc : ∀ W, S W → W.rangeAt b off (cellsP s t)) (h : wpS Try.prog md ops.toArray Q S r (a.put o.dst (pv s t)) w) : wpS Try.prog md ops.toArray Q S (.s i :: r) a w :=
  wpS_load_mid hS ho hg _ x hop b off hx (cellsP s t) _ hc Try.underlying132 rfl (by rw [length_cellsP]; exact infoPair) h
set_option maxRecDepth 100000 in
set_option maxHeartbeats 1000000 in
theorem apart_clash (x y x' y' : Sum) (w : World) (hne : ¬ (x = x' ∧ y = y')) (hs : nd x y = nd x' y') : Calls Try.prog 102 #[pv x y, pv x' y'] w (ClashOf w) := by
  have hr0 := World.rangeAt_alloc (range_new w (cellsP x y).toArray 132 _ rfl) (.cells (cellsP x' y').toArray 132)
  have hr1 := range_new (w.alloc (.cells (cellsP x y).toArray 132)) (cellsP x' y').toArray 132 _ rfl
  rw [World.size_alloc] at hr1
  have HH := Lib.hid (And.intro hr0 (And.intro hr1 (al (al (Below.refl _ w) (.cells (cellsP x y).toArray 132)) (.cells (cellsP x' y').toArray 132))))
  clear hr0 hr1
  have HI := Lib.hid (isB_node x y x' y' hne hs)
  have heq : ∀ w : World, (Op.equalIn 10000 132 (pv x y) (pv x' y')).run Try.prog w = .ok false w := fun w => by
    rw [eq_pair]
    by_cases h1 : x = x'
    · have h2 : ¬ y = y' := fun h2 => hne ⟨h1, h2⟩
      simp [h1, h2]
    · simp [h1]
  clear hne hs
  go_enter Try.func102, Try.ntmps102
  go_wp2_with (first
    | (refine wpList_load_pair rfl _ rfl w.heap.size 0 rfl x y HH.out.1 ?_)
    | (refine wpList_load_pair rfl _ rfl (w.heap.size + 1) 0 rfl x' y' HH.out.2.1 ?_))
  clear heq
  generalize (w.alloc (.cells (cellsP x y).toArray 132)).alloc (.cells (cellsP x' y').toArray 132) = W at *
  obtain ⟨z, hz⟩ : ∃ z, z = w.heap.size := ⟨_, rfl⟩
  have hz1 := HH.out.1
  have hz2 := HH.out.2.1
  rw [← hz] at hz1 hz2 ⊢
  have HR := Lib.hid (And.intro hz1 hz2)
  have HB := Lib.hid HH.out.2.2
  clear hz hz1 hz2 HH
  refine wp_region_sched (fun V => V.rangeAt z 0 (cellsP x y) ∧ V.rangeAt (z + 1) 0 (cellsP x' y')) [.s 0, .s 2, .e 1 true, .e 3 true, .t 4, .t 5, .e 6 true] (by kernel_rfl) (by kernel_rfl) (by intro c a d v w h; cases d <;> exact h) ?_
  have HS := Lib.hid (show W.drew.rangeAt z 0 (cellsP x y) ∧ W.drew.rangeAt (z + 1) 0 (cellsP x' y') from HR.out)
  replace HB := Lib.hid HB.out.drew
  generalize W.drew = V at *
  refine wpS_load_pair (by exact HS.out) rfl (by rfl) _ (by rfl) z 0 (by rfl) x y (fun V hV => hV.1) ?_
  try simp only [Act.put, List.setIfInBounds_toArray, List.set_cons_zero, List.set_cons_succ]
  refine wpS_load_pair (by exact HS.out) rfl (by rfl) _ (by rfl) (z + 1) 0 (by rfl) x' y' (fun V hV => hV.2) ?_
  try simp only [Act.put, List.setIfInBounds_toArray, List.set_cons_zero, List.set_cons_succ]
  refine wpS_k rfl (by rfl) (fun K hK => ?_)
  go_simp
  refine (pbytes_any x y V).mono ?_
  rintro e V1 ⟨v1, rfl, hv1, hb⟩
  have HS1 := Lib.hid (And.intro (br hb HS.out.1) (br hb HS.out.2))
  have HB1 := Lib.hid (HB.out.trans (hb.mono HB.out.size))
  have HV1 := Lib.hid hv1
  obtain ⟨a1, c1, rfl, _, _, hz1⟩ := hv1
  have hl1 : (1 :: (x.toList ++ y.toList)).length = 65 := by simp
  rw [hl1] at HV1 ⊢
  clear hz1 hb HS HB HR hl1
  refine hK _ _ ⟨by exact HS1.out, ?_⟩; clear hK K
  try simp only [Act.put, List.setIfInBounds_toArray, List.set_cons_zero, List.set_cons_succ]
  refine wpS_k rfl (by rfl) (fun K hK => ?_)
  go_simp
  refine (pbytes_any x' y' V1).mono ?_
  rintro e V2 ⟨v2, rfl, hv2, hb⟩
  have HS2 := Lib.hid (And.intro (br hb HS1.out.1) (br hb HS1.out.2))
  have HF : Hid (ClashOf w (.panicked (panC (.slice a1 65 c1) v2)) V2) := Lib.hid ⟨_, _, _, _, rfl, bytes_below HV1.out hb (Nat.le_refl _), hv2, HI.out, by simp, by simp, HB1.out.trans (hb.mono HB1.out.size)⟩
  obtain ⟨a2, c2, rfl, _, _, hz1⟩ := hv2
  have hl2 : (1 :: (x'.toList ++ y'.toList)).length = 65 := by simp
  rw [hl2] at HF ⊢
  clear hz1 hb HS1 HB1 HV1 hl2
  refine hK _ _ ⟨by exact HS2.out, ?_⟩; clear hK K
  try simp only [Act.put, List.setIfInBounds_toArray, List.set_cons_zero, List.set_cons_succ]
  iterate 2
    refine wpS_t rfl (v := ?_) (by rfl) (fun W => ?_) ?_
    rotate_left
    · go_simp
      try rfl
    try simp only [Act.put, List.setIfInBounds_toArray, List.set_cons_zero, List.set_cons_succ]
  refine wpS_k rfl (by rfl) (fun K hK => ?_)
  go_simp
  exact ⟨rfl, HF.out⟩
set_option maxRecDepth 100000 in
set_option maxHeartbeats 1000000 in
theorem sides_any (l : List (List UInt8)) (k b o cap : Nat) (w : World) (hl : ListsAt w (.slice (some ⟨b, o, none⟩) l.length cap) l) (hk1 : 1 ≤ k) (hk : k < l.length) (hn : l.length < 1000000) (hs : ∀ x ∈ l, x.length < 1000000) :
    Calls Try.prog 98 #[.slice (some ⟨b, o, none⟩) l.length cap, .int .i64 (k : Int)] w fun e w' => e = .returned (pv (rt ((l.take k).map lf)) (rt ((l.drop k).map lf))) ∧ Below w.heap.size w w' := by
  have R0 : Res w 64 (w.alloc (.cells (cells8 (List.replicate 64 0)).toArray 132)) := Res.start _ _ _ _ (by rfl)
  have hcap : l.length ≤ cap ∧ cap ≤ maxLen := by
    obtain ⟨a, c, hv, h1, h2, _⟩ := hl
    simp only [Value.slice.injEq] at hv
    obtain ⟨_, _, rfl⟩ := hv
    exact ⟨h1, h2⟩
  have HT := Lib.hid (hl.take k (by omega))
  have HD := Lib.hid (hl.drop k (cap - k) (by omega) (by omega) (by have := hcap.2; omega))
  have HR0 := Lib.hid R0
  have HSS : Hid ((∀ x ∈ l.take k, x.length < 1000000) ∧ (∀ x ∈ l.drop k, x.length < 1000000) ∧ (l.take k).length < 1000000 ∧ (l.drop k).length < 1000000) := Lib.hid ⟨fun x hx => hs x (List.mem_of_mem_take hx), fun x hx => hs x (List.mem_of_mem_drop hx), by rw [List.length_take]; omega, by rw [List.length_drop]; omega⟩
  obtain ⟨ra, hra⟩ : ∃ r, r = rt ((l.take k).map lf) := ⟨_, rfl⟩
  obtain ⟨rb, hrb⟩ : ∃ r, r = rt ((l.drop k).map lf) := ⟨_, rfl⟩
  rw [← hra, ← hrb]
  have HRA := Lib.hid hra
  have HRB := Lib.hid hrb
  obtain ⟨n, hnl⟩ : ∃ n, n = l.length := ⟨_, rfl⟩
  rw [← hnl] at HD hcap hk ⊢
  have c2 := hcap.2
  unfold maxLen at c2
  have k0 : (0 : Int) ≤ (k : Int) := by omega
  have k1 : (k : Int) ≤ (n : Int) := by omega
  have k2 : (k : Int) ≤ (cap : Int) := by have := hcap.1; omega
  have k3 : ¬ (cap = k) := by have := hcap.1; omega
  have k4 : ¬ (k = cap) := by have := hcap.1; omega
  clear hra hrb hnl hl hs R0 hcap
  go_enter Try.func98, Try.ntmps98
  go_wp2_with fail
  refine wp_region_sched (fun _ => True) [.t 0, .t 1, .t 2, .t 4, .t 5, .t 6, .e 3 true, .e 7 true, .t 8, .e 9 true] (by kernel_rfl) (by kernel_rfl) (by intro c a d v w h; cases d <;> exact h) ?_
  change wpS _ _ _ _ _ _ _ (w.alloc (.cells (cells8 (List.replicate 64 0)).toArray 132)).drew
  have HR := Lib.hid HR0.out.drew
  clear HR0
  generalize (w.alloc (.cells (cells8 (List.replicate 64 0)).toArray 132)).drew = V at *
  iterate 6
    refine wpS_t rfl (v := ?_) (by rfl) (fun W => ?_) ?_
    rotate_left
    · go_simp
      try rfl
    try simp only [Act.put, List.setIfInBounds_toArray, List.set_cons_zero, List.set_cons_succ]
  refine wpS_k rfl (by rfl) (fun K hK => ?_)
  go_simp
  refine (croot_any (l.take k) _ V (HT.out.below HR.out.below) HSS.out.2.2.1 HSS.out.1).mono ?_
  rw [← HRA.out]
  rintro e V1 ⟨rfl, hb⟩
  have HR1 := Lib.hid (HR.out.call (by decide) hb)
  clear hb HR
  refine hK _ _ ⟨by trivial, ?_⟩; clear hK K
  try simp only [Act.put, List.setIfInBounds_toArray, List.set_cons_zero, List.set_cons_succ]
  refine wpS_k rfl (by rfl) (fun K hK => ?_)
  go_simp
  refine (croot_any (l.drop k) _ V1 (HD.out.below HR1.out.below) HSS.out.2.2.2 HSS.out.2.1).mono ?_
  rw [← HRB.out]
  rintro e V2 ⟨rfl, hb⟩
  have HR2 := Lib.hid (HR1.out.call (by decide) hb)
  clear hb HR1
  refine hK _ _ ⟨by trivial, ?_⟩; clear hK K
  try simp only [Act.put, List.setIfInBounds_toArray, List.set_cons_zero, List.set_cons_succ]
  refine wpS_t rfl (v := pv ra rb) (by rfl) (fun W => exec_build_pair _ rfl ra rb (by rfl) W) ?_
  try simp only [Act.put, List.setIfInBounds_toArray, List.set_cons_zero, List.set_cons_succ]
  refine wpS_k rfl (by rfl) (fun K hK => ?_)
  refine wp_store_pair _ _ (by rfl) w.heap.size 0 ra rb (by rfl) (by rfl) HR2.out.there ?_
  refine hK _ _ ⟨by trivial, ?_⟩; clear hK K
  try simp only [Act.put, List.setIfInBounds_toArray, List.set_cons_zero, List.set_cons_succ]
  refine wpS_done ?_
  go_wp2_with fail
  exact bodyPost_ret (results_mid Try.results98 _ _ w.heap.size 0 (cellsP ra rb) _ rfl (range_stored _ _ _ _ (by rw [length_cellsP]; exact World.there_setCells HR2.out.there _ _ _)) Try.underlying132 rfl (by rw [length_cellsP]; exact infoPair)) rfl ⟨rfl, (HR2.out.store _).below⟩
end Go.Proofs.Ytdkcndgehgmadaa
-- Walks: clashes.lists.
open Go Go.RowKit Alm
namespace Go.Proofs.Ytdkcndgehgmadaa
theorem rt_split (l : List Sum) (h : 2 ≤ l.length) : rt l = nd (rt (l.take (cut l.length))) (rt (l.drop (cut l.length))) := by
  rw [rt_eq]; exact root_split nd e0 h
theorem rt_lf (l : List (List UInt8)) (h : 2 ≤ l.length) : rt (l.map lf) = nd (rt ((l.take (cut l.length)).map lf)) (rt ((l.drop (cut l.length)).map lf)) := by
  rw [rt_split _ (by rw [List.length_map]; exact h), List.length_map, List.map_take, List.map_drop]
/-- What stands in the two lists' variable. -/
abbrev SZ (l : List (List UInt8)) : Prop := ∀ x ∈ l, x.length < 900000
set_option maxRecDepth 100000 in
set_option maxHeartbeats 2000000 in
theorem lists_step (a b : List (List UInt8)) (va vb : Value) (w : World) (ha : ListsAt w va a) (hb : ListsAt w vb b) (h1 : 1 ≤ a.length) (hab : a.length = b.length) (hne : ¬ a = b) (hrt : rt (a.map lf) = rt (b.map lf)) (hn : a.length < 1000000) (hsa : SZ a) (hsb : SZ b)
    (ih : ∀ (a' b' : List (List UInt8)) (va vb : Value) (w : World), a'.length < a.length → ListsAt w va a' → ListsAt w vb b' → 1 ≤ a'.length → a'.length = b'.length → ¬ a' = b' → rt (a'.map lf) = rt (b'.map lf) → SZ a' → SZ b' → Calls Try.prog 95 #[.agg #[va, vb]] w (ClashOf w)) :
    Calls Try.prog 95 #[.agg #[va, vb]] w (ClashOf w) := by
  have IH := Lib.hid ih; clear ih
  have HA := Lib.hid ha
  have HB := Lib.hid hb
  have a0 : a ≠ [] := by intro h; rw [h] at h1; simp at h1
  have b0 : b ≠ [] := by intro h; rw [hab, h] at h1; simp at h1
  obtain ⟨ba, oa, ca, rfl, a1, a2⟩ := ha.form a0
  obtain ⟨bb, ob, cb, rfl, b1, b2⟩ := hb.form b0
  have hbw := al (Below.refl _ w) (.cells #[.slice (some ⟨ba, oa, none⟩) a.length ca, .slice (some ⟨bb, ob, none⟩) b.length cb] 128)
  have ht := two_new w (.slice (some ⟨ba, oa, none⟩) a.length ca) (.slice (some ⟨bb, ob, none⟩) b.length cb) 128
  have HT := Lib.hid (And.intro ht (And.intro hbw (And.intro (ha.below hbw) (hb.below hbw))))
  have HX := Lib.hid (And.intro hne (And.intro hrt (And.intro hsa hsb)))
  clear ht hbw a0 b0 ha hb hne hrt hsa hsb
  rw [← hab] at HT b1 HB ⊢
  obtain ⟨n, hnl⟩ : ∃ n, n = a.length := ⟨_, rfl⟩
  rw [← hnl] at HT HA HB a1 b1 h1 hn IH ⊢
  have HN := Lib.hid (And.intro hnl (hnl.trans hab))
  clear hnl hab
  unfold maxLen at a2 b2
  go_enter Try.func95, Try.ntmps95
  go_wp2_with fail
  obtain ⟨z, hz⟩ : ∃ z, z = w.heap.size := ⟨_, rfl⟩
  have hT1 := HT.out.1
  rw [← hz] at hT1 ⊢
  have HT1 := Lib.hid hT1
  have HT2 := Lib.hid HT.out.2
  clear hz hT1 HT
  generalize w.alloc (.cells #[.slice (some ⟨ba, oa, none⟩) n ca, .slice (some ⟨bb, ob, none⟩) n cb] 128) = W at *
  refine wp_region_sched (fun V => V.cell? ⟨z, 0, none⟩ = some (.slice (some ⟨ba, oa, none⟩) n ca) ∧ V.cell? ⟨z, 1, none⟩ = some (.slice (some ⟨bb, ob, none⟩) n cb)) [.t 0, .t 2, .s 1, .t 4, .e 3 true, .t 5] (by kernel_rfl) (by kernel_rfl) (by intro c a d v w h; cases d <;> exact h) ?_
  have HS := Lib.hid (show W.drew.cell? ⟨z, 0, none⟩ = some (.slice (some ⟨ba, oa, none⟩) n ca) ∧ W.drew.cell? ⟨z, 1, none⟩ = some (.slice (some ⟨bb, ob, none⟩) n cb) from HT1.out)
  have hbd := (Below.refl W.heap.size W).drew
  have HW := Lib.hid (And.intro HT2.out.1.drew (And.intro (HT2.out.2.1.below hbd) (HT2.out.2.2.below hbd)))
  clear hbd HT1 HT2
  generalize W.drew = V at *
  iterate 2
    refine wpS_t rfl (v := ?_) (by rfl) (fun W => ?_) ?_
    rotate_left
    · go_simp
      try rfl
    try simp only [Act.put, List.setIfInBounds_toArray, List.set_cons_zero, List.set_cons_succ]
  refine wpS_s (by exact HS.out) rfl (v := ?_) (by rfl) (fun W hSW => ?_) ?_
  rotate_left
  · go_simp
    try rfl
  try simp only [Act.put, List.setIfInBounds_toArray, List.set_cons_zero, List.set_cons_succ]
  iterate 1
    refine wpS_t rfl (v := ?_) (by rfl) (fun W => ?_) ?_
    rotate_left
    · go_simp
      try rfl
    try simp only [Act.put, List.setIfInBounds_toArray, List.set_cons_zero, List.set_cons_succ]
  have g := HS.out.2
  refine wpS_k rfl (by rfl) (fun K hK => ?_)
  go_simp
  refine hK _ _ ⟨by exact HS.out, ?_⟩; clear hK K
  try simp only [Act.put, List.setIfInBounds_toArray, List.set_cons_zero, List.set_cons_succ]
  clear g
  iterate 1
    refine wpS_t rfl (v := ?_) (by rfl) (fun W => ?_) ?_
    rotate_left
    · go_simp
      try rfl
    try simp only [Act.put, List.setIfInBounds_toArray, List.set_cons_zero, List.set_cons_succ]
  refine wpS_done ?_
  clear HS
  by_cases h2 : n = 1
  · have h2' : ((n : Int) == 1) = true := by rw [beq_iff_eq]; omega
    obtain ⟨x, hx⟩ : ∃ x, a = [x] := List.length_eq_one_iff.1 (by have := HN.out.1; omega)
    obtain ⟨y, hy⟩ : ∃ x, b = [x] := List.length_eq_one_iff.1 (by have := HN.out.2; omega)
    subst hx hy
    obtain ⟨u1, hu1, hx1⟩ := HW.out.2.1.cell (sp := none) (j := 0) (by simp)
    obtain ⟨u2, hu2, hy1⟩ := HW.out.2.2.cell (sp := none) (j := 0) (by simp)
    rw [Nat.add_zero] at hu1 hu2
    have HU := Lib.hid (And.intro hu1 hu2)
    have HXY := Lib.hid (And.intro hx1 hy1)
    have hne : ¬ x = y := fun h => HX.out.1 (by rw [h])
    have hlf : lf x = lf y := by
      have := HX.out.2.1
      rw [List.map_cons, List.map_nil, List.map_cons, List.map_nil, rt_one, rt_one] at this
      exact this
    have HE := Lib.hid (And.intro hne (And.intro hlf (And.intro (HX.out.2.2.1 x (by simp)) (HX.out.2.2.2 y (by simp)))))
    clear hu1 hu2 hx1 hy1 hne hlf HX HA HB IH
    subst h2
    go_wp2_with fail
    refine wp_region_sched (fun V => V.cell? ⟨ba, oa, none⟩ = some u1 ∧ V.cell? ⟨bb, ob, none⟩ = some u2) [.t 0, .t 1, .t 3, .t 4, .s 2, .e 5 true, .e 6 true] (by kernel_rfl) (by kernel_rfl) (by intro c a d v w h; cases d <;> exact h) ?_
    have HS := Lib.hid (show V.drew.cell? ⟨ba, oa, none⟩ = some u1 ∧ V.drew.cell? ⟨bb, ob, none⟩ = some u2 from HU.out)
    have hbd := (Below.refl V.heap.size V).drew
    have HV2 := Lib.hid (And.intro (bytes_below HXY.out.1 hbd (Nat.le_refl _)) (And.intro (bytes_below HXY.out.2 hbd (Nat.le_refl _)) HW.out.1.drew))
    clear hbd HU HXY HW
    generalize V.drew = V2 at *
    iterate 4
      refine wpS_t rfl (v := ?_) (by rfl) (fun W => ?_) ?_
      rotate_left
      · go_simp
        try rfl
      try simp only [Act.put, List.setIfInBounds_toArray, List.set_cons_zero, List.set_cons_succ]
    refine wpS_s (by exact HS.out) rfl (v := ?_) (by rfl) (fun W hSW => ?_) ?_
    rotate_left
    · go_simp
      try rfl
    try simp only [Act.put, List.setIfInBounds_toArray, List.set_cons_zero, List.set_cons_succ]
    have g := HS.out.2
    refine wpS_k rfl (by rfl) (fun K hK => ?_)
    go_simp
    refine hK _ _ ⟨by exact HS.out, ?_⟩; clear hK K
    try simp only [Act.put, List.setIfInBounds_toArray, List.set_cons_zero, List.set_cons_succ]
    clear g
    refine wpS_k rfl (by rfl) (fun K hK => ?_)
    go_simp
    refine (ends_any x y u1 u2 V2 HV2.out.1 HV2.out.2.1 HE.out.2.2.1 HE.out.2.2.2 HE.out.1 HE.out.2.1).mono ?_
    intro e w3 h
    have hF := h.from_ HV2.out.2.2
    obtain ⟨va, vb, A, B, rfl, _⟩ := h
    exact ⟨rfl, hF⟩
  · have h2' : ((n : Int) == 1) = false := by rw [beq_eq_false_iff_ne]; omega
    obtain ⟨k, hk⟩ : ∃ k, k = cut n := ⟨_, rfl⟩
    have hk1 : 1 ≤ k := by rw [hk]; exact cut_pos n
    have hkn : k < n := by rw [hk]; exact cut_lt (by omega)
    have HK := Lib.hid (And.intro hk (And.intro hk1 hkn))
    have k0 : (0 : Int) ≤ (k : Int) := by omega
    have k1 : (k : Int) ≤ (n : Int) := by omega
    have k2 : (k : Int) ≤ (ca : Int) := by omega
    have k3 : (k : Int) ≤ (cb : Int) := by omega
    have k4 : ¬ (ca = k) := by omega
    have k5 : ¬ (cb = k) := by omega
    have k6 : ¬ (k = ca) := by omega
    have k7 : ¬ (k = cb) := by omega
    have hnda : rt (a.map lf) = nd (rt ((a.take k).map lf)) (rt ((a.drop k).map lf)) := by
      have := rt_lf a (by have := HN.out.1; omega)
      rw [← HN.out.1, ← hk] at this; exact this
    have hndb : rt (b.map lf) = nd (rt ((b.take k).map lf)) (rt ((b.drop k).map lf)) := by
      have := rt_lf b (by have := HN.out.2; omega)
      rw [← HN.out.2, ← hk] at this; exact this
    have hnn : nd (rt ((a.take k).map lf)) (rt ((a.drop k).map lf)) = nd (rt ((b.take k).map lf)) (rt ((b.drop k).map lf)) := by rw [← hnda, ← hndb]; exact HX.out.2.1
    have HNN := Lib.hid hnn
    clear hk hk1 hkn hnda hndb hnn
    go_wp2_with fail
    refine (ccut_any n V (by omega) (by omega)).mono ?_
    rw [← HK.out.1]
    rintro e V1 ⟨rfl, rfl⟩
    go_wp2_with fail
    have hsd := sides_any a k ba oa ca V (by rw [← HN.out.1]; exact HW.out.2.1) HK.out.2.1 (by rw [← HN.out.1]; exact HK.out.2.2) (by have := HN.out.1; omega) (fun x hx => by have := HX.out.2.2.1 x hx; omega)
    rw [← HN.out.1] at hsd
    obtain ⟨A1, hA1⟩ : ∃ r, r = rt ((a.take k).map lf) := ⟨_, rfl⟩
    obtain ⟨A2, hA2⟩ : ∃ r, r = rt ((a.drop k).map lf) := ⟨_, rfl⟩
    obtain ⟨B1, hB1⟩ : ∃ r, r = rt ((b.take k).map lf) := ⟨_, rfl⟩
    obtain ⟨B2, hB2⟩ : ∃ r, r = rt ((b.drop k).map lf) := ⟨_, rfl⟩
    rw [← hA1, ← hA2] at hsd
    have hN2 := HNN.out
    rw [← hA1, ← hA2, ← hB1, ← hB2] at hN2
    have HN2 := Lib.hid hN2
    have HE := Lib.hid (And.intro (And.intro hA1 hA2) (And.intro hB1 hB2))
    clear hN2 hA1 hA2 hB1 hB2 HNN
    refine hsd.mono ?_
    rintro e V1 ⟨rfl, hb⟩
    have HW1 := Lib.hid (And.intro (HW.out.1.trans (hb.mono HW.out.1.size)) (And.intro (HW.out.2.1.below hb) (HW.out.2.2.below hb)))
    clear hsd hb HW
    go_wp2_with fail
    have hsd := sides_any b k bb ob cb V1 (by rw [← HN.out.2]; exact HW1.out.2.2) HK.out.2.1 (by rw [← HN.out.2]; exact HK.out.2.2) (by have := HN.out.2; omega) (fun x hx => by have := HX.out.2.2.2 x hx; omega)
    rw [← HN.out.2, ← HE.out.2.1, ← HE.out.2.2] at hsd
    refine hsd.mono ?_
    rintro e V2 ⟨rfl, hb⟩
    have HW2 := Lib.hid (And.intro (HW1.out.1.trans (hb.mono HW1.out.1.size)) (And.intro (HW1.out.2.1.below hb) (HW1.out.2.2.below hb)))
    clear hsd hb HW1
    go_wp2_with fail
    by_cases hpp : A1 = B1 ∧ A2 = B2
    · obtain ⟨rfl, rfl⟩ := hpp
      refine (apart_same A1 A2 V2).mono ?_
      rintro e V3 ⟨rfl, hb⟩
      have HW3 := Lib.hid (And.intro (HW2.out.1.trans (hb.mono HW2.out.1.size)) (And.intro (HW2.out.2.1.below hb) (HW2.out.2.2.below hb)))
      clear hb HW2
      go_wp2_with fail
      refine wp_region_sched (fun _ => True) [.t 0, .t 1, .t 2, .t 3, .t 4, .t 5, .e 6 true] (by kernel_rfl) (by kernel_rfl) (by intro c a d v w h; cases d <;> exact h) ?_
      have hbd := (Below.refl V3.heap.size V3).drew
      have HW4 := Lib.hid (And.intro HW3.out.1.drew (And.intro (HW3.out.2.1.below hbd) (HW3.out.2.2.below hbd)))
      clear hbd HW3
      generalize V3.drew = V4 at *
      iterate 6
        refine wpS_t rfl (v := ?_) (by rfl) (fun W => ?_) ?_
        rotate_left
        · go_simp
          try rfl
        try simp only [Act.put, List.setIfInBounds_toArray, List.set_cons_zero, List.set_cons_succ]
      refine wpS_k rfl (by rfl) (fun K hK => ?_)
      go_simp
      have hka : k ≤ a.length := by have := HK.out.2.2; have := HN.out.1; omega
      have hkb : k ≤ b.length := by have := HK.out.2.2; have := HN.out.2; omega
      have HKL := Lib.hid (And.intro hka hkb)
      clear hka hkb
      refine (same_any (a.take k) (b.take k) _ _ V4 (HW4.out.2.1.take k HKL.out.1) (HW4.out.2.2.take k HKL.out.2) (by rw [List.length_take]; have := HN.out.1; omega)).mono ?_
      rintro e V5 ⟨rfl, rfl⟩
      refine hK _ _ ⟨by trivial, ?_⟩; clear hK K
      try simp only [Act.put, List.setIfInBounds_toArray, List.set_cons_zero, List.set_cons_succ]
      refine wpS_done ?_
      have hba : a = a.take k ++ a.drop k := (List.take_append_drop k a).symm
      have hbb : b = b.take k ++ b.drop k := (List.take_append_drop k b).symm
      by_cases htt : a.take k = b.take k
      · rw [decide_eq_true htt]
        have hdd : ¬ a.drop k = b.drop k := fun h => HX.out.1 (by rw [hba, hbb, htt, h])
        have HR := Lib.hid (And.intro hdd (HE.out.1.2.symm.trans HE.out.2.2))
        clear htt hdd hba hbb
        go_wp2_with fail
        refine wp_region_sched (fun _ => True) [.t 0, .t 1, .t 2, .t 3, .t 4, .t 5, .t 6, .e 7 true] (by kernel_rfl) (by kernel_rfl) (by intro c a d v w h; cases d <;> exact h) ?_
        have hbd := (Below.refl V4.heap.size V4).drew
        have HW5 := Lib.hid (And.intro HW4.out.1.drew (And.intro (HW4.out.2.1.below hbd) (HW4.out.2.2.below hbd)))
        clear hbd HW4
        generalize V4.drew = V5 at *
        iterate 7
          refine wpS_t rfl (v := ?_) (by rfl) (fun W => ?_) ?_
          rotate_left
          · go_simp
            try rfl
          try simp only [Act.put, List.setIfInBounds_toArray, List.set_cons_zero, List.set_cons_succ]
        refine wpS_k rfl (by rfl) (fun K hK => ?_)
        go_simp
        have hla := HW5.out.2.1.drop k (ca - k) HKL.out.1 (by rw [← HN.out.1]; omega) (by unfold maxLen; omega)
        have hlb := HW5.out.2.2.drop k (cb - k) HKL.out.2 (by rw [← HN.out.2]; omega) (by unfold maxLen; omega)
        rw [← HN.out.1] at hla
        rw [← HN.out.2] at hlb
        refine (IH.out (a.drop k) (b.drop k) _ _ V5 (by rw [List.length_drop]; have := HN.out.1; have := HK.out.2.1; omega) hla hlb (by rw [List.length_drop]; have := HN.out.1; have := HK.out.2.2; omega) (by rw [List.length_drop, List.length_drop]; have := HN.out; omega) HR.out.1 HR.out.2 (fun x hx => HX.out.2.2.1 x (List.mem_of_mem_drop hx)) (fun x hx => HX.out.2.2.2 x (List.mem_of_mem_drop hx))).mono ?_
        intro e w3 h
        have hF := h.from_ HW5.out.1
        obtain ⟨va, vb, A, B, rfl, _⟩ := h
        exact ⟨rfl, hF⟩
      · rw [decide_eq_false htt]
        have HR := Lib.hid (And.intro htt (HE.out.1.1.symm.trans HE.out.2.1))
        clear htt hba hbb
        go_wp2_with fail
        refine wp_region_sched (fun _ => True) [.t 0, .t 1, .t 2, .t 3, .t 4, .t 5, .t 6, .e 7 true] (by kernel_rfl) (by kernel_rfl) (by intro c a d v w h; cases d <;> exact h) ?_
        have hbd := (Below.refl V4.heap.size V4).drew
        have HW5 := Lib.hid (And.intro HW4.out.1.drew (And.intro (HW4.out.2.1.below hbd) (HW4.out.2.2.below hbd)))
        clear hbd HW4
        generalize V4.drew = V5 at *
        iterate 7
          refine wpS_t rfl (v := ?_) (by rfl) (fun W => ?_) ?_
          rotate_left
          · go_simp
            try rfl
          try simp only [Act.put, List.setIfInBounds_toArray, List.set_cons_zero, List.set_cons_succ]
        refine wpS_k rfl (by rfl) (fun K hK => ?_)
        go_simp
        refine (IH.out (a.take k) (b.take k) _ _ V5 (by rw [List.length_take]; have := HN.out.1; have := HK.out.2.2; omega) (HW5.out.2.1.take k HKL.out.1) (HW5.out.2.2.take k HKL.out.2) (by rw [List.length_take]; have := HN.out.1; have := HK.out.2.1; omega) (by rw [List.length_take, List.length_take]; have := HN.out; omega) HR.out.1 HR.out.2 (fun x hx => HX.out.2.2.1 x (List.mem_of_mem_take hx)) (fun x hx => HX.out.2.2.2 x (List.mem_of_mem_take hx))).mono ?_
        intro e w3 h
        have hF := h.from_ HW5.out.1
        obtain ⟨va, vb, A, B, rfl, _⟩ := h
        exact ⟨rfl, hF⟩
    · refine (apart_clash A1 A2 B1 B2 V2 hpp HN2.out).mono ?_
      intro e w3 h
      have hF := h.from_ HW2.out.1
      obtain ⟨va, vb, A, B, rfl, _⟩ := h
      exact ⟨rfl, hF⟩
theorem lists_any : ∀ (d : Nat) (a b : List (List UInt8)) (va vb : Value) (w : World), a.length ≤ d → ListsAt w va a → ListsAt w vb b → 1 ≤ a.length → a.length = b.length → ¬ a = b → rt (a.map lf) = rt (b.map lf) → a.length < 1000000 → SZ a → SZ b →
    Calls Try.prog 95 #[.agg #[va, vb]] w (ClashOf w) := by
  intro d
  induction d with
  | zero => intro a b va vb w h _ _ h1; omega
  | succ d ih =>
    intro a b va vb w hd ha hb h1 hab hne hrt hn hsa hsb
    exact lists_step a b va vb w ha hb h1 hab hne hrt hn hsa hsb (fun a' b' va vb w hl ha hb h1 hab hne hrt hsa hsb => ih a' b' va vb w (by omega) ha hb h1 hab hne hrt (by omega) hsa hsb)
end Go.Proofs.Ytdkcndgehgmadaa
