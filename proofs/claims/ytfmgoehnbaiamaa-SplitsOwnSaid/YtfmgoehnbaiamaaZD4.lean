/-
  Merged: D12, D13, D14, D15, D16.
-/
import Derived.Test.YtfmgoehnbaiamaaZD2
import Derived.Test.YtfmgoehnbaiamaaSchedIn
import Derived.RangeFuncNested
import Derived.RangeFuncBound
import Derived.RangeFuncCalls
import Derived.RangeFuncLeaves
import Derived.OwnWalkIn
import Derived.TacticsInMore
-- Walk: splits.down's function: what two ways sum up, depth by depth.
open Go Go.RowKit Alm
namespace Go.Proofs.Ytfmgoehnbaiamaa
theorem wpS_load_two {md : Region.Mode} {S : World → Prop} {ops : List Oper} {Q : Exit → Act → World → Prop} {r : List Mv} {a : Act} {w : World} {o : Oper} {i : Nat} (hS : S w) (ho : ops[i]? = some o) (hg : Region.wanted o (yielded ops.toArray a.tmps) = true) (x : Operand) (hop : o.op = .load 105 x) (b off : Nat) (hx : a.eval x = .pointer (some ⟨b, off, none⟩)) (p : Sum × Sum)
    (hc : ∀ W, S W → W.rangeAt b off (cells2 p.1 p.2)) (h : wpS Try.prog md ops.toArray Q S r (a.put o.dst (b2 p)) w) : wpS Try.prog md ops.toArray Q S (.s i :: r) a w :=
  wpS_load_mid hS ho hg _ x hop b off hx (cells2 p.1 p.2) _ hc Try.underlying105 rfl (by rw [length_cells2]; exact infoTwo) h
theorem WayR.row_of {W : World} {p d : Nat} {A : List (Sum × Sum)} {q : Sum × Sum} (h : WayR W p 0 A) (hq : A[d]? = some q) : W.rangeAt p (32 + d * 64) (cells2 q.1 q.2) := by
  obtain ⟨hl, e⟩ := List.getElem?_eq_some_iff.1 hq
  have hA : A = A.take d ++ q :: A.drop (d + 1) := by rw [← drop_get hq, List.take_append_drop]
  have h1 := h.row
  rw [hA, cellsB_append, range_append, cellsB_cons, range_append, length_cellsB, List.length_take, Nat.min_eq_left (by omega), Nat.zero_mul, Nat.add_zero, Nat.mul_comm] at h1
  exact h1.2.1
theorem steps_at {L : List (Sum × Sum)} {e : List UInt8} {d : Nat} {q : Sum × Sum} (h : L[d]? = some q) : (steps L e).drop d = sideB q :: (steps L e).drop (d + 1) := by
  obtain ⟨hl, he⟩ := List.getElem?_eq_some_iff.1 h
  refine drop_get ?_
  unfold steps
  rw [List.getElem?_append_left (by rw [List.length_map]; exact hl), List.getElem?_map, h]
  rfl
theorem steps_end {L : List (Sum × Sum)} {e : List UInt8} {d : Nat} (h : d = L.length) : (steps L e).drop d = [e] := by
  unfold steps
  rw [List.drop_append, List.drop_eq_nil_of_le (by rw [List.length_map]; omega), List.length_map, h, Nat.sub_self]
  rfl
/-- What the iterator is told of the rounds. -/
structure IterOf (l b1 b2 p q : Nat) (LV LU : List (Sum × Sum)) (r1 r2 : Sum) (vv vu : Value) (ev eu : List UInt8) (J : World → Prop) (Jx : World → List UInt8 → List UInt8 → Prop) : Prop where
  stable : ∀ W W', J W → Below W.heap.size W W' → J W'
  cells : ∀ W, J W → W.cell? ⟨b1, 0, none⟩ = some (.pointer (some ⟨p, 0, none⟩)) ∧ W.cell? ⟨b2, 0, none⟩ = some (.pointer (some ⟨q, 0, none⟩))
  ways : ∀ W, J W → WayAt W p r1 LV vv ev ∧ WayAt W q r2 LU vu eu
  round : ∀ W va vb A B, J W → BytesAt W va A → BytesAt W vb B → YieldAt Fence.wide 0 Try.prog l #[va, vb] W fun e W' => (A = B ∧ e = .returned (.bool true) ∧ J W') ∨ (A ≠ B ∧ e = .returned (.bool false) ∧ Jx W' A B)
set_option maxRecDepth 100000 in
set_option maxHeartbeats 4000000 in
theorem down1_any (l b1 b2 p q : Nat) (LV LU : List (Sum × Sum)) (r1 r2 : Sum) (vv vu : Value) (ev eu : List UInt8) (J : World → Prop) (Jx : World → List UInt8 → List UInt8 → Prop) (h : IterOf l b1 b2 p q LV LU r1 r2 vv vu ev eu J Jx) (hV : LV.length = 256) (hU : LU.length = 256) (w : World) (hJ : J w) :
    Calls Try.prog 104 #[.func (.yield l) #[] #[], .pointer (some ⟨b1, 0, none⟩), .pointer (some ⟨b2, 0, none⟩)] w fun e w' => e = .returned (.tuple #[]) ∧ ((part (steps LV ev) (steps LU eu) = none ∧ J w') ∨ (∃ A B, part (steps LV ev) (steps LU eu) = some (A, B) ∧ Jx w' A B)) := by
  have HH := Lib.hid (And.intro h (And.intro hV hU))
  have HJ := Lib.hid hJ
  clear h hV hU hJ
  go_enter Try.func104, Try.ntmps104
  go_wp2_with fail
  go_loopw [5] (fun iv W => ∃ j : Nat, j ≤ 256 ∧ iv = .int .i64 (j : Int) ∧ part (steps LV ev) (steps LU eu) = part ((steps LV ev).drop j) ((steps LU eu).drop j) ∧ J W) (fun iv _ => 256 - (intOf iv).toNat)
  case atStart => exact ⟨0, by omega, rfl, rfl, HJ.out⟩
  case round =>
    clear HJ
    obtain ⟨j, hj, rfl, hp, hJ⟩ := hrel
    have HP := Lib.hid hp
    have HJ := Lib.hid hJ
    clear hp hJ
    by_cases hlt : j < 256
    · have c1 : decide (j < 256) = true := by simpa using hlt
      have c1' : decide ((j : Int) < 256) = true := by simp; omega
      have j0 : (0 : Int) ≤ (j : Int) := Int.natCast_nonneg _
      have j1 : (j : Int) < 256 := by omega
      obtain ⟨x, hx⟩ : ∃ x, LV[j]? = some x := ⟨_, List.getElem?_eq_getElem (by rw [HH.out.2.1]; exact hlt)⟩
      obtain ⟨y, hy⟩ : ∃ y, LU[j]? = some y := ⟨_, List.getElem?_eq_getElem (by rw [HH.out.2.2]; exact hlt)⟩
      have hpp := HP.out
      rw [steps_at hx, steps_at hy, part] at hpp
      have HX := Lib.hid (And.intro hx (And.intro hy (And.intro hlt hpp)))
      clear hx hy hlt hpp hj
      go_wp2_with fail
      refine (wpIn_wide (n := 0)).1 ?_
      refine wpIn_region_lift (ops := _) 15 (fun W => J W) [.t 0, .t 2, .t 9, .s 1, .t 3, .t 4, .t 5, .s 6, .s 8, .t 10, .t 11, .t 12, .s 13, .e 7 true, .e 14 false] (by kernel_rfl) (by kernel_rfl) (by kernel_rfl) ?_
      have HD := Lib.hid (HH.out.1.stable _ _ HJ.out (Below.refl _ _).drew)
      clear HJ
      generalize wr.drew = V at *
      iterate 3
        refine wpS_t rfl (v := ?_) (by rfl) (fun W => ?_) ?_
        rotate_left
        · go_simp
          try rfl
        try simp only [Act.put, List.setIfInBounds_toArray, List.set_cons_zero, List.set_cons_succ]
      refine wpS_s (by exact HD.out) rfl (v := .pointer (some ⟨p, 0, none⟩)) (by rfl) (fun W hW => ?_) ?_
      · have g := (HH.out.1.cells W hW).1
        go_simp
      try simp only [Act.put, List.setIfInBounds_toArray, List.set_cons_zero, List.set_cons_succ]
      iterate 3
        refine wpS_t rfl (v := ?_) (by rfl) (fun W => ?_) ?_
        rotate_left
        · go_simp
          try rfl
        try simp only [Act.put, List.setIfInBounds_toArray, List.set_cons_zero, List.set_cons_succ]
      refine wpS_load_two (by exact HD.out) rfl (by rfl) _ (by rfl) p (32 + j * 64) (by rfl) x (fun W hW => (HH.out.1.ways W hW).1.rows.row_of HX.out.1) ?_
      try simp only [Act.put, List.setIfInBounds_toArray, List.set_cons_zero, List.set_cons_succ]
      refine wpS_s (by exact HD.out) rfl (v := .pointer (some ⟨q, 0, none⟩)) (by rfl) (fun W hW => ?_) ?_
      · have g := (HH.out.1.cells W hW).2
        go_simp
      try simp only [Act.put, List.setIfInBounds_toArray, List.set_cons_zero, List.set_cons_succ]
      iterate 3
        refine wpS_t rfl (v := ?_) (by rfl) (fun W => ?_) ?_
        rotate_left
        · go_simp
          try rfl
        try simp only [Act.put, List.setIfInBounds_toArray, List.set_cons_zero, List.set_cons_succ]
      refine wpS_load_two (by exact HD.out) rfl (by rfl) _ (by rfl) q (32 + j * 64) (by rfl) y (fun W hW => (HH.out.1.ways W hW).2.rows.row_of HX.out.2.1) ?_
      try simp only [Act.put, List.setIfInBounds_toArray, List.set_cons_zero, List.set_cons_succ]
      refine wpS_k rfl (by rfl) (fun K hK => ?_)
      go_simp
      refine (sideB_any x V).mono ?_
      rintro e V1 ⟨va, rfl, hva, hb⟩
      have H1 := Lib.hid (And.intro (HH.out.1.stable _ _ HD.out hb) hva)
      clear hb hva HD
      refine hK _ _ ⟨by exact H1.out.1, ?_⟩; clear hK K
      try simp only [Act.put, List.setIfInBounds_toArray, List.set_cons_zero, List.set_cons_succ]
      refine wpS_e rfl (by rfl) (fun K hK => ?_)
      go_simp
      refine (sideB_any y V1).mono ?_
      rintro e V2 ⟨vb, rfl, hvb, hb⟩
      have H2 := Lib.hid (And.intro (HH.out.1.stable _ _ H1.out.1 hb) (And.intro (bytes_below H1.out.2 hb (Nat.le_refl _)) hvb))
      clear hb hvb H1
      refine hK _ _ ?_; clear hK K
      try simp only [Act.put, List.setIfInBounds_toArray, List.set_cons_zero, List.set_cons_succ]
      refine wpS_done ?_
      have hr := HH.out.1.round V2 va vb (sideB x) (sideB y) H2.out.1 H2.out.2.1 H2.out.2.2
      obtain ⟨fn, tmps, assign, body, hy, hR⟩ := hr
      have HR := Lib.hid hR
      clear hR
      show wpTail Fence.wide 0 Try.prog _ _ 2 15 _ V2
      unfold wpTail wpOpIn
      refine (if_pos (by rfl)).mpr ?_
      refine ⟨fun _ _ => trivial, ?_⟩
      rw [show Fence.wide.round = none from rfl, Oper.semAt_none]
      go_simp
      refine ⟨rfl, ?_⟩
      refine HR.out.mono ?_
      rintro e W3 (⟨hab, rfl, hJ3⟩ | ⟨hab, rfl, hJx⟩)
      · have H3 := Lib.hid hJ3
        have HP2 := Lib.hid (show part (steps LV ev) (steps LU eu) = part ((steps LV ev).drop (j + 1)) ((steps LU eu).drop (j + 1)) by have h := HX.out.2.2.2; rwa [if_pos hab] at h)
        clear hab hJ3 hy HR H2
        show wpTail Fence.wide 0 Try.prog _ _ 1 16 _ W3
        unfold wpTail wpOpIn
        refine (if_pos (by rfl)).mpr ?_
        refine ⟨fun _ _ => trivial, ?_⟩
        rw [show Fence.wide.round = none from rfl, Oper.semAt_none]
        go_simp
        unfold wpTail
        have hwj : wrap64 ((j : Int) + 1) = ((j + 1 : Nat) : Int) := by have := HX.out.2.2.1; unfold wrap64; omega
        have HWJ := Lib.hid hwj
        clear hwj
        go_wp2_with fail
        try rw [HWJ.out]
        exact ⟨⟨j + 1, HX.out.2.2.1, rfl, HP2.out, H3.out⟩, by simp only [intOf]; have := HX.out.2.2.1; omega⟩
      · have H3 := Lib.hid hJx
        have HP2 := Lib.hid (show part (steps LV ev) (steps LU eu) = some (sideB x, sideB y) by have h := HX.out.2.2.2; rwa [if_neg hab] at h)
        clear hab hJx hy HR H2
        show wpTail Fence.wide 0 Try.prog _ _ 1 16 _ W3
        unfold wpTail wpOpIn
        refine (if_pos (by rfl)).mpr ?_
        refine ⟨fun _ _ => trivial, ?_⟩
        rw [show Fence.wide.round = none from rfl, Oper.semAt_none]
        go_simp
        unfold wpTail
        go_wp2_with fail
        refine bodyPost_ret (results_none rfl _ _ _) rfl ?_
        exact ⟨rfl, .inr ⟨_, _, HP2.out, H3.out⟩⟩
    · have hj6 : j = 256 := by omega
      subst hj6
      have c1 : decide (256 < 256) = false := by simp
      have c1' : decide (((256 : Nat) : Int) < 256) = false := by simp
      have hpp := HP.out
      rw [steps_end HH.out.2.1.symm, steps_end HH.out.2.2.symm] at hpp
      have HPP := Lib.hid hpp
      clear hpp hj hlt
      go_wp2_with fail
      refine (wpIn_wide (n := 0)).1 ?_
      refine wpIn_region_lift (ops := _) 9 (fun W => J W) [.t 0, .s 1, .t 2, .t 3, .s 4, .s 5, .t 6, .t 7, .s 8] (by kernel_rfl) (by kernel_rfl) (by kernel_rfl) ?_
      have HD := Lib.hid (HH.out.1.stable _ _ HJ.out (Below.refl _ _).drew)
      clear HJ
      generalize wr.drew = V at *
      iterate 1
        refine wpS_t rfl (v := ?_) (by rfl) (fun W => ?_) ?_
        rotate_left
        · go_simp
          try rfl
        try simp only [Act.put, List.setIfInBounds_toArray, List.set_cons_zero, List.set_cons_succ]
      refine wpS_s (by exact HD.out) rfl (v := .pointer (some ⟨p, 0, none⟩)) (by rfl) (fun W hW => ?_) ?_
      · have g := (HH.out.1.cells W hW).1
        go_simp
      try simp only [Act.put, List.setIfInBounds_toArray, List.set_cons_zero, List.set_cons_succ]
      iterate 2
        refine wpS_t rfl (v := ?_) (by rfl) (fun W => ?_) ?_
        rotate_left
        · go_simp
          try rfl
        try simp only [Act.put, List.setIfInBounds_toArray, List.set_cons_zero, List.set_cons_succ]
      refine wpS_s (by exact HD.out) rfl (v := vv) (by rfl) (fun W hW => ?_) ?_
      · have g := (HH.out.1.ways W hW).1.en.en
        go_simp
      try simp only [Act.put, List.setIfInBounds_toArray, List.set_cons_zero, List.set_cons_succ]
      refine wpS_s (by exact HD.out) rfl (v := .pointer (some ⟨q, 0, none⟩)) (by rfl) (fun W hW => ?_) ?_
      · have g := (HH.out.1.cells W hW).2
        go_simp
      try simp only [Act.put, List.setIfInBounds_toArray, List.set_cons_zero, List.set_cons_succ]
      iterate 2
        refine wpS_t rfl (v := ?_) (by rfl) (fun W => ?_) ?_
        rotate_left
        · go_simp
          try rfl
        try simp only [Act.put, List.setIfInBounds_toArray, List.set_cons_zero, List.set_cons_succ]
      refine wpS_s (by exact HD.out) rfl (v := vu) (by rfl) (fun W hW => ?_) ?_
      · have g := (HH.out.1.ways W hW).2.en.en
        go_simp
      try simp only [Act.put, List.setIfInBounds_toArray, List.set_cons_zero, List.set_cons_succ]
      refine wpS_done ?_
      have hr := HH.out.1.round V vv vu ev eu HD.out (HH.out.1.ways V HD.out).1.en.bt (HH.out.1.ways V HD.out).2.en.bt
      obtain ⟨fn, tmps, assign, body, hy, hR⟩ := hr
      have HR := Lib.hid hR
      clear hR
      show wpTail Fence.wide 0 Try.prog _ _ 1 9 _ V
      unfold wpTail wpOpIn
      refine (if_pos (by rfl)).mpr ?_
      refine ⟨fun _ _ => trivial, ?_⟩
      rw [show Fence.wide.round = none from rfl, Oper.semAt_none]
      go_simp
      refine ⟨rfl, ?_⟩
      refine HR.out.mono ?_
      rintro e W3 (⟨hab, rfl, hJ3⟩ | ⟨hab, rfl, hJx⟩)
      · have H3 := Lib.hid hJ3
        have HP2 := Lib.hid (show part (steps LV ev) (steps LU eu) = none by rw [HPP.out, hab, part_same])
        clear hab hJ3 hy HR HD
        unfold wpTail
        go_wp2_with fail
        refine bodyPost_end (results_none rfl _ _ _) rfl ?_
        exact ⟨rfl, .inl ⟨HP2.out, H3.out⟩⟩
      · have H3 := Lib.hid hJx
        have HP2 := Lib.hid (show part (steps LV ev) (steps LU eu) = some (ev, eu) by rw [HPP.out, part, if_neg hab])
        clear hab hJx hy HR HD
        unfold wpTail
        go_wp2_with fail
        refine bodyPost_end (results_none rfl _ _ _) rfl ?_
        exact ⟨rfl, .inr ⟨_, _, HP2.out, H3.out⟩⟩
end Go.Proofs.Ytfmgoehnbaiamaa
-- Walks: splits.down, splits.apart.
namespace Go.Proofs.Ytfmgoehnbaiamaa
attribute [local go_sem] Oper.semAt_some
theorem down_any (p q : Nat) (w : World) : Calls Try.prog 90 #[.pointer (some ⟨p, 0, none⟩), .pointer (some ⟨q, 0, none⟩)] w fun e w' => e = .returned (.func (.func 104) #[] #[.pointer (some ⟨w.heap.size, 0, none⟩), .pointer (some ⟨w.heap.size + 1, 0, none⟩)]) ∧ w' = (w.alloc (.cells #[.pointer (some ⟨p, 0, none⟩)] 103)).alloc (.cells #[.pointer (some ⟨q, 0, none⟩)] 103) := by
  have hmf : ∀ (fn : Fn) (first cap : Array Value) (w : World), (Instr.makeFunc fn first cap).run Try.prog w = .ok (.func fn first cap) w := fun _ _ _ _ => rfl
  go_enter Try.func90, Try.ntmps90
  go_wp2_with fail
  exact bodyPost_ret (results_tmp rfl _ _ _) rfl ⟨rfl, rfl⟩
/-- What apart answers. -/
def AP (w' : World) (o : Option (List UInt8 × List UInt8)) (e : Ending) : Prop := match o with
  | none => e = .returned (.tuple #[.agg #[.slice none 0 0, .slice none 0 0], .bool false])
  | some (A, B) => ∃ va vb, e = .returned (.tuple #[.agg #[va, vb], .bool true]) ∧ BytesAt w' va A ∧ BytesAt w' vb B
/-- The world in which apart's loop begins. -/
structure PW (w W : World) (p q : Nat) : Prop where
  bw : Below w.heap.size w W
  size : W.heap.size = w.heap.size + 4
  t1 : W.there w.heap.size 0 2
  t2 : W.there (w.heap.size + 1) 0 1
  c1 : W.cell? ⟨w.heap.size + 2, 0, none⟩ = some (.pointer (some ⟨p, 0, none⟩))
  c2 : W.cell? ⟨w.heap.size + 3, 0, none⟩ = some (.pointer (some ⟨q, 0, none⟩))
  k1 : W.heap[w.heap.size]? = some (.cells #[.slice none 0 0, .slice none 0 0] 74 (0, 0))
  k2 : W.heap[w.heap.size + 1]? = some (.cells #[.bool false] 4 (0, 0))
theorem pw_start (w : World) (p q : Nat) : PW w ((((w.alloc (.cells #[.slice none 0 0, .slice none 0 0] 74)).alloc (.cells #[.bool false] 4)).alloc (.cells #[.pointer (some ⟨p, 0, none⟩)] 103)).alloc (.cells #[.pointer (some ⟨q, 0, none⟩)] 103)) p q := by
  have hb1 := al (Below.refl w.heap.size w) (.cells #[.slice none 0 0, .slice none 0 0] 74)
  have s1 : (w.alloc (.cells #[.slice none 0 0, .slice none 0 0] 74)).heap.size = w.heap.size + 1 := World.size_alloc _ _
  have t1 := there_new w #[.slice none 0 0, .slice none 0 0] 74
  have k1 := heap_alloc_new w (.cells #[.slice none 0 0, .slice none 0 0] 74)
  generalize w.alloc (.cells #[.slice none 0 0, .slice none 0 0] 74) = W1 at *
  have hb2 := al hb1 (.cells #[.bool false] 4)
  have s2 : (W1.alloc (.cells #[.bool false] 4)).heap.size = w.heap.size + 2 := by rw [World.size_alloc, s1]
  have t1' := World.there_alloc t1 (.cells #[.bool false] 4)
  have t2 := there_new W1 #[.bool false] 4
  have k2 := heap_alloc_new W1 (.cells #[.bool false] 4)
  have k1' := ((al (Below.refl W1.heap.size W1) (.cells #[.bool false] 4)).block w.heap.size (by rw [s1]; omega)).trans k1
  rw [s1] at t2 k2
  generalize W1.alloc (.cells #[.bool false] 4) = W2 at *
  have hb3 := al hb2 (.cells #[.pointer (some ⟨p, 0, none⟩)] 103)
  have s3 : (W2.alloc (.cells #[.pointer (some ⟨p, 0, none⟩)] 103)).heap.size = w.heap.size + 3 := by rw [World.size_alloc, s2]
  have t1'' := World.there_alloc t1' (.cells #[.pointer (some ⟨p, 0, none⟩)] 103)
  have t2' := World.there_alloc t2 (.cells #[.pointer (some ⟨p, 0, none⟩)] 103)
  have k1'' := ((al (Below.refl W2.heap.size W2) (.cells #[.pointer (some ⟨p, 0, none⟩)] 103)).block w.heap.size (by rw [s2]; omega)).trans k1'
  have k2' := ((al (Below.refl W2.heap.size W2) (.cells #[.pointer (some ⟨p, 0, none⟩)] 103)).block (w.heap.size + 1) (by rw [s2]; omega)).trans k2
  have c1 := range_new W2 #[.pointer (some ⟨p, 0, none⟩)] 103 _ rfl 0 _ rfl
  rw [s2] at c1
  generalize W2.alloc (.cells #[.pointer (some ⟨p, 0, none⟩)] 103) = W3 at *
  have hb4 := al hb3 (.cells #[.pointer (some ⟨q, 0, none⟩)] 103)
  have c2 := range_new W3 #[.pointer (some ⟨q, 0, none⟩)] 103 _ rfl 0 _ rfl
  rw [s3] at c2
  refine ⟨hb4, by rw [World.size_alloc, s3], World.there_alloc t1'' _, World.there_alloc t2' _, ?_, c2, ((al (Below.refl W3.heap.size W3) (.cells #[.pointer (some ⟨q, 0, none⟩)] 103)).block w.heap.size (by rw [s3]; omega)).trans k1'', ((al (Below.refl W3.heap.size W3) (.cells #[.pointer (some ⟨q, 0, none⟩)] 103)).block (w.heap.size + 1) (by rw [s3]; omega)).trans k2'⟩
  exact ((al (Below.refl W3.heap.size W3) (.cells #[.pointer (some ⟨q, 0, none⟩)] 103)).cell (p := ⟨w.heap.size + 2, 0, none⟩) (by rw [s3]; show w.heap.size + 2 < w.heap.size + 3; omega)).trans c1
/-- The two codes of a range over a function. -/
def findRange : Code → Option (Code × Code)
  | .seq a b => (findRange a).orElse fun _ => findRange b
  | .block _ c => findRange c
  | .rangeFunc _ _ a b => some (a, b)
  | _ => none
noncomputable def asgA : Code := ((findRange ((Try.f70.body).getD .skip)).getD (.skip, .skip)).1
noncomputable def bodA : Code := ((findRange ((Try.f70.body).getD .skip)).getD (.skip, .skip)).2
/-- The temporaries at the loop. -/
def TA (p q r : Nat) : Array Value := #[.pointer (some ⟨p, 0, none⟩), .pointer (some ⟨q, 0, none⟩), undef, undef, .pointer (some ⟨r, 0, none⟩), .pointer (some ⟨r + 1, 0, none⟩), undef, undef, .pointer (some ⟨p, 0, none⟩), .pointer (some ⟨q, 0, none⟩),
  .func (.func 104) #[] #[.pointer (some ⟨r + 2, 0, none⟩), .pointer (some ⟨r + 2 + 1, 0, none⟩)], undef, undef, undef, undef, undef, undef, undef, undef, undef, undef]
/-- The loop's record. -/
noncomputable def recA (fn p q r D : Nat) (st : LoopState) (pe : Option Code) : Loop := { state := st, pending := pe, fn := fn, tmps := TA p q r, params := #[11, 12], assign := asgA, body := bodA, defers := D }
/-- Between two rounds. -/
structure JW (w W0 : World) (fn p q : Nat) (W : World) : Prop where
  b : Below W0.heap.size W0 W
  l : W.heap[W0.heap.size + 1]? = some (.loop (recA fn p q w.heap.size W0.heap.size .ready none))
  d : W.heap[W0.heap.size]? = some (.deferred (some []))
/-- Where a round has told a clash. -/
structure JX (w W0 : World) (fn p q : Nat) (W : World) (A B : List UInt8) : Prop where
  b : Below w.heap.size w W
  l : W.heap[W0.heap.size + 1]? = some (.loop (recA fn p q w.heap.size W0.heap.size .done (some .ret)))
  d : W.heap[W0.heap.size]? = some (.deferred (some []))
  c : ∃ va vb, W.cell? ⟨w.heap.size, 0, none⟩ = some va ∧ W.cell? ⟨w.heap.size, 1, none⟩ = some vb ∧ BytesAt W va A ∧ BytesAt W vb B
  t : W.cell? ⟨w.heap.size + 1, 0, none⟩ = some (.bool true)
theorem JW.below {w W0 W W' : World} {fn p q : Nat} (h : JW w W0 fn p q W) (hb : Below W.heap.size W W') : JW w W0 fn p q W' :=
  ⟨h.b.trans (hb.mono h.b.size), (hb.block _ (Array.getElem?_eq_some_iff.1 h.l).1).trans h.l, (hb.block _ (Array.getElem?_eq_some_iff.1 h.d).1).trans h.d⟩
theorem cell_put {W : World} {k : Nat} {o : Obj} (o' : Obj) (ho : W.heap[k]? = some o) (hc : o.isCells = false) {a : Addr} {v : Value} (h : W.cell? a = some v) : (W.putObj k o').cell? a = some v := by
  have hne : a.block ≠ k := by
    intro e
    unfold World.cell? at h
    rw [e, ho] at h
    cases o <;> simp_all [Obj.isCells]
  exact (World.cell?_of_block (World.putObj_heap_other hne)).trans h
theorem frozen_put {W : World} {k : Nat} {o : Obj} (o' : Obj) (ho : W.heap[k]? = some o) (hc : o.isCells = false) {a : Addr} {v : Value} (h : W.cell? a = some v) : (W.putObj k o').frozen? a = W.frozen? a := by
  have hne : a.block ≠ k := by
    intro e
    unfold World.cell? at h
    rw [e, ho] at h
    cases o <;> simp_all [Obj.isCells]
  exact World.frozen?_of_block (World.putObj_heap_other hne)
theorem there_put {W : World} {k : Nat} {o : Obj} (o' : Obj) (ho : W.heap[k]? = some o) (hc : o.isCells = false) {b i n : Nat} (h : W.there b i n) : (W.putObj k o').there b i n := fun j hj => by
  obtain ⟨v, hv⟩ := Option.isSome_iff_exists.1 (h j hj).1
  exact ⟨by rw [cell_put o' ho hc hv]; rfl, by rw [frozen_put o' ho hc hv]; exact (h j hj).2⟩
theorem bytes_put {W : World} {k : Nat} {o : Obj} (o' : Obj) (ho : W.heap[k]? = some o) (hc : o.isCells = false) {v : Value} {l : List UInt8} (h : BytesAt W v l) : BytesAt (W.putObj k o') v l := by
  obtain ⟨a, cap, hv, h1, h2, h3⟩ := h
  refine ⟨a, cap, hv, h1, h2, ?_⟩
  rcases h3 with rfl | ⟨b, i, ha, hr⟩
  · exact .inl rfl
  · exact .inr ⟨b, i, ha, fun j u hj => cell_put o' ho hc (hr j u hj)⟩
/-- Bytes are not where no byte is. -/
theorem bytes_store {W : World} {v : Value} {l : List UInt8} (h : BytesAt W v l) {r : Nat} {C : Array Value} {t : TypeId} (hr : W.heap[r]? = some (.cells C t (0, 0))) (hC : ∀ x ∈ C.toList, ∀ n, x ≠ .int .u8 n) (i : Nat) (x : Value) : BytesAt (W.setCell ⟨r, i, none⟩ x) v l := by
  obtain ⟨a, cap, hv, h1, h2, h3⟩ := h
  refine ⟨a, cap, hv, h1, h2, ?_⟩
  rcases h3 with rfl | ⟨b, o, ha, hg⟩
  · exact .inl rfl
  · refine .inr ⟨b, o, ha, fun j u hj => ?_⟩
    have hne : b ≠ r := by
      intro e
      subst e
      have h4 := hg j u hj
      rw [cell_of_row W b (o + j) C t (0, 0) hr] at h4
      have hm : u ∈ C.toList := by
        rw [← Array.getElem?_toList] at h4
        exact List.mem_iff_getElem?.2 ⟨_, h4⟩
      have hu : ∃ c : UInt8, u = u8v c := by
        obtain ⟨hl, e2⟩ := List.getElem?_eq_some_iff.1 hj
        rw [← e2]
        simp only [cells8, List.getElem_map]
        exact ⟨_, rfl⟩
      obtain ⟨c, rfl⟩ := hu
      exact hC _ hm _ rfl
    exact (World.cell?_of_block (Below.heap_setCell W ⟨r, i, none⟩ x b hne)).trans (hg j u hj)
theorem below_put {W : World} {B k : Nat} (o' : Obj) (hk : k < W.heap.size) (hB : B ≤ k) : Below B W (W.putObj k o') :=
  (Below.refl B W).grown (grownBy_putObj' W k o') (by omega) (fun i e => by cases e; omega)
set_option maxRecDepth 100000 in
set_option maxHeartbeats 4000000 in
theorem round_any (w W0 : World) (fn p q : Nat) (h0 : PW w W0 p q) (W : World) (va vb : Value) (A B : List UInt8) (hJ : JW w W0 fn p q W) (ha : BytesAt W va A) (hb : BytesAt W vb B) :
    YieldAt Fence.wide 0 Try.prog (W0.heap.size + 1) #[va, vb] W fun e W' => (A = B ∧ e = .returned (.bool true) ∧ JW w W0 fn p q W') ∨ (A ≠ B ∧ e = .returned (.bool false) ∧ JX w W0 fn p q W' A B) := by
  obtain ⟨l, hl⟩ : ∃ l, l = W0.heap.size + 1 := ⟨_, rfl⟩
  obtain ⟨r, hr⟩ : ∃ r, r = w.heap.size := ⟨_, rfl⟩
  have hy := run_yield (P := Try.prog) (args := #[va, vb]) hJ.l (by rfl)
  refine ⟨fn, _, asgA, bodA, hy, roundIn_of_wpIn trivial ?_⟩
  rw [← hl, ← hr]
  refine (congrArg (fun t => Code.wpIn (Fence.wide.inRound l) 0 Try.prog asgA _ { tmps := t, defers := [] } W) (show _ = #[.pointer (some ⟨p, 0, none⟩), .pointer (some ⟨q, 0, none⟩), undef, undef, .pointer (some ⟨r, 0, none⟩), .pointer (some ⟨r + 1, 0, none⟩), undef, undef, .pointer (some ⟨p, 0, none⟩), .pointer (some ⟨q, 0, none⟩),
    .func (.func 104) #[] #[.pointer (some ⟨r + 2, 0, none⟩), .pointer (some ⟨r + 2 + 1, 0, none⟩)], va, vb, undef, undef, undef, undef, undef, undef, undef, undef] by unfold recA TA; simp)).mpr ?_
  have HJ := Lib.hid (And.intro hJ (And.intro ha (And.intro hb (And.intro hl (And.intro hr h0)))))
  clear hJ ha hb hl hr h0 hy
  conv => arg 4; whnf
  gi_wp2_with fail
  have hl : W.heap[l]? = some (.loop (recA fn p q r W0.heap.size .ready none)) := by rw [HJ.out.2.2.2.1, HJ.out.2.2.2.2.1]; exact HJ.out.1.l
  have hD : W.heap[W0.heap.size]? = some (.deferred (some [])) := HJ.out.1.d
  have hll : W0.heap.size < l := by have := HJ.out.2.2.2.1; omega
  have hrl : r + 4 = W0.heap.size := by have := HJ.out.2.2.2.2.2.size; have := HJ.out.2.2.2.2.1; omega
  have hlW : l < W.heap.size := (Array.getElem?_eq_some_iff.1 hl).1
  refine ⟨_, run_beginRound hl rfl, ?_⟩
  have ht1 := HJ.out.2.2.2.2.2.t1
  have ht2 := HJ.out.2.2.2.2.2.t2
  have hk1 := HJ.out.2.2.2.2.2.k1
  have hk2 := HJ.out.2.2.2.2.2.k2
  rw [← HJ.out.2.2.2.2.1] at ht1 ht2 hk1 hk2
  have kk := Keeps.of_below (X := fun _ => False) HJ.out.1.b
  have HS := Lib.hid (show (W.putObj l (.loop (recA fn p q r W0.heap.size .busy none))).heap[l]? = some (.loop (recA fn p q r W0.heap.size .busy none)) ∧ (W.putObj l (.loop (recA fn p q r W0.heap.size .busy none))).heap[W0.heap.size]? = some (.deferred (some [])) ∧ BytesAt (W.putObj l (.loop (recA fn p q r W0.heap.size .busy none))) va A ∧ BytesAt (W.putObj l (.loop (recA fn p q r W0.heap.size .busy none))) vb B ∧ (W.putObj l (.loop (recA fn p q r W0.heap.size .busy none))).there r 0 2 ∧ (W.putObj l (.loop (recA fn p q r W0.heap.size .busy none))).there (r + 1) 0 1 ∧ Below W0.heap.size W0 (W.putObj l (.loop (recA fn p q r W0.heap.size .busy none))) ∧ (W.putObj l (.loop (recA fn p q r W0.heap.size .busy none))).heap[r]? = some (.cells #[.slice none 0 0, .slice none 0 0] 74 (0, 0)) ∧ (W.putObj l (.loop (recA fn p q r W0.heap.size .busy none))).heap[r + 1]? = some (.cells #[.bool false] 4 (0, 0)) from
    ⟨World.putObj_heap_same hlW, (World.putObj_heap_other (by omega)).trans hD, bytes_put _ hl rfl HJ.out.2.1, bytes_put _ hl rfl HJ.out.2.2.1, there_put _ hl rfl (kk.there ht1 (by decide) (fun h => h)), there_put _ hl rfl (kk.there ht2 (by decide) (fun h => h)), HJ.out.1.b.trans (below_put _ hlW (by omega)), (World.putObj_heap_other (by omega)).trans ((HJ.out.1.b.block r (by omega)).trans hk1), (World.putObj_heap_other (by omega)).trans ((HJ.out.1.b.block (r + 1) (by omega)).trans hk2)⟩)
  have HL := Lib.hid (And.intro hll hrl)
  clear hl hD hll hrl hlW ht1 ht2 kk hk1 hk2
  change Code.wpIn _ _ _ bodA _ _ (W.putObj l (.loop (recA fn p q r W0.heap.size .busy none)))
  generalize W.putObj l (.loop (recA fn p q r W0.heap.size .busy none)) = W1 at *
  conv => arg 4; whnf
  by_cases hab : A = B
  · have HAB := Lib.hid hab
    have hdec : decide (A = B) = true := decide_eq_true hab
    clear hab
    gi_wp2_with fail
    refine ⟨trivial, rfl, ?_⟩
    refine (CallsIn.inRound l (callsIn_wide.2 (eqb_any A B va vb _ HS.out.2.2.1 HS.out.2.2.2.1))).mono ?_
    rintro e w' ⟨rfl, rfl⟩
    rw [hdec]
    clear hdec
    gi_wp2_with fail
    refine ⟨_, _, run_endRound none HS.out.1, .inl ⟨HAB.out, rfl, ?_⟩⟩
    have hlt : l < W1.heap.size := (Array.getElem?_eq_some_iff.1 HS.out.1).1
    refine ⟨HS.out.2.2.2.2.2.2.1.trans (below_put _ hlt (by have := HL.out; omega)), ?_, ?_⟩
    · rw [← HJ.out.2.2.2.1, ← HJ.out.2.2.2.2.1]
      exact World.putObj_heap_same hlt
    · exact (World.putObj_heap_other (by have := HL.out; omega)).trans HS.out.2.1
  · have HAB := Lib.hid hab
    have hdec : decide (A = B) = false := decide_eq_false hab
    clear hab
    obtain ⟨aa, ca, hva, -⟩ := HS.out.2.2.1
    obtain ⟨ab, cb, hvb, -⟩ := HS.out.2.2.2.1
    subst hva hvb
    gi_wp2_with fail
    refine ⟨trivial, rfl, ?_⟩
    refine (CallsIn.inRound l (callsIn_wide.2 (eqb_any A B _ _ _ HS.out.2.2.1 HS.out.2.2.2.1))).mono ?_
    rintro e w' ⟨rfl, rfl⟩
    rw [hdec]
    clear hdec
    obtain ⟨u0, hu0⟩ := Option.isSome_iff_exists.1 (HS.out.2.2.2.2.1 0 (by omega)).1
    obtain ⟨u1, hu1⟩ := Option.isSome_iff_exists.1 (HS.out.2.2.2.2.1 1 (by omega)).1
    obtain ⟨u2, hu2⟩ := Option.isSome_iff_exists.1 (HS.out.2.2.2.2.2.1 0 (by omega)).1
    have f0 := (HS.out.2.2.2.2.1 0 (by omega)).2
    have f1 := (HS.out.2.2.2.2.1 1 (by omega)).2
    have f2 := (HS.out.2.2.2.2.2.1 0 (by omega)).2
    rw [Nat.zero_add] at hu0 hu1 hu2 f0 f1 f2
    gi_wp2_with fail
    clear hu0 hu1 hu2 f0 f1 f2
    have hrl := HL.out
    have hk1 := HS.out.2.2.2.2.2.2.2.1
    have hk2 := HS.out.2.2.2.2.2.2.2.2
    have g1 := bytes_store HS.out.2.2.1 hk1 (by simp) 0 (.slice aa A.length ca)
    have g2 := bytes_store HS.out.2.2.2.1 hk1 (by simp) 0 (.slice aa A.length ca)
    have m1 := heap_setCell_same W1 r 0 _ _ (.slice aa A.length ca) hk1
    have m2 := (Below.heap_setCell W1 ⟨r, 0, none⟩ (.slice aa A.length ca) (r + 1) (by show r + 1 ≠ r; omega)).trans hk2
    have ml := (Below.heap_setCell W1 ⟨r, 0, none⟩ (.slice aa A.length ca) l (by show l ≠ r; omega)).trans HS.out.1
    have md := (Below.heap_setCell W1 ⟨r, 0, none⟩ (.slice aa A.length ca) W0.heap.size (by show W0.heap.size ≠ r; omega)).trans HS.out.2.1
    have mb : Below r W1 (W1.setCell ⟨r, 0, none⟩ (.slice aa A.length ca)) := (Below.refl r W1).setCell (p := ⟨r, 0, none⟩) (Nat.le_refl _) _
    generalize W1.setCell ⟨r, 0, none⟩ (.slice aa A.length ca) = V1 at *
    have g1' := bytes_store g1 m1 (by simp) 1 (.slice ab B.length cb)
    have g2' := bytes_store g2 m1 (by simp) 1 (.slice ab B.length cb)
    have m1' := heap_setCell_same V1 r 1 _ _ (.slice ab B.length cb) m1
    have m2' := (Below.heap_setCell V1 ⟨r, 1, none⟩ (.slice ab B.length cb) (r + 1) (by show r + 1 ≠ r; omega)).trans m2
    have ml' := (Below.heap_setCell V1 ⟨r, 1, none⟩ (.slice ab B.length cb) l (by show l ≠ r; omega)).trans ml
    have md' := (Below.heap_setCell V1 ⟨r, 1, none⟩ (.slice ab B.length cb) W0.heap.size (by show W0.heap.size ≠ r; omega)).trans md
    have mb' : Below r W1 (V1.setCell ⟨r, 1, none⟩ (.slice ab B.length cb)) := mb.setCell (p := ⟨r, 1, none⟩) (Nat.le_refl _) _
    generalize V1.setCell ⟨r, 1, none⟩ (.slice ab B.length cb) = V2 at *
    have g1'' := bytes_store g1' m2' (by simp) 0 (.bool true)
    have g2'' := bytes_store g2' m2' (by simp) 0 (.bool true)
    have m1'' := (Below.heap_setCell V2 ⟨r + 1, 0, none⟩ (.bool true) r (by show r ≠ r + 1; omega)).trans m1'
    have m2'' := heap_setCell_same V2 (r + 1) 0 _ _ (.bool true) m2'
    have ml'' := (Below.heap_setCell V2 ⟨r + 1, 0, none⟩ (.bool true) l (by show l ≠ r + 1; omega)).trans ml'
    have md'' := (Below.heap_setCell V2 ⟨r + 1, 0, none⟩ (.bool true) W0.heap.size (by show W0.heap.size ≠ r + 1; omega)).trans md'
    have mb'' : Below r W1 (V2.setCell ⟨r + 1, 0, none⟩ (.bool true)) := mb'.setCell (p := ⟨r + 1, 0, none⟩) (by show r ≤ r + 1; omega) _
    generalize V2.setCell ⟨r + 1, 0, none⟩ (.bool true) = V3 at *
    have hlt : l < V3.heap.size := (Array.getElem?_eq_some_iff.1 ml'').1
    refine ⟨_, _, run_endRound (some .ret) ml'', .inr ⟨HAB.out, rfl, ?_⟩⟩
    have cc0 : V3.cell? ⟨r, 0, none⟩ = some (.slice aa A.length ca) := by rw [cell_of_row V3 r 0 _ _ (0, 0) m1'']; rfl
    have cc1 : V3.cell? ⟨r, 1, none⟩ = some (.slice ab B.length cb) := by rw [cell_of_row V3 r 1 _ _ (0, 0) m1'']; rfl
    have cc2 : V3.cell? ⟨r + 1, 0, none⟩ = some (.bool true) := by rw [cell_of_row V3 (r + 1) 0 _ _ (0, 0) m2'']; rfl
    have hbw : Below r w V3 := by
      have h1 := HJ.out.2.2.2.2.2.bw
      rw [← HJ.out.2.2.2.2.1] at h1
      have h2 : Below r w W1 := h1.trans (HS.out.2.2.2.2.2.2.1.mono (by omega))
      exact h2.trans mb''
    have e1 := HJ.out.2.2.2.1
    have e2 := HJ.out.2.2.2.2.1
    refine ⟨?_, ?_, ?_, ?_, ?_⟩
    · rw [← e2]; exact hbw.trans (below_put _ hlt (by omega))
    · rw [← e1, ← e2]; exact World.putObj_heap_same hlt
    · exact (World.putObj_heap_other (by omega)).trans md''
    · rw [← e2]; exact ⟨_, _, cell_put _ ml'' rfl cc0, cell_put _ ml'' rfl cc1, bytes_put _ ml'' rfl g1'', bytes_put _ ml'' rfl g2''⟩
    · rw [← e2]; exact cell_put _ ml'' rfl cc2
theorem results_clash (tmps : Array Value) (w : World) (r : Nat) (va vb : Value) (b : Bool) (h4 : tmps.getD 4 undef = .pointer (some ⟨r, 0, none⟩)) (h5 : tmps.getD 5 undef = .pointer (some ⟨r + 1, 0, none⟩))
    (c0 : w.cell? ⟨r, 0, none⟩ = some va) (c1 : w.cell? ⟨r, 1, none⟩ = some vb) (c2 : w.cell? ⟨r + 1, 0, none⟩ = some (.bool b)) : (results Try.f70 tmps).run Try.prog w = .ok (.tuple #[.agg #[va, vb], .bool b]) w := by
  have h4' : tmps[4]?.getD undef = .pointer (some ⟨r, 0, none⟩) := by simpa using h4
  have h5' : tmps[5]?.getD undef = .pointer (some ⟨r + 1, 0, none⟩) := by simpa using h5
  simp [results, Try.results70, h4', h5', asAddr, go_sem, c0, c1, c2]
theorem enters_down1 : ∀ args w, (callFunc 104 args).run Try.prog w = .ok (.enter 104 args) w := enters_of Try.func104 (by kernel_rfl) rfl
set_option maxRecDepth 100000 in
set_option maxHeartbeats 4000000 in
theorem part_any (p q : Nat) (LV LU : List (Sum × Sum)) (r1 r2 : Sum) (vv vu : Value) (ev eu : List UInt8) (w : World) (hp : WayAt w p r1 LV vv ev) (hq : WayAt w q r2 LU vu eu) (hV : LV.length = 256) (hU : LU.length = 256) :
    Calls Try.prog 70 #[.pointer (some ⟨p, 0, none⟩), .pointer (some ⟨q, 0, none⟩)] w fun e w' => AP w' (part (steps LV ev) (steps LU eu)) e ∧ Below w.heap.size w w' := by
  have HH := Lib.hid (And.intro hp (And.intro hq (And.intro hV hU)))
  clear hp hq hV hU
  refine (callsIn_wide (n := 2)).1 (callsIn_of_wp_marks Try.func70 rfl trivial ?_)
  simp only [Try.ntmps70, List.size_toArray, List.length_cons, List.length_nil, Nat.reduceAdd, Nat.reduceSub, Array.replicate_succ, Array.replicate_zero, List.push_toArray, List.append_toArray, List.nil_append, List.cons_append]
  refine wpIn_wide.2 ?_
  go_wp2_with fail
  refine (down_any p q _).mono ?_
  rintro e W0 ⟨rfl, hw0⟩
  have hpw := pw_start w p q
  have e3 : (((w.alloc (.cells #[.slice none 0 0, .slice none 0 0] 74)).alloc (.cells #[.bool false] 4))).heap.size = w.heap.size + 2 := by rw [World.size_alloc, World.size_alloc]
  rw [← hw0] at hpw
  have HW0 := Lib.hid hw0
  have HPW := Lib.hid hpw
  have HE3 := Lib.hid e3
  clear hw0 hpw e3
  rw [HE3.out]
  go_wp2_with fail
  refine (wpIn_wide (n := 2)).1 ?_
  refine wpIn_rangeFunc ?_
  intro fn _
  rw [show Fence.wide.round = none from rfl]
  obtain ⟨W1, hW1⟩ : ∃ W1, W1 = (W0.alloc (.deferred (some []))).alloc (.loop (recA fn p q w.heap.size W0.heap.size .ready none)) := ⟨_, rfl⟩
  refine ⟨W0.heap.size + 1, [{ target := .collected W0.heap.size, args := #[] }], W1, { target := .fn (.func 104) #[.pointer (some ⟨w.heap.size + 2, 0, none⟩), .pointer (some ⟨w.heap.size + 2 + 1, 0, none⟩)], args := #[.func (.yield (W0.heap.size + 1)) #[] #[]] }, W1, 104, #[.func (.yield (W0.heap.size + 1)) #[] #[], .pointer (some ⟨w.heap.size + 2, 0, none⟩), .pointer (some ⟨w.heap.size + 2 + 1, 0, none⟩)], W1, ?_, ?_, fun _ _ => trivial, ?_, fun _ => (by omega), ?_⟩
  · rw [hW1]; exact run_enterLoop_outer _ _ _ _ _
  · simp [resolve, go_sem]
  · simp [invoke, go_sem]
  have hJ0 : JW w W0 fn p q ((W0.alloc (.deferred (some []))).alloc (.loop (recA fn p q w.heap.size W0.heap.size .ready none))) := by
    refine ⟨al (al (Below.refl _ _) _) _, ?_, ?_⟩
    · have := World.alloc_heap_new (W0.alloc (.deferred (some []))) (.loop (recA fn p q w.heap.size W0.heap.size .ready none))
      rwa [World.size_alloc] at this
    · exact (Below.heap_alloc _ _ _ (by simp)).trans (World.alloc_heap_new W0 _)
  rw [← hW1] at hJ0
  have HJ0 := Lib.hid hJ0
  clear hJ0 hW1
  have hit : IterOf (W0.heap.size + 1) (w.heap.size + 2) (w.heap.size + 2 + 1) p q LV LU r1 r2 vv vu ev eu (JW w W0 fn p q) (JX w W0 fn p q) := by
    refine ⟨fun W W' h hb => h.below hb, fun W h => ?_, fun W h => ?_, fun W va vb A B h ha hb => round_any w W0 fn p q HPW.out W va vb A B h ha hb⟩
    · have kk := Keeps.of_below (X := fun _ => False) h.b
      exact ⟨kk.cell HPW.out.c1 (fun h => h), kk.cell HPW.out.c2 (fun h => h)⟩
    · have hb := HPW.out.bw.trans (h.b.mono HPW.out.bw.size)
      exact ⟨HH.out.1.below hb, HH.out.2.1.below hb⟩
  refine (callsIn_wide.2 (down1_any (W0.heap.size + 1) (w.heap.size + 2) (w.heap.size + 2 + 1) p q LV LU r1 r2 vv vu ev eu (JW w W0 fn p q) (JX w W0 fn p q) hit HH.out.2.2.1 HH.out.2.2.2 W1 HJ0.out)).mono ?_
  clear hit
  rintro e W2 ⟨rfl, (⟨hnone, hJ⟩ | ⟨A, B, hsome, hX⟩)⟩
  · have hlt : W0.heap.size + 1 < W2.heap.size := (Array.getElem?_eq_some_iff.1 hJ.l).1
    obtain ⟨W3, hend, hb3, hd3⟩ : ∃ W3, (Instr.endLoop (W0.heap.size + 1)).run Try.prog W2 = .ok none W3 ∧ Below W0.heap.size W0 W3 ∧ W3.heap[W0.heap.size]? = some (.deferred (some [])) :=
      ⟨_, run_endLoop (P := Try.prog) hJ.l (by intro h; cases h), hJ.b.trans (below_put _ hlt (by omega)), (World.putObj_heap_other (by omega)).trans hJ.d⟩
    have HN := Lib.hid (And.intro hnone (And.intro hb3 hd3))
    refine ⟨none, W3, hend, ?_⟩
    clear hnone hJ hlt hend hb3 hd3
    have kk := Keeps.of_below (X := fun _ => False) HN.out.2.1
    have ht1 := kk.there HPW.out.t1 (by decide) (fun h => h)
    have ht2 := kk.there HPW.out.t2 (by decide) (fun h => h)
    have HT := Lib.hid (And.intro ht1 ht2)
    obtain ⟨r, hr⟩ : ∃ r, r = w.heap.size := ⟨_, rfl⟩
    have HR := Lib.hid hr
    rw [← hr] at ht1 ht2
    obtain ⟨u0, hu0⟩ := Option.isSome_iff_exists.1 (ht1 0 (by omega)).1
    obtain ⟨u1, hu1⟩ := Option.isSome_iff_exists.1 (ht1 1 (by omega)).1
    obtain ⟨u2, hu2⟩ := Option.isSome_iff_exists.1 (ht2 0 (by omega)).1
    have f0 := (ht1 0 (by omega)).2
    have f1 := (ht1 1 (by omega)).2
    have f2 := (ht2 0 (by omega)).2
    rw [Nat.zero_add] at hu0 hu1 hu2 f0 f1 f2
    rw [← hr]
    clear kk ht1 ht2 hr
    go_wp2_with fail
    have hsz := HPW.out.size
    rw [← HR.out] at hsz
    have hb3 := HN.out.2.1
    have hk := HN.out.2.2
    have b1 := (Below.refl r W3).setCell (p := ⟨r, 0, none⟩) (Nat.le_refl _) (.slice none 0 0)
    have a0 : (W3.setCell ⟨r, 0, none⟩ (.slice none 0 0)).cell? ⟨r, 0, none⟩ = some (.slice none 0 0) := World.cell?_setCell_same _ _ _ hu0
    have a1 : (W3.setCell ⟨r, 0, none⟩ (.slice none 0 0)).cell? ⟨r, 1, none⟩ = some u1 := (World.cell?_setCell_other _ _ _ _ (by simp)).trans hu1
    have a2 : (W3.setCell ⟨r, 0, none⟩ (.slice none 0 0)).cell? ⟨r + 1, 0, none⟩ = some u2 := (World.cell?_setCell_other _ _ _ _ (by simp)).trans hu2
    have hk1 := (Below.heap_setCell W3 ⟨r, 0, none⟩ (.slice none 0 0) W0.heap.size (by show W0.heap.size ≠ r; omega)).trans hk
    generalize W3.setCell ⟨r, 0, none⟩ (.slice none 0 0) = V1 at *
    have b2 := b1.setCell (p := ⟨r, 1, none⟩) (Nat.le_refl _) (.slice none 0 0)
    have a0' : (V1.setCell ⟨r, 1, none⟩ (.slice none 0 0)).cell? ⟨r, 0, none⟩ = some (.slice none 0 0) := (World.cell?_setCell_other _ _ _ _ (by simp)).trans a0
    have a1' : (V1.setCell ⟨r, 1, none⟩ (.slice none 0 0)).cell? ⟨r, 1, none⟩ = some (.slice none 0 0) := World.cell?_setCell_same _ _ _ a1
    have a2' : (V1.setCell ⟨r, 1, none⟩ (.slice none 0 0)).cell? ⟨r + 1, 0, none⟩ = some u2 := (World.cell?_setCell_other _ _ _ _ (by simp)).trans a2
    have hk2 := (Below.heap_setCell V1 ⟨r, 1, none⟩ (.slice none 0 0) W0.heap.size (by show W0.heap.size ≠ r; omega)).trans hk1
    generalize V1.setCell ⟨r, 1, none⟩ (.slice none 0 0) = V2 at *
    have b3 := b2.setCell (p := ⟨r + 1, 0, none⟩) (by show r ≤ r + 1; omega) (.bool false)
    have a0'' : (V2.setCell ⟨r + 1, 0, none⟩ (.bool false)).cell? ⟨r, 0, none⟩ = some (.slice none 0 0) := (World.cell?_setCell_other _ _ _ _ (by simp)).trans a0'
    have a1'' : (V2.setCell ⟨r + 1, 0, none⟩ (.bool false)).cell? ⟨r, 1, none⟩ = some (.slice none 0 0) := (World.cell?_setCell_other _ _ _ _ (by simp)).trans a1'
    have a2'' : (V2.setCell ⟨r + 1, 0, none⟩ (.bool false)).cell? ⟨r + 1, 0, none⟩ = some (.bool false) := World.cell?_setCell_same _ _ _ a2'
    have hk3 := (Below.heap_setCell V2 ⟨r + 1, 0, none⟩ (.bool false) W0.heap.size (by show W0.heap.size ≠ r + 1; omega)).trans hk2
    generalize V2.setCell ⟨r + 1, 0, none⟩ (.bool false) = V3 at *
    have hlt : W0.heap.size < V3.heap.size := (Array.getElem?_eq_some_iff.1 hk3).1
    have hbw : Below r w V3 := by
      have h1 := HPW.out.bw
      rw [← HR.out] at h1
      exact (h1.trans (hb3.mono (by omega))).trans b3
    refine ⟨by simp, .inl ⟨_, _, rfl, run_takeDeferred hk3, ?_⟩⟩
    refine ⟨_, results_clash _ _ r _ _ _ rfl rfl (cell_put _ hk3 rfl a0'') (cell_put _ hk3 rfl a1'') (cell_put _ hk3 rfl a2''), ?_⟩
    rw [HN.out.1, ← HR.out]
    exact ⟨rfl, hbw.trans (below_put _ hlt (by omega))⟩
  · have hlt : W0.heap.size + 1 < W2.heap.size := (Array.getElem?_eq_some_iff.1 hX.l).1
    obtain ⟨va, vb, x0, x1, y0, y1⟩ := hX.c
    obtain ⟨W3, hend, hb3, hd3, z0, z1, z2, w0, w1⟩ : ∃ W3, (Instr.endLoop (W0.heap.size + 1)).run Try.prog W2 = .ok (some .ret) W3 ∧ Below w.heap.size w W3 ∧ W3.heap[W0.heap.size]? = some (.deferred (some [])) ∧ W3.cell? ⟨w.heap.size, 0, none⟩ = some va ∧ W3.cell? ⟨w.heap.size, 1, none⟩ = some vb ∧ W3.cell? ⟨w.heap.size + 1, 0, none⟩ = some (.bool true) ∧ BytesAt W3 va A ∧ BytesAt W3 vb B :=
      ⟨_, run_endLoop (P := Try.prog) hX.l (by intro h; cases h), hX.b.trans (below_put _ hlt (by have := HPW.out.size; omega)), (World.putObj_heap_other (by omega)).trans hX.d, cell_put _ hX.l rfl x0, cell_put _ hX.l rfl x1, cell_put _ hX.l rfl hX.t, bytes_put _ hX.l rfl y0, bytes_put _ hX.l rfl y1⟩
    have HN := Lib.hid (And.intro hsome (And.intro hb3 (And.intro hd3 (And.intro z0 (And.intro z1 (And.intro z2 (And.intro w0 w1)))))))
    refine ⟨some .ret, W3, hend, ?_⟩
    clear hsome hX hlt hend hb3 hd3 x0 x1 y0 y1 z0 z1 z2 w0 w1
    show Code.wpIn Fence.wide 2 Try.prog .ret _ _ W3
    refine wpIn_wide.2 ?_
    go_wp2_with fail
    have hk3 := HN.out.2.2.1
    have hlt : W0.heap.size < W3.heap.size := (Array.getElem?_eq_some_iff.1 hk3).1
    refine ⟨by simp, .inl ⟨_, _, rfl, run_takeDeferred hk3, ?_⟩⟩
    refine ⟨_, results_clash _ _ w.heap.size _ _ _ rfl rfl (cell_put _ hk3 rfl HN.out.2.2.2.1) (cell_put _ hk3 rfl HN.out.2.2.2.2.1) (cell_put _ hk3 rfl HN.out.2.2.2.2.2.1), ?_⟩
    rw [HN.out.1]
    exact ⟨⟨_, _, rfl, bytes_put _ hk3 rfl HN.out.2.2.2.2.2.2.1, bytes_put _ hk3 rfl HN.out.2.2.2.2.2.2.2⟩, HN.out.2.1.trans (below_put _ hlt (by have := HPW.out.size; omega))⟩
end Go.Proofs.Ytfmgoehnbaiamaa
-- Walks: splits.Maps, splits.Show, splits.Two.
namespace Go.Proofs.Ytfmgoehnbaiamaa
theorem infoClash : (Try.prog.info? 74).map (·.size) = some 2 := by kernel_rfl
theorem wpList_store_clash {ops : Array Oper} {rest : List Oper} {op : Oper} {a : Act} {w : World} {Q : Exit → Act → World → Prop} (hgd : op.guard = none) (x y : Operand) (ho : op.op = .store 74 x y)
    (b : Nat) (va vb : Value) (hx : a.eval x = .pointer (some ⟨b, 0, none⟩)) (hy : a.eval y = .agg #[va, vb]) (h1 : va.oneCell' = true) (h2 : vb.oneCell' = true) (ht : w.there b 0 2)
    (h : wpList Try.prog ops Q rest (a.put op.dst undef) (w.setCells b 0 [va, vb])) : wpList Try.prog ops Q (op :: rest) a w :=
  wpList_store_mid hgd _ x y ho b 0 _ hx hy ht infoClash (by simp [h1, h2]) h
theorem bytes_form {w : World} {v : Value} {l : List UInt8} (h : BytesAt w v l) : ∃ a n c, v = .slice a n c := by
  obtain ⟨a, c, rfl, _⟩ := h
  exact ⟨a, _, c, rfl⟩
/-- What is told is no byte of the result's own. -/
theorem bytes_clash {W : World} {v : Value} {l : List UInt8} (h : BytesAt W v l) {q : Nat} {t : TypeId} (hq : W.heap[q]? = some (.cells #[.slice none 0 0, .slice none 0 0] t (0, 0))) (a : Option Addr) (n c : Nat) (a' : Option Addr) (n' c' : Nat) :
    BytesAt (W.setCells q 0 [.slice a n c, .slice a' n' c']) v l := by
  have g1 := bytes_store h hq (by simp) 0 (.slice a n c)
  have m1 := heap_setCell_same W q 0 _ _ (.slice a n c) hq
  exact bytes_store g1 m1 (by simp) 1 (.slice a' n' c')
/-- A result that is a clash, of one's own. -/
structure QW (w W : World) (q : Nat) : Prop where
  bw : Below w.heap.size w W
  k : W.heap[q]? = some (.cells #[.slice none 0 0, .slice none 0 0] 74 (0, 0))
theorem QW.below {w W W' : World} {q : Nat} (h : QW w W q) (hb : Below W.heap.size W W') : QW w W' q := ⟨h.bw.trans (hb.mono h.bw.size), (hb.block q (Array.getElem?_eq_some_iff.1 h.k).1).trans h.k⟩
theorem QW.there {w W : World} {q : Nat} (h : QW w W q) : W.there q 0 2 := fun j hj => by
  refine ⟨?_, frozen_of_row W q _ _ _ h.k⟩
  rw [cell_of_row W q (0 + j) _ _ (0, 0) h.k]
  match j, hj with
  | 0, _ => rfl
  | 1, _ => rfl
theorem QW.start (w : World) : QW w (w.alloc (.cells #[.slice none 0 0, .slice none 0 0] 74)) w.heap.size := ⟨al (Below.refl _ _) _, heap_alloc_new w _⟩
theorem small_len {P : List Keys.Pr} (h : Small P) (k : Sum) : (Keys.get P k).length < 140737488355000 := by
  unfold Keys.get
  cases hf : P.find? (fun p => decide (p.1 = k)) with
  | none => simp
  | some p => exact h p (List.mem_of_find?_eq_some hf)
set_option maxRecDepth 100000 in
set_option maxHeartbeats 4000000 in
theorem smaps_any (A B : List Keys.Pr) (va vb : Value) (w : World) (ha : PairsAt w va A) (hb : PairsAt w vb B) (hA : A.length < 100000) (hB : B.length < 100000) (sA : Small A) (sB : Small B) :
    Calls Try.prog 44 #[va, vb] w fun e w' => AP w' (mapsClash A B) e ∧ Below w.heap.size w w' := by
  obtain ⟨aa, ca, hva, _⟩ := pairs_form ha
  obtain ⟨ab, cb, hvb, _⟩ := pairs_form hb
  subst hva hvb
  have HV := Lib.hid (And.intro ha (And.intro hb (And.intro hA (And.intro hB (And.intro sA sB)))))
  clear ha hb hA hB sA sB
  obtain ⟨NA, hNA⟩ : ∃ N, N = A.length := ⟨_, rfl⟩
  obtain ⟨NB, hNB⟩ : ∃ N, N = B.length := ⟨_, rfl⟩
  rw [← hNA] at HV ⊢
  rw [← hNB] at HV ⊢
  have HL := Lib.hid (And.intro hNA hNB)
  clear hNA hNB
  obtain ⟨q, hq⟩ : ∃ q, q = w.heap.size := ⟨_, rfl⟩
  have HQ := Lib.hid (show w.heap.size ≤ q by rw [hq]; exact Nat.le_refl _)
  have HQE := Lib.hid hq
  have hst := QW.start w
  rw [← hq] at hst
  have H0 := Lib.hid hst
  clear hq hst
  go_enter Try.func44, Try.ntmps44
  go_wp2_with fail
  rw [← HQE.out]
  have hm1 := may_any A _ (w.alloc (.cells #[.slice none 0 0, .slice none 0 0] 74)) (HV.out.1.below H0.out.bw) (by rw [← HL.out.1]; exact HV.out.2.2.1)
  generalize w.alloc (.cells #[.slice none 0 0, .slice none 0 0] 74) = W0 at *
  refine hm1.mono ?_
  clear hm1
  rintro e W1 ⟨m1, rfl, hm1, hb⟩
  have H1 := Lib.hid (H0.out.below hb)
  have HM1 := Lib.hid hm1
  clear hb hm1 H0
  cases m1 with
  | false =>
    have HN := Lib.hid (show mapsClash A B = none by unfold mapsClash; rw [if_neg (fun h => by have := HM1.out.2 h.1; cases this)])
    go_wp2_with (refine wpList_store_clash rfl _ _ rfl q (.slice none 0 0) (.slice none 0 0) rfl rfl rfl rfl H1.out.there ?_)
    try rw [Exit.noGoto_ret]
    refine bodyPost_ret (results_cell_tmp Try.results44 _ _ q 0 [.slice none 0 0, .slice none 0 0] _ rfl (range_stored _ _ _ _ (World.there_setCells H1.out.there _ _ _)) Try.underlying74 rfl infoClash) rfl ?_
    exact ⟨by rw [HN.out]; rfl, setCells_below _ HQ.out _ _ _ _ H1.out.bw⟩
  | true =>
    have hMA := HM1.out.1 rfl
    have HMA := Lib.hid hMA
    clear hMA
    go_wp2_with fail
    refine (may_any B _ W1 (HV.out.2.1.below H1.out.bw) (by rw [← HL.out.2]; exact HV.out.2.2.2.1)).mono ?_
    rintro e W2 ⟨m2, rfl, hm2, hb⟩
    have H2 := Lib.hid (H1.out.below hb)
    have HM2 := Lib.hid hm2
    clear hb hm2 H1
    cases m2 with
    | false =>
      have HN := Lib.hid (show mapsClash A B = none by unfold mapsClash; rw [if_neg (fun h => by have := HM2.out.2 h.2; cases this)])
      go_wp2_with (refine wpList_store_clash rfl _ _ rfl q (.slice none 0 0) (.slice none 0 0) rfl rfl rfl rfl H2.out.there ?_)
      try rw [Exit.noGoto_ret]
      refine bodyPost_ret (results_cell_tmp Try.results44 _ _ q 0 [.slice none 0 0, .slice none 0 0] _ rfl (range_stored _ _ _ _ (World.there_setCells H2.out.there _ _ _)) Try.underlying74 rfl infoClash) rfl ?_
      exact ⟨by rw [HN.out]; rfl, setCells_below _ HQ.out _ _ _ _ H2.out.bw⟩
    | true =>
      have hMB := HM2.out.1 rfl
      have HMB := Lib.hid hMB
      clear hMB
      go_wp2_with fail
      refine (other_any A B _ _ W2 (HV.out.1.below H2.out.bw) (HV.out.2.1.below H2.out.bw) (by rw [← HL.out.1]; exact HV.out.2.2.1) (by rw [← HL.out.2]; exact HV.out.2.2.2.1)).mono ?_
      rintro e W3 ⟨⟨x, b, rfl, ho1, ho2⟩, hb⟩
      have H3 := Lib.hid (H2.out.below hb)
      have HO12 := Lib.hid (And.intro ho1 ho2)
      clear hb ho1 ho2 H2
      have HG := Lib.hid trivial
      cases b with
      | false =>
        have HN := Lib.hid (show mapsClash A B = none by
          unfold mapsClash
          rw [if_pos ⟨HMA.out, HMB.out⟩]
          cases ho : otherK A B with
          | none => rfl
          | some k => have := (HO12.out.1 k ho).2; cases this)
        go_wp2_with (first
          | (have _ := HG; refine wpList_var_sum (by rfl) rfl _ _ rfl x rfl rfl ?_; intro W4 hb hr _; have H4 := Lib.hid (H3.out.below hb); clear HG hb hr)
          | (have _ := H4; refine wpList_store_clash rfl _ _ rfl q (.slice none 0 0) (.slice none 0 0) rfl rfl rfl rfl H4.out.there ?_))
        try rw [Exit.noGoto_ret]
        refine bodyPost_ret (results_cell_tmp Try.results44 _ _ q 0 [.slice none 0 0, .slice none 0 0] _ rfl (range_stored _ _ _ _ (World.there_setCells H4.out.there _ _ _)) Try.underlying74 rfl infoClash) rfl ?_
        exact ⟨by rw [HN.out]; rfl, setCells_below _ HQ.out _ _ _ _ H4.out.bw⟩
      | true =>
        have hok : otherK A B = some x := by
          cases ho : otherK A B with
          | none => have := HO12.out.2 ho; cases this
          | some k => rw [(HO12.out.1 k ho).1]
        have HOK := Lib.hid hok
        clear hok
        go_wp2_with (have _ := HG; refine wpList_var_sum (by rfl) rfl _ _ rfl x rfl rfl ?_; intro W4 hb hr _; obtain ⟨z, hz⟩ : ∃ z, z = W3.heap.size := ⟨_, rfl⟩; rw [← hz] at hr ⊢; have H4 := Lib.hid (And.intro (H3.out.below hb) hr); clear HG hb hr hz H3)
        refine wp_region_sched (fun V => V.rangeAt z 0 (cellsOf x)) [.t 0, .t 3, .s 1, .s 4, .e 2 true, .e 5 false, .t 6, .t 7] (by kernel_rfl) (by kernel_rfl) (by intro c a d v w h; cases d <;> exact h) ?_
        have H5 := Lib.hid (And.intro (H4.out.1.below (Below.refl _ _).drew) (show W4.drew.rangeAt z 0 (cellsOf x) from H4.out.2))
        clear H4
        generalize W4.drew = V at *
        iterate 2
          refine wpS_t rfl (v := ?_) (by rfl) (fun W => ?_) ?_
          rotate_left
          · go_simp
            try rfl
          try simp only [Act.put, List.setIfInBounds_toArray, List.set_cons_zero, List.set_cons_succ]
        refine wpS_load_sum (by exact H5.out.2) rfl (by rfl) _ (by rfl) z 0 (by rfl) x (fun W hW => hW) ?_
        try simp only [Act.put, List.setIfInBounds_toArray, List.set_cons_zero, List.set_cons_succ]
        refine wpS_load_sum (by exact H5.out.2) rfl (by rfl) _ (by rfl) z 0 (by rfl) x (fun W hW => hW) ?_
        try simp only [Act.put, List.setIfInBounds_toArray, List.set_cons_zero, List.set_cons_succ]
        refine wpS_k rfl (by rfl) (fun K hK => ?_)
        go_simp
        refine (to_any A _ x V (HV.out.1.below H5.out.1.bw) HMA.out.1 HV.out.2.2.2.2.1 (by rw [← HL.out.1]; exact HV.out.2.2.1)).mono ?_
        rintro e V1 ⟨p1, ve1, rfl, hw1, _, hb⟩
        have H6 := Lib.hid (And.intro (H5.out.1.below hb) (And.intro ((Keeps.of_below (X := fun _ => False) hb).range H5.out.2 (fun h => h)) hw1))
        clear hb hw1 H5
        refine hK _ _ ⟨by exact H6.out.2.1, ?_⟩; clear hK K
        try simp only [Act.put, List.setIfInBounds_toArray, List.set_cons_zero, List.set_cons_succ]
        refine wpS_e rfl (by rfl) (fun K hK => ?_)
        go_simp
        refine (to_any B _ x V1 (HV.out.2.1.below H6.out.1.bw) HMB.out.1 HV.out.2.2.2.2.2 (by rw [← HL.out.2]; exact HV.out.2.2.2.1)).mono ?_
        rintro e V2 ⟨p2, ve2, rfl, hw2, _, hb⟩
        have H7 := Lib.hid (And.intro (H6.out.1.below hb) (And.intro (H6.out.2.2.below hb) hw2))
        clear hb hw2 H6
        refine hK _ _ ?_; clear hK K
        try simp only [Act.put, List.setIfInBounds_toArray, List.set_cons_zero, List.set_cons_succ]
        iterate 2
          refine wpS_t rfl (v := ?_) (by rfl) (fun W => ?_) ?_
          rotate_left
          · go_simp
            try rfl
          try simp only [Act.put, List.setIfInBounds_toArray, List.set_cons_zero, List.set_cons_succ]
        refine wpS_done ?_
        go_wp2_with fail
        have heq := eq_sums (rootOf A) (rootOf B)
        obtain ⟨ra, hra⟩ : ∃ r, r = rootOf A := ⟨_, rfl⟩
        obtain ⟨rb, hrb⟩ : ∃ r, r = rootOf B := ⟨_, rfl⟩
        rw [← hra, ← hrb] at heq
        have H8 := Lib.hid (show QW w V2.drew q ∧ WayAt V2.drew p1 ra _ ve1 _ ∧ WayAt V2.drew p2 rb _ ve2 _ from ⟨H7.out.1.below (Below.refl _ _).drew, by rw [hra]; exact H7.out.2.1.below (Below.refl _ _).drew, by rw [hrb]; exact H7.out.2.2.below (Below.refl _ _).drew⟩)
        have HR := Lib.hid (And.intro hra hrb)
        clear hra hrb H7
        refine wp_region_sched (fun V => V.rangeAt p1 0 (cellsOf ra)) [.t 0, .t 1, .t 2, .t 4, .t 5, .t 6, .s 3, .e 7 true, .t 8] (by kernel_rfl) (by kernel_rfl) (by intro c a d v w h; cases d <;> exact h) ?_
        generalize V2.drew = V3 at *
        by_cases hrr : ra = rb
        · rw [decide_eq_true hrr] at heq
          have HRR := Lib.hid hrr
          clear hrr
          iterate 6
            refine wpS_t rfl (v := ?_) (by rfl) (fun W => ?_) ?_
            rotate_left
            · go_simp
              try rfl
            try simp only [Act.put, List.setIfInBounds_toArray, List.set_cons_zero, List.set_cons_succ]
          refine wpS_load_sum (by exact H8.out.2.1.root) rfl (by rfl) _ (by rfl) p1 0 (by rfl) ra (fun W hW => hW) ?_
          try simp only [Act.put, List.setIfInBounds_toArray, List.set_cons_zero, List.set_cons_succ]
          refine wpS_k rfl (by rfl) (fun K hK => ?_)
          refine wp_load_sum _ (by rfl) p2 0 (by rfl) rb H8.out.2.2.root ?_
          refine hK _ _ ⟨by exact H8.out.2.1.root, ?_⟩; clear hK K
          try simp only [Act.put, List.setIfInBounds_toArray, List.set_cons_zero, List.set_cons_succ]
          iterate 1
            refine wpS_t rfl (v := ?_) (by rfl) (fun W => ?_) ?_
            rotate_left
            · go_simp
              try rfl
            try simp only [Act.put, List.setIfInBounds_toArray, List.set_cons_zero, List.set_cons_succ]
          refine wpS_done ?_
          clear heq
          have H9a := Lib.hid H8.out.1
          go_wp2_with fail
          obtain ⟨o, ho⟩ : ∃ o, o = part (stepsTo x A) (stepsTo x B) := ⟨_, rfl⟩
          have hc := part_any p1 p2 _ _ _ _ _ _ _ _ V3 H8.out.2.1 H8.out.2.2 (length_boths _ _ _ _ (length_besides _ _ _)) (length_boths _ _ _ _ (length_besides _ _ _))
          change Calls _ _ _ _ (fun e w' => AP w' (part (stepsTo x A) (stepsTo x B)) e ∧ Below _ _ w') at hc
          rw [← ho] at hc
          have HO := Lib.hid ho
          clear ho
          refine hc.mono ?_
          clear hc
          rintro e W9 ⟨hA, hb⟩
          have H9 := Lib.hid (H9a.out.below hb)
          clear hb
          cases o with
          | none =>
            unfold AP at hA
            subst hA
            go_wp2_with (refine wpList_store_clash rfl _ _ rfl q (.slice none 0 0) (.slice none 0 0) rfl rfl rfl rfl H9.out.there ?_)
            try rw [Exit.noGoto_ret]
            refine bodyPost_ret (results_cell_tmp Try.results44 _ _ q 0 [.slice none 0 0, .slice none 0 0] _ rfl (range_stored _ _ _ _ (World.there_setCells H9.out.there _ _ _)) Try.underlying74 rfl infoClash) rfl ?_
            exact ⟨by rw [show mapsClash A B = part (stepsTo x A) (stepsTo x B) by unfold mapsClash; rw [if_pos ⟨HMA.out, HMB.out⟩, HOK.out]; simp only; rw [if_pos (by rw [← HR.out.1, ← HR.out.2]; exact HRR.out)], ← HO.out]; rfl, setCells_below _ HQ.out _ _ _ _ H9.out.bw⟩
          | some c =>
            obtain ⟨A1, B1⟩ := c
            obtain ⟨va1, vb1, rfl, hva1, hvb1⟩ := hA
            obtain ⟨aa1, na1, ca1, rfl⟩ := bytes_form hva1
            obtain ⟨ab1, nb1, cb1, rfl⟩ := bytes_form hvb1
            have HV := Lib.hid (And.intro hva1 hvb1)
            clear hva1 hvb1
            go_wp2_with (refine wpList_store_clash rfl _ _ rfl q (.slice aa1 na1 ca1) (.slice ab1 nb1 cb1) rfl rfl rfl rfl H9.out.there ?_)
            try rw [Exit.noGoto_ret]
            refine bodyPost_ret (results_cell_tmp Try.results44 _ _ q 0 [.slice aa1 na1 ca1, .slice ab1 nb1 cb1] _ rfl (range_stored _ _ _ _ (World.there_setCells H9.out.there _ _ _)) Try.underlying74 rfl infoClash) rfl ?_
            exact ⟨by rw [show mapsClash A B = part (stepsTo x A) (stepsTo x B) by unfold mapsClash; rw [if_pos ⟨HMA.out, HMB.out⟩, HOK.out]; simp only; rw [if_pos (by rw [← HR.out.1, ← HR.out.2]; exact HRR.out)], ← HO.out]; exact ⟨_, _, rfl, bytes_clash HV.out.1 H9.out.k _ _ _ _ _ _, bytes_clash HV.out.2 H9.out.k _ _ _ _ _ _⟩, setCells_below _ HQ.out _ _ _ _ H9.out.bw⟩
        · rw [decide_eq_false hrr] at heq
          have HN := Lib.hid (show mapsClash A B = none by unfold mapsClash; rw [if_pos ⟨HMA.out, HMB.out⟩, HOK.out]; simp only; rw [if_neg (by rw [← HR.out.1, ← HR.out.2]; exact hrr)])
          clear hrr
          iterate 6
            refine wpS_t rfl (v := ?_) (by rfl) (fun W => ?_) ?_
            rotate_left
            · go_simp
              try rfl
            try simp only [Act.put, List.setIfInBounds_toArray, List.set_cons_zero, List.set_cons_succ]
          refine wpS_load_sum (by exact H8.out.2.1.root) rfl (by rfl) _ (by rfl) p1 0 (by rfl) ra (fun W hW => hW) ?_
          try simp only [Act.put, List.setIfInBounds_toArray, List.set_cons_zero, List.set_cons_succ]
          refine wpS_k rfl (by rfl) (fun K hK => ?_)
          refine wp_load_sum _ (by rfl) p2 0 (by rfl) rb H8.out.2.2.root ?_
          refine hK _ _ ⟨by exact H8.out.2.1.root, ?_⟩; clear hK K
          try simp only [Act.put, List.setIfInBounds_toArray, List.set_cons_zero, List.set_cons_succ]
          iterate 1
            refine wpS_t rfl (v := ?_) (by rfl) (fun W => ?_) ?_
            rotate_left
            · go_simp
              try rfl
            try simp only [Act.put, List.setIfInBounds_toArray, List.set_cons_zero, List.set_cons_succ]
          refine wpS_done ?_
          clear heq
          have H9 := Lib.hid H8.out.1
          go_wp2_with (refine wpList_store_clash rfl _ _ rfl q (.slice none 0 0) (.slice none 0 0) rfl rfl rfl rfl H9.out.there ?_)
          try rw [Exit.noGoto_ret]
          refine bodyPost_ret (results_cell_tmp Try.results44 _ _ q 0 [.slice none 0 0, .slice none 0 0] _ rfl (range_stored _ _ _ _ (World.there_setCells H9.out.there _ _ _)) Try.underlying74 rfl infoClash) rfl ?_
          exact ⟨by rw [HN.out]; rfl, setCells_below _ HQ.out _ _ _ _ H9.out.bw⟩
end Go.Proofs.Ytfmgoehnbaiamaa
-- Walk: splits.Show.
namespace Go.Proofs.Ytfmgoehnbaiamaa
open Classical in
theorem show_eq {l : List Keys.Pr} {k : Sum} {v : List UInt8} {which : Sum} {S T : List Sum} (h : leadsTo which S = some T) :
    showClash l k v which S = if May l ∧ rootOf l = wayUp k 256 T (vl k v) ∧ endB k (Keys.get l k) ≠ endB k v then part (stepsTo k l) (stepsBy k v T) else none := by
  unfold showClash
  rw [h]
theorem wpList_load_shw {ops : Array Oper} {rest : List Oper} {op : Oper} {a : Act} {w : World} {Q : Exit → Act → World → Prop} (hgd : op.guard = none) (x : Operand) (ho : op.op = .load 59 x)
    (b o : Nat) (hx : a.eval x = .pointer (some ⟨b, o, none⟩)) (which : Sum) (v : Value) (hc : w.rangeAt b o (cellsShow which v))
    (h : wpList Try.prog ops Q rest (a.put op.dst (shV which v)) w) : wpList Try.prog ops Q (op :: rest) a w :=
  wpList_load_mid hgd _ x ho b o hx (cellsShow which v) _ hc Try.underlying59 rfl (by rw [length_cellsShow]; exact infoShow) h
set_option maxRecDepth 100000 in
set_option maxHeartbeats 4000000 in
theorem sshow_any (A : List Keys.Pr) (va : Value) (k which : Sum) (v vS : Value) (bs : List UInt8) (S : List Sum) (w : World) (ha : PairsAt w va A) (hA : A.length < 100000) (sA : Small A) (hv : BytesAt w v bs) (hs : SumsAt w vS S) (hS : S.length < 100000) (hbs : bs.length < 140737488355000) :
    Calls Try.prog 46 #[va, sv k, v, shV which vS] w fun e w' => AP w' (showClash A k bs which S) e ∧ Below w.heap.size w w' := by
  obtain ⟨aa, ca, hva, _⟩ := pairs_form ha
  subst hva
  have HV := Lib.hid (And.intro ha (And.intro hA (And.intro sA (And.intro hv (And.intro hs (And.intro hS hbs))))))
  clear ha hA sA hv hs hS hbs
  obtain ⟨NA, hNA⟩ : ∃ N, N = A.length := ⟨_, rfl⟩
  rw [← hNA] at HV ⊢
  have HL := Lib.hid hNA
  clear hNA
  have hb0 := al (al (al (Below.refl _ w) (.cells (cellsOf k).toArray 29)) (.cells (cellsShow which vS).toArray 59)) (.cells #[.slice none 0 0, .slice none 0 0] 74)
  have hz1 : (w.alloc (.cells (cellsOf k).toArray 29)).heap.size = w.heap.size + 1 := Array.size_push _
  have hz2 : ((w.alloc (.cells (cellsOf k).toArray 29)).alloc (.cells (cellsShow which vS).toArray 59)).heap.size = w.heap.size + 1 + 1 := by rw [World.size_alloc, hz1]
  have hr0 := World.rangeAt_alloc (World.rangeAt_alloc (range_new w (cellsOf k).toArray 29 _ rfl) (.cells (cellsShow which vS).toArray 59)) (.cells #[.slice none 0 0, .slice none 0 0] 74)
  have hr1 := World.rangeAt_alloc (range_new (w.alloc (.cells (cellsOf k).toArray 29)) (cellsShow which vS).toArray 59 _ rfl) (.cells #[.slice none 0 0, .slice none 0 0] 74)
  have hk2 := heap_alloc_new ((w.alloc (.cells (cellsOf k).toArray 29)).alloc (.cells (cellsShow which vS).toArray 59)) (.cells #[.slice none 0 0, .slice none 0 0] 74)
  rw [hz1] at hr1
  rw [hz2] at hk2
  obtain ⟨q, hq⟩ : ∃ q, q = w.heap.size + 1 + 1 := ⟨_, rfl⟩
  rw [← hq] at hk2
  have HQ := Lib.hid (show w.heap.size ≤ q by omega)
  have HQE := Lib.hid hq
  have H0 := Lib.hid (show QW w _ q ∧ _ ∧ _ from ⟨⟨hb0, hk2⟩, hr0, hr1⟩)
  clear hb0 hz1 hz2 hr0 hr1 hk2 hq
  unfold shV
  go_enter Try.func46, Try.ntmps46
  go_wp2_with (first
    | (refine wpList_load_sum rfl _ rfl w.heap.size 0 rfl k H0.out.2.1 ?_)
    | (refine wpList_load_shw rfl _ rfl (w.heap.size + 1) 0 rfl which vS H0.out.2.2 ?_))
  have hb4 := bytes_below HV.out.2.2.2.1 H0.out.1.bw (Nat.le_refl _)
  have hs4 := HV.out.2.2.2.2.1.below H0.out.1.bw (Nat.le_refl _)
  have HL0 := Lib.hid (leads_any k which v vS bs S _ hb4 hs4 HV.out.2.2.2.2.2.1 HV.out.2.2.2.2.2.2)
  clear hb4 hs4
  refine HL0.out.mono ?_
  clear HL0
  rw [← HQE.out]
  rintro r W1 ⟨hlp, hb⟩
  have H1 := Lib.hid (And.intro (H0.out.1.below hb) ((Keeps.of_below (X := fun _ => False) hb).range H0.out.2.1 (fun h => h)))
  clear hb H0
  rcases hlp with ⟨T, p2, ve2, hlt, rfl, hw2, _⟩ | ⟨hln, x, rfl⟩
  · have HT := Lib.hid (And.intro hlt hw2)
    clear hlt hw2
    go_wp2_with fail
    refine (may_any A _ W1 (HV.out.1.below H1.out.1.bw) (by rw [← HL.out]; exact HV.out.2.1)).mono ?_
    rintro e W2 ⟨m1, rfl, hm1, hb⟩
    have H2 := Lib.hid (And.intro (H1.out.1.below hb) (And.intro ((Keeps.of_below (X := fun _ => False) hb).range H1.out.2 (fun h => h)) (HT.out.2.below hb)))
    have HM1 := Lib.hid hm1
    have HTT := Lib.hid HT.out.1
    clear hb hm1 H1 HT
    cases m1 with
    | false =>
      have HN := Lib.hid (show showClash A k bs which S = none by rw [show_eq HTT.out, if_neg (fun h => by have := HM1.out.2 h.1; cases this)])
      have H2q := Lib.hid H2.out.1
      go_wp2_with (refine wpList_store_clash rfl _ _ rfl q (.slice none 0 0) (.slice none 0 0) rfl rfl rfl rfl H2q.out.there ?_)
      try rw [Exit.noGoto_ret]
      refine bodyPost_ret (results_cell_tmp Try.results46 _ _ q 0 [.slice none 0 0, .slice none 0 0] _ rfl (range_stored _ _ _ _ (World.there_setCells H2q.out.there _ _ _)) Try.underlying74 rfl infoClash) rfl ?_
      exact ⟨by rw [HN.out]; rfl, setCells_below _ HQ.out _ _ _ _ H2q.out.bw⟩
    | true =>
      have hMA := HM1.out.1 rfl
      have HMA := Lib.hid hMA
      clear hMA HM1
      go_wp2_with (refine wpList_load_sum rfl _ rfl w.heap.size 0 rfl k H2.out.2.1 ?_)
      refine (to_any A _ k W2 (HV.out.1.below H2.out.1.bw) HMA.out.1 HV.out.2.2.1 (by rw [← HL.out]; exact HV.out.2.1)).mono ?_
      rintro e W3 ⟨p1, ve1, rfl, hw1, _, hb⟩
      have H3 := Lib.hid (And.intro (H2.out.1.below hb) (And.intro hw1 (H2.out.2.2.below hb)))
      clear hb hw1 H2
      go_wp2_with fail
      obtain ⟨ra, hra⟩ : ∃ r, r = rootOf A := ⟨_, rfl⟩
      obtain ⟨rb, hrb⟩ : ∃ r, r = wayUp k 256 T (vl k bs) := ⟨_, rfl⟩
      have heq := eq_sums ra rb
      have H4 := Lib.hid (show QW w W3.drew q ∧ WayAt W3.drew p1 ra _ ve1 _ ∧ WayAt W3.drew p2 rb _ ve2 _ from ⟨H3.out.1.below (Below.refl _ _).drew, by rw [hra]; exact H3.out.2.1.below (Below.refl _ _).drew, by rw [hrb]; exact H3.out.2.2.below (Below.refl _ _).drew⟩)
      have HR := Lib.hid (And.intro hra hrb)
      clear hra hrb H3
      refine wp_region_sched (fun V => WayAt V p1 ra (boths k 256 (besides k 256 A) (vl k (Keys.get A k))) ve1 (endB k (Keys.get A k)) ∧ WayAt V p2 rb (boths k 256 T (vl k bs)) ve2 (endB k bs)) [.t 0, .t 1, .t 2, .t 4, .t 5, .t 6, .s 3, .e 7 true, .t 8, .t 9, .t 10, .t 11, .t 12, .t 14, .t 15, .t 16, .s 13, .e 17 true, .e 18 false, .t 19] (by kernel_rfl) (by kernel_rfl) (by intro c a d v w h; cases d <;> exact h) ?_
      generalize W3.drew = V3 at *
      obtain ⟨a1, n1, c1, rfl⟩ := bytes_form H4.out.2.1.en.bt
      obtain ⟨a2, n2, c2, rfl⟩ := bytes_form H4.out.2.2.en.bt
      iterate 6
        refine wpS_t rfl (v := ?_) (by rfl) (fun W => ?_) ?_
        rotate_left
        · go_simp
          try rfl
        try simp only [Act.put, List.setIfInBounds_toArray, List.set_cons_zero, List.set_cons_succ]
      refine wpS_load_sum (by exact H4.out.2) rfl (by rfl) _ (by rfl) p1 0 (by rfl) ra (fun W hW => hW.1.root) ?_
      try simp only [Act.put, List.setIfInBounds_toArray, List.set_cons_zero, List.set_cons_succ]
      refine wpS_k rfl (by rfl) (fun K hK => ?_)
      refine wp_load_sum _ (by rfl) p2 0 (by rfl) rb H4.out.2.2.root ?_
      refine hK _ _ ⟨by exact H4.out.2, ?_⟩; clear hK K
      try simp only [Act.put, List.setIfInBounds_toArray, List.set_cons_zero, List.set_cons_succ]
      by_cases hrr : ra = rb
      · rw [decide_eq_true hrr] at heq
        have HRR := Lib.hid hrr
        clear hrr
        iterate 2
          refine wpS_t rfl (v := ?_) (by rfl) (fun W => ?_) ?_
          rotate_left
          · go_simp
            try rfl
          try simp only [Act.put, List.setIfInBounds_toArray, List.set_cons_zero, List.set_cons_succ]
        clear heq
        iterate 6
          refine wpS_t rfl (v := ?_) (by rfl) (fun W => ?_) ?_
          rotate_left
          · go_simp
            try rfl
          try simp only [Act.put, List.setIfInBounds_toArray, List.set_cons_zero, List.set_cons_succ]
        refine wpS_s (by exact H4.out.2) rfl (v := .slice a1 n1 c1) (by rfl) (fun W hW => ?_) ?_
        · have g := hW.1.en.en
          go_simp
        try simp only [Act.put, List.setIfInBounds_toArray, List.set_cons_zero, List.set_cons_succ]
        refine wpS_k rfl (by rfl) (fun K hK => ?_)
        have g := H4.out.2.2.en.en
        go_simp
        refine hK _ _ ⟨by exact H4.out.2, ?_⟩; clear hK K
        try simp only [Act.put, List.setIfInBounds_toArray, List.set_cons_zero, List.set_cons_succ]
        clear g
        refine wpS_e rfl (by rfl) (fun K hK => ?_)
        go_simp
        refine (eqb_any (endB k (Keys.get A k)) (endB k bs) _ _ V3 H4.out.2.1.en.bt H4.out.2.2.en.bt).mono ?_
        rintro rr V4 ⟨rfl, rfl⟩
        refine hK _ _ ?_; clear hK K
        try simp only [Act.put, List.setIfInBounds_toArray, List.set_cons_zero, List.set_cons_succ]
        by_cases hee : endB k (Keys.get A k) = endB k bs
        · have HN := Lib.hid (show showClash A k bs which S = none by rw [show_eq HTT.out, if_neg (fun h => h.2.2 hee)])
          rw [decide_eq_true hee]
          have H4q := Lib.hid H4.out.1
          clear hee
          iterate 1
            refine wpS_t rfl (v := ?_) (by rfl) (fun W => ?_) ?_
            rotate_left
            · go_simp
              try rfl
            try simp only [Act.put, List.setIfInBounds_toArray, List.set_cons_zero, List.set_cons_succ]
          refine wpS_done ?_
          go_wp2_with (refine wpList_store_clash rfl _ _ rfl q (.slice none 0 0) (.slice none 0 0) rfl rfl rfl rfl H4q.out.there ?_)
          try rw [Exit.noGoto_ret]
          refine bodyPost_ret (results_cell_tmp Try.results46 _ _ q 0 [.slice none 0 0, .slice none 0 0] _ rfl (range_stored _ _ _ _ (World.there_setCells H4q.out.there _ _ _)) Try.underlying74 rfl infoClash) rfl ?_
          exact ⟨by rw [HN.out]; rfl, setCells_below _ HQ.out _ _ _ _ H4q.out.bw⟩
        · have HN := Lib.hid (show showClash A k bs which S = part (stepsTo k A) (stepsBy k bs T) by rw [show_eq HTT.out, if_pos ⟨HMA.out, by rw [← HR.out.1, ← HR.out.2]; exact HRR.out, hee⟩])
          rw [decide_eq_false hee]
          have H4q := Lib.hid H4.out.1
          clear hee
          iterate 1
            refine wpS_t rfl (v := ?_) (by rfl) (fun W => ?_) ?_
            rotate_left
            · go_simp
              try rfl
            try simp only [Act.put, List.setIfInBounds_toArray, List.set_cons_zero, List.set_cons_succ]
          refine wpS_done ?_
          go_wp2_with fail
          obtain ⟨o, ho⟩ : ∃ o, o = part (stepsTo k A) (stepsBy k bs T) := ⟨_, rfl⟩
          have hc := part_any p1 p2 _ _ _ _ _ _ _ _ V3 H4.out.2.1 H4.out.2.2 (length_boths _ _ _ _ (length_besides _ _ _)) (length_boths _ _ _ _ (leads_length HTT.out))
          change Calls _ _ _ _ (fun e w' => AP w' (part (stepsTo k A) (stepsBy k bs T)) e ∧ Below _ _ w') at hc
          rw [← ho] at hc
          have HO := Lib.hid ho
          clear ho
          refine hc.mono ?_
          clear hc
          rintro e W9 ⟨hA, hb⟩
          have H9 := Lib.hid (H4q.out.below hb)
          clear hb
          cases o with
          | none =>
            unfold AP at hA
            subst hA
            go_wp2_with (refine wpList_store_clash rfl _ _ rfl q (.slice none 0 0) (.slice none 0 0) rfl rfl rfl rfl H9.out.there ?_)
            try rw [Exit.noGoto_ret]
            refine bodyPost_ret (results_cell_tmp Try.results46 _ _ q 0 [.slice none 0 0, .slice none 0 0] _ rfl (range_stored _ _ _ _ (World.there_setCells H9.out.there _ _ _)) Try.underlying74 rfl infoClash) rfl ?_
            exact ⟨by rw [HN.out, ← HO.out]; rfl, setCells_below _ HQ.out _ _ _ _ H9.out.bw⟩
          | some c =>
            obtain ⟨A1, B1⟩ := c
            obtain ⟨va1, vb1, rfl, hva1, hvb1⟩ := hA
            obtain ⟨aa1, na1, ca1, rfl⟩ := bytes_form hva1
            obtain ⟨ab1, nb1, cb1, rfl⟩ := bytes_form hvb1
            have HV := Lib.hid (And.intro hva1 hvb1)
            clear hva1 hvb1
            go_wp2_with (refine wpList_store_clash rfl _ _ rfl q (.slice aa1 na1 ca1) (.slice ab1 nb1 cb1) rfl rfl rfl rfl H9.out.there ?_)
            try rw [Exit.noGoto_ret]
            refine bodyPost_ret (results_cell_tmp Try.results46 _ _ q 0 [.slice aa1 na1 ca1, .slice ab1 nb1 cb1] _ rfl (range_stored _ _ _ _ (World.there_setCells H9.out.there _ _ _)) Try.underlying74 rfl infoClash) rfl ?_
            exact ⟨by rw [HN.out, ← HO.out]; exact ⟨_, _, rfl, bytes_clash HV.out.1 H9.out.k _ _ _ _ _ _, bytes_clash HV.out.2 H9.out.k _ _ _ _ _ _⟩, setCells_below _ HQ.out _ _ _ _ H9.out.bw⟩
      · rw [decide_eq_false hrr] at heq
        have HN := Lib.hid (show showClash A k bs which S = none by rw [show_eq HTT.out, if_neg (fun h => hrr (by rw [HR.out.1, HR.out.2]; exact h.2.1))])
        have H4q := Lib.hid H4.out.1
        clear hrr
        iterate 2
          refine wpS_t rfl (v := ?_) (by rfl) (fun W => ?_) ?_
          rotate_left
          · go_simp
            try rfl
          try simp only [Act.put, List.setIfInBounds_toArray, List.set_cons_zero, List.set_cons_succ]
        clear heq
        iterate 6
          refine wpS_t_skip rfl (by rfl) ?_
          try simp only [Act.put, List.setIfInBounds_toArray, List.set_cons_zero, List.set_cons_succ]
        iterate 1
          refine wpS_s_skip (by exact H4.out.2) rfl (by rfl) ?_
          try simp only [Act.put, List.setIfInBounds_toArray, List.set_cons_zero, List.set_cons_succ]
        refine wpS_k_skip (by exact H4.out.2) rfl (by rfl) ?_
        try simp only [Act.put, List.setIfInBounds_toArray, List.set_cons_zero, List.set_cons_succ]
        refine wpS_e_skip rfl (by rfl) ?_
        try simp only [Act.put, List.setIfInBounds_toArray, List.set_cons_zero, List.set_cons_succ]
        iterate 1
          refine wpS_t rfl (v := ?_) (by rfl) (fun W => ?_) ?_
          rotate_left
          · go_simp
            try rfl
          try simp only [Act.put, List.setIfInBounds_toArray, List.set_cons_zero, List.set_cons_succ]
        refine wpS_done ?_
        go_wp2_with (refine wpList_store_clash rfl _ _ rfl q (.slice none 0 0) (.slice none 0 0) rfl rfl rfl rfl H4q.out.there ?_)
        try rw [Exit.noGoto_ret]
        refine bodyPost_ret (results_cell_tmp Try.results46 _ _ q 0 [.slice none 0 0, .slice none 0 0] _ rfl (range_stored _ _ _ _ (World.there_setCells H4q.out.there _ _ _)) Try.underlying74 rfl infoClash) rfl ?_
        exact ⟨by rw [HN.out]; rfl, setCells_below _ HQ.out _ _ _ _ H4q.out.bw⟩
  · have HN := Lib.hid (show showClash A k bs which S = none by unfold showClash; rw [hln])
    clear hln
    have H1q := Lib.hid H1.out.1
    go_wp2_with (refine wpList_store_clash rfl _ _ rfl q (.slice none 0 0) (.slice none 0 0) rfl rfl rfl rfl H1q.out.there ?_)
    try rw [Exit.noGoto_ret]
    refine bodyPost_ret (results_cell_tmp Try.results46 _ _ q 0 [.slice none 0 0, .slice none 0 0] _ rfl (range_stored _ _ _ _ (World.there_setCells H1q.out.there _ _ _)) Try.underlying74 rfl infoClash) rfl ?_
    exact ⟨by rw [HN.out]; rfl, setCells_below _ HQ.out _ _ _ _ H1q.out.bw⟩
end Go.Proofs.Ytfmgoehnbaiamaa
-- Walk: splits.Two.
namespace Go.Proofs.Ytfmgoehnbaiamaa
open Classical in
theorem two_eq {k : Sum} {v : List UInt8} {which : Sum} {S : List Sum} {w : List UInt8} {which' : Sum} {S' T U : List Sum} (h : leadsTo which S = some T) (h' : leadsTo which' S' = some U) : twoClash k v which S w which' S' = if wayUp k 256 T (vl k v) = wayUp k 256 U (vl k w) ∧ v ≠ w then part (stepsBy k v T) (stepsBy k w U) else none := by
  unfold twoClash
  rw [h, h']
theorem two_no1 {k : Sum} {v : List UInt8} {which : Sum} {S : List Sum} {w : List UInt8} {which' : Sum} {S' : List Sum} (h : leadsTo which S = none) : twoClash k v which S w which' S' = none := by
  unfold twoClash
  rw [h]
theorem two_no2 {k : Sum} {v : List UInt8} {which : Sum} {S : List Sum} {w : List UInt8} {which' : Sum} {S' : List Sum} (h : leadsTo which' S' = none) : twoClash k v which S w which' S' = none := by
  unfold twoClash
  rw [h]
  cases leadsTo which S <;> rfl
set_option maxRecDepth 100000 in
set_option maxHeartbeats 4000000 in
theorem stwo_any (k which which' : Sum) (v vS v' vS' : Value) (bs bs' : List UInt8) (S S' : List Sum) (w : World) (hv : BytesAt w v bs) (hs : SumsAt w vS S) (hS : S.length < 100000) (hbs : bs.length < 140737488355000) (hv' : BytesAt w v' bs') (hs' : SumsAt w vS' S') (hS' : S'.length < 100000) (hbs' : bs'.length < 140737488355000) :
    Calls Try.prog 47 #[sv k, v, shV which vS, v', shV which' vS'] w fun e w' => AP w' (twoClash k bs which S bs' which' S') e ∧ Below w.heap.size w w' := by
  have HV := Lib.hid (And.intro hv (And.intro hs (And.intro hS hbs)))
  have HV' := Lib.hid (And.intro hv' (And.intro hs' (And.intro hS' hbs')))
  clear hv hs hS hbs hv' hs' hS' hbs'
  have hb0 := al (al (al (al (Below.refl _ w) (.cells (cellsOf k).toArray 29)) (.cells (cellsShow which vS).toArray 59)) (.cells (cellsShow which' vS').toArray 59)) (.cells #[.slice none 0 0, .slice none 0 0] 74)
  have hz1 : (w.alloc (.cells (cellsOf k).toArray 29)).heap.size = w.heap.size + 1 := Array.size_push _
  have hz2 : ((w.alloc (.cells (cellsOf k).toArray 29)).alloc (.cells (cellsShow which vS).toArray 59)).heap.size = w.heap.size + 1 + 1 := by rw [World.size_alloc, hz1]
  have hz3 : (((w.alloc (.cells (cellsOf k).toArray 29)).alloc (.cells (cellsShow which vS).toArray 59)).alloc (.cells (cellsShow which' vS').toArray 59)).heap.size = w.heap.size + 1 + 1 + 1 := by rw [World.size_alloc, hz2]
  have hr0 := World.rangeAt_alloc (World.rangeAt_alloc (World.rangeAt_alloc (range_new w (cellsOf k).toArray 29 _ rfl) (.cells (cellsShow which vS).toArray 59)) (.cells (cellsShow which' vS').toArray 59)) (.cells #[.slice none 0 0, .slice none 0 0] 74)
  have hr1 := World.rangeAt_alloc (World.rangeAt_alloc (range_new (w.alloc (.cells (cellsOf k).toArray 29)) (cellsShow which vS).toArray 59 _ rfl) (.cells (cellsShow which' vS').toArray 59)) (.cells #[.slice none 0 0, .slice none 0 0] 74)
  have hr2 := World.rangeAt_alloc (range_new ((w.alloc (.cells (cellsOf k).toArray 29)).alloc (.cells (cellsShow which vS).toArray 59)) (cellsShow which' vS').toArray 59 _ rfl) (.cells #[.slice none 0 0, .slice none 0 0] 74)
  have hk3 := heap_alloc_new (((w.alloc (.cells (cellsOf k).toArray 29)).alloc (.cells (cellsShow which vS).toArray 59)).alloc (.cells (cellsShow which' vS').toArray 59)) (.cells #[.slice none 0 0, .slice none 0 0] 74)
  rw [hz1] at hr1
  rw [hz2] at hr2
  rw [hz3] at hk3
  obtain ⟨q, hq⟩ : ∃ q, q = w.heap.size + 1 + 1 + 1 := ⟨_, rfl⟩
  rw [← hq] at hk3
  have HQ := Lib.hid (show w.heap.size ≤ q by omega)
  have HQE := Lib.hid hq
  have H0 := Lib.hid (show QW w _ q ∧ _ ∧ _ ∧ _ from ⟨⟨hb0, hk3⟩, hr0, hr1, hr2⟩)
  clear hb0 hz1 hz2 hz3 hr0 hr1 hr2 hk3 hq
  unfold shV
  go_enter Try.func47, Try.ntmps47
  go_wp2_with (first
    | (refine wpList_load_sum rfl _ rfl w.heap.size 0 rfl k H0.out.2.1 ?_)
    | (refine wpList_load_shw rfl _ rfl (w.heap.size + 1) 0 rfl which vS H0.out.2.2.1 ?_))
  have hb4 := bytes_below HV.out.1 H0.out.1.bw (Nat.le_refl _)
  have hs4 := HV.out.2.1.below H0.out.1.bw (Nat.le_refl _)
  have HL0 := Lib.hid (leads_any k which v vS bs S _ hb4 hs4 HV.out.2.2.1 HV.out.2.2.2)
  clear hb4 hs4
  refine HL0.out.mono ?_
  clear HL0
  rw [← HQE.out]
  rintro r Wa ⟨hlp, hb⟩
  have H1 := Lib.hid (And.intro (H0.out.1.below hb) (And.intro ((Keeps.of_below (X := fun _ => False) hb).range H0.out.2.1 (fun h => h)) ((Keeps.of_below (X := fun _ => False) hb).range H0.out.2.2.2 (fun h => h))))
  clear hb H0
  obtain ⟨x1, o1, rfl, HP1⟩ : ∃ x o, r = .returned (.tuple #[x, .bool o]) ∧ RowKit.Hid ((o = true ∧ ∃ T p ve, leadsTo which S = some T ∧ x = .pointer (some ⟨p, 0, none⟩) ∧ WayAt Wa p (wayUp k 256 T (vl k bs)) (boths k 256 T (vl k bs)) ve (endB k bs)) ∨ (o = false ∧ leadsTo which S = none)) := by
    rcases hlp with ⟨T, p2, ve2, hlt, rfl, hw2, _⟩ | ⟨hln, x, rfl⟩
    · exact ⟨_, _, rfl, Lib.hid (.inl ⟨rfl, T, p2, ve2, hlt, rfl, hw2⟩)⟩
    · exact ⟨_, _, rfl, Lib.hid (.inr ⟨rfl, hln⟩)⟩
  clear hlp
  go_wp2_with (first
    | (refine wpList_load_sum rfl _ rfl w.heap.size 0 rfl k H1.out.2.1 ?_)
    | (refine wpList_load_shw rfl _ rfl (w.heap.size + 1 + 1) 0 rfl which' vS' H1.out.2.2 ?_))
  have hb4 := bytes_below HV'.out.1 H1.out.1.bw (Nat.le_refl _)
  have hs4 := HV'.out.2.1.below H1.out.1.bw (Nat.le_refl _)
  have HL0 := Lib.hid (leads_any k which' v' vS' bs' S' _ hb4 hs4 HV'.out.2.2.1 HV'.out.2.2.2)
  clear hb4 hs4
  refine HL0.out.mono ?_
  clear HL0
  rintro r Wb ⟨hlp, hb⟩
  have H2 := Lib.hid (H1.out.1.below hb)
  have HP1' : RowKit.Hid ((o1 = true ∧ ∃ T p ve, leadsTo which S = some T ∧ x1 = .pointer (some ⟨p, 0, none⟩) ∧ WayAt Wb p (wayUp k 256 T (vl k bs)) (boths k 256 T (vl k bs)) ve (endB k bs)) ∨ (o1 = false ∧ leadsTo which S = none)) := by
    rcases HP1.out with ⟨e, T, p, ve, h1, h2, h3⟩ | h
    · exact Lib.hid (.inl ⟨e, T, p, ve, h1, h2, h3.below hb⟩)
    · exact Lib.hid (.inr h)
  clear hb H1 HP1
  obtain ⟨x2, o2, rfl, HP2⟩ : ∃ x o, r = .returned (.tuple #[x, .bool o]) ∧ RowKit.Hid ((o = true ∧ ∃ T p ve, leadsTo which' S' = some T ∧ x = .pointer (some ⟨p, 0, none⟩) ∧ WayAt Wb p (wayUp k 256 T (vl k bs')) (boths k 256 T (vl k bs')) ve (endB k bs')) ∨ (o = false ∧ leadsTo which' S' = none)) := by
    rcases hlp with ⟨T, p2, ve2, hlt, rfl, hw2, _⟩ | ⟨hln, x, rfl⟩
    · exact ⟨_, _, rfl, Lib.hid (.inl ⟨rfl, T, p2, ve2, hlt, rfl, hw2⟩)⟩
    · exact ⟨_, _, rfl, Lib.hid (.inr ⟨rfl, hln⟩)⟩
  clear hlp
  go_wp2_with fail
  have H3 := Lib.hid (H2.out.below (Below.refl _ _).drew)
  have HP3 : RowKit.Hid ((o1 = true ∧ ∃ T p ve, leadsTo which S = some T ∧ x1 = .pointer (some ⟨p, 0, none⟩) ∧ WayAt Wb.drew p (wayUp k 256 T (vl k bs)) (boths k 256 T (vl k bs)) ve (endB k bs)) ∨ (o1 = false ∧ leadsTo which S = none)) := by
    rcases HP1'.out with ⟨e, T, p, ve, h1, h2, h3⟩ | h
    · exact Lib.hid (.inl ⟨e, T, p, ve, h1, h2, h3.below (Below.refl _ _).drew⟩)
    · exact Lib.hid (.inr h)
  have HP4 : RowKit.Hid ((o2 = true ∧ ∃ T p ve, leadsTo which' S' = some T ∧ x2 = .pointer (some ⟨p, 0, none⟩) ∧ WayAt Wb.drew p (wayUp k 256 T (vl k bs')) (boths k 256 T (vl k bs')) ve (endB k bs')) ∨ (o2 = false ∧ leadsTo which' S' = none)) := by
    rcases HP2.out with ⟨e, T, p, ve, h1, h2, h3⟩ | h
    · exact Lib.hid (.inl ⟨e, T, p, ve, h1, h2, h3.below (Below.refl _ _).drew⟩)
    · exact Lib.hid (.inr h)
  clear H2 HP1' HP2
  refine wp_region_sched (fun V => Below Wb.drew.heap.size Wb.drew V) [.t 0, .t 1, .t 2, .t 3, .t 4, .t 5, .t 6, .t 7, .t 8, .t 9, .t 11, .t 12, .t 13, .s 10, .e 14 true, .t 15, .t 16, .t 17, .t 18, .t 19, .e 20 false, .t 21] (by kernel_rfl) (by kernel_rfl) (by intro c a d v w h; cases d <;> exact h) ?_
  generalize Wb.drew = V3 at *
  iterate 3
    refine wpS_t rfl (v := ?_) (by rfl) (fun W => ?_) ?_
    rotate_left
    · go_simp
      try rfl
    try simp only [Act.put, List.setIfInBounds_toArray, List.set_cons_zero, List.set_cons_succ]
  rcases HP3.out with ⟨rfl, T, p1, ve1, hlt1, rfl, hw1⟩ | ⟨rfl, hln1⟩
  · have HT1 := Lib.hid (And.intro hlt1 hw1)
    clear hlt1 hw1 HP3
    iterate 4
      refine wpS_t rfl (v := ?_) (by rfl) (fun W => ?_) ?_
      rotate_left
      · go_simp
        try rfl
      try simp only [Act.put, List.setIfInBounds_toArray, List.set_cons_zero, List.set_cons_succ]
    rcases HP4.out with ⟨rfl, U, p2, ve2, hlt2, rfl, hw2⟩ | ⟨rfl, hln2⟩
    · have HT2 := Lib.hid (And.intro hlt2 hw2)
      clear hlt2 hw2 HP4
      obtain ⟨a1, n1, c1, rfl⟩ := bytes_form HV.out.1
      obtain ⟨a2, n2, c2, rfl⟩ := bytes_form HV'.out.1
      obtain ⟨ra, hra⟩ : ∃ r, r = wayUp k 256 T (vl k bs) := ⟨_, rfl⟩
      obtain ⟨rb, hrb⟩ : ∃ r, r = wayUp k 256 U (vl k bs') := ⟨_, rfl⟩
      have heq := eq_sums ra rb
      have HR := Lib.hid (And.intro hra hrb)
      have HC1 := Lib.hid (HT1.out.2.root)
      have HC2 := Lib.hid (HT2.out.2.root)
      rw [← hra] at HC1
      rw [← hrb] at HC2
      clear hra hrb
      iterate 6
        refine wpS_t rfl (v := ?_) (by rfl) (fun W => ?_) ?_
        rotate_left
        · go_simp
          try rfl
        try simp only [Act.put, List.setIfInBounds_toArray, List.set_cons_zero, List.set_cons_succ]
      refine wpS_load_sum (Below.refl _ _) rfl (by rfl) _ (by rfl) p1 0 (by rfl) ra (fun W hW => (Keeps.of_below (X := fun _ => False) hW).range HC1.out (fun h => h)) ?_
      try simp only [Act.put, List.setIfInBounds_toArray, List.set_cons_zero, List.set_cons_succ]
      refine wpS_k rfl (by rfl) (fun K hK => ?_)
      refine wp_load_sum _ (by rfl) p2 0 (by rfl) rb HC2.out ?_
      refine hK _ _ ⟨Below.refl _ _, ?_⟩; clear hK K
      try simp only [Act.put, List.setIfInBounds_toArray, List.set_cons_zero, List.set_cons_succ]
      by_cases hrr : ra = rb
      · rw [decide_eq_true hrr] at heq
        have HRR := Lib.hid hrr
        clear hrr
        iterate 1
          refine wpS_t rfl (v := ?_) (by rfl) (fun W => ?_) ?_
          rotate_left
          · go_simp
            try rfl
          try simp only [Act.put, List.setIfInBounds_toArray, List.set_cons_zero, List.set_cons_succ]
        clear heq
        iterate 4
          refine wpS_t rfl (v := ?_) (by rfl) (fun W => ?_) ?_
          rotate_left
          · go_simp
            try rfl
          try simp only [Act.put, List.setIfInBounds_toArray, List.set_cons_zero, List.set_cons_succ]
        refine wpS_e rfl (by rfl) (fun K hK => ?_)
        go_simp
        refine (eqb_any bs bs' _ _ V3 (bytes_below HV.out.1 H3.out.bw (Nat.le_refl _)) (bytes_below HV'.out.1 H3.out.bw (Nat.le_refl _))).mono ?_
        rintro rr V4 ⟨rfl, rfl⟩
        refine hK _ _ ?_; clear hK K
        try simp only [Act.put, List.setIfInBounds_toArray, List.set_cons_zero, List.set_cons_succ]
        by_cases hee : bs = bs'
        · have HN := Lib.hid (show twoClash k bs which S bs' which' S' = none by rw [two_eq HT1.out.1 HT2.out.1, if_neg (fun h => h.2 hee)])
          rw [decide_eq_true hee]
          have H4q := Lib.hid H3.out
          clear hee
          iterate 1
            refine wpS_t rfl (v := ?_) (by rfl) (fun W => ?_) ?_
            rotate_left
            · go_simp
              try rfl
            try simp only [Act.put, List.setIfInBounds_toArray, List.set_cons_zero, List.set_cons_succ]
          refine wpS_done ?_
          go_wp2_with (refine wpList_store_clash rfl _ _ rfl q (.slice none 0 0) (.slice none 0 0) rfl rfl rfl rfl H4q.out.there ?_)
          try rw [Exit.noGoto_ret]
          refine bodyPost_ret (results_cell_tmp Try.results47 _ _ q 0 [.slice none 0 0, .slice none 0 0] _ rfl (range_stored _ _ _ _ (World.there_setCells H4q.out.there _ _ _)) Try.underlying74 rfl infoClash) rfl ?_
          exact ⟨by rw [HN.out]; rfl, setCells_below _ HQ.out _ _ _ _ H4q.out.bw⟩
        · have HN := Lib.hid (show twoClash k bs which S bs' which' S' = part (stepsBy k bs T) (stepsBy k bs' U) by rw [two_eq HT1.out.1 HT2.out.1, if_pos ⟨by rw [← HR.out.1, ← HR.out.2]; exact HRR.out, hee⟩])
          rw [decide_eq_false hee]
          have H4q := Lib.hid H3.out
          clear hee
          iterate 1
            refine wpS_t rfl (v := ?_) (by rfl) (fun W => ?_) ?_
            rotate_left
            · go_simp
              try rfl
            try simp only [Act.put, List.setIfInBounds_toArray, List.set_cons_zero, List.set_cons_succ]
          refine wpS_done ?_
          go_wp2_with fail
          obtain ⟨o, ho⟩ : ∃ o, o = part (stepsBy k bs T) (stepsBy k bs' U) := ⟨_, rfl⟩
          have hc := part_any p1 p2 _ _ _ _ _ _ _ _ V3 HT1.out.2 HT2.out.2 (length_boths _ _ _ _ (leads_length HT1.out.1)) (length_boths _ _ _ _ (leads_length HT2.out.1))
          change Calls _ _ _ _ (fun e w' => AP w' (part (stepsBy k bs T) (stepsBy k bs' U)) e ∧ Below _ _ w') at hc
          rw [← ho] at hc
          have HO := Lib.hid ho
          clear ho
          refine hc.mono ?_
          clear hc
          rintro e W9 ⟨hA, hb⟩
          have H9 := Lib.hid (H4q.out.below hb)
          clear hb
          cases o with
          | none =>
            unfold AP at hA
            subst hA
            go_wp2_with (refine wpList_store_clash rfl _ _ rfl q (.slice none 0 0) (.slice none 0 0) rfl rfl rfl rfl H9.out.there ?_)
            try rw [Exit.noGoto_ret]
            refine bodyPost_ret (results_cell_tmp Try.results47 _ _ q 0 [.slice none 0 0, .slice none 0 0] _ rfl (range_stored _ _ _ _ (World.there_setCells H9.out.there _ _ _)) Try.underlying74 rfl infoClash) rfl ?_
            exact ⟨by rw [HN.out, ← HO.out]; rfl, setCells_below _ HQ.out _ _ _ _ H9.out.bw⟩
          | some c =>
            obtain ⟨A1, B1⟩ := c
            obtain ⟨va1, vb1, rfl, hva1, hvb1⟩ := hA
            obtain ⟨aa1, na1, ca1, rfl⟩ := bytes_form hva1
            obtain ⟨ab1, nb1, cb1, rfl⟩ := bytes_form hvb1
            have HV := Lib.hid (And.intro hva1 hvb1)
            clear hva1 hvb1
            go_wp2_with (refine wpList_store_clash rfl _ _ rfl q (.slice aa1 na1 ca1) (.slice ab1 nb1 cb1) rfl rfl rfl rfl H9.out.there ?_)
            try rw [Exit.noGoto_ret]
            refine bodyPost_ret (results_cell_tmp Try.results47 _ _ q 0 [.slice aa1 na1 ca1, .slice ab1 nb1 cb1] _ rfl (range_stored _ _ _ _ (World.there_setCells H9.out.there _ _ _)) Try.underlying74 rfl infoClash) rfl ?_
            exact ⟨by rw [HN.out, ← HO.out]; exact ⟨_, _, rfl, bytes_clash HV.out.1 H9.out.k _ _ _ _ _ _, bytes_clash HV.out.2 H9.out.k _ _ _ _ _ _⟩, setCells_below _ HQ.out _ _ _ _ H9.out.bw⟩
      · rw [decide_eq_false hrr] at heq
        have HN := Lib.hid (show twoClash k bs which S bs' which' S' = none by rw [two_eq HT1.out.1 HT2.out.1, if_neg (fun h => hrr (by rw [HR.out.1, HR.out.2]; exact h.1))])
        have H4q := Lib.hid H3.out
        clear hrr
        iterate 1
          refine wpS_t rfl (v := ?_) (by rfl) (fun W => ?_) ?_
          rotate_left
          · go_simp
            try rfl
          try simp only [Act.put, List.setIfInBounds_toArray, List.set_cons_zero, List.set_cons_succ]
        clear heq
        iterate 2
          refine wpS_t rfl (v := ?_) (by rfl) (fun W => ?_) ?_
          rotate_left
          · go_simp
            try rfl
          try simp only [Act.put, List.setIfInBounds_toArray, List.set_cons_zero, List.set_cons_succ]
        iterate 2
          refine wpS_t_skip rfl (by rfl) ?_
          try simp only [Act.put, List.setIfInBounds_toArray, List.set_cons_zero, List.set_cons_succ]
        refine wpS_e_skip rfl (by rfl) ?_
        try simp only [Act.put, List.setIfInBounds_toArray, List.set_cons_zero, List.set_cons_succ]
        iterate 1
          refine wpS_t rfl (v := ?_) (by rfl) (fun W => ?_) ?_
          rotate_left
          · go_simp
            try rfl
          try simp only [Act.put, List.setIfInBounds_toArray, List.set_cons_zero, List.set_cons_succ]
        refine wpS_done ?_
        go_wp2_with (refine wpList_store_clash rfl _ _ rfl q (.slice none 0 0) (.slice none 0 0) rfl rfl rfl rfl H4q.out.there ?_)
        try rw [Exit.noGoto_ret]
        refine bodyPost_ret (results_cell_tmp Try.results47 _ _ q 0 [.slice none 0 0, .slice none 0 0] _ rfl (range_stored _ _ _ _ (World.there_setCells H4q.out.there _ _ _)) Try.underlying74 rfl infoClash) rfl ?_
        exact ⟨by rw [HN.out]; rfl, setCells_below _ HQ.out _ _ _ _ H4q.out.bw⟩
    · have HN := Lib.hid (show twoClash k bs which S bs' which' S' = none from two_no2 hln2)
      have H4q := Lib.hid H3.out
      clear hln2 HP4
      iterate 6
        refine wpS_t_skip rfl (by rfl) ?_
        try simp only [Act.put, List.setIfInBounds_toArray, List.set_cons_zero, List.set_cons_succ]
      iterate 1
        refine wpS_s_skip (Below.refl _ _) rfl (by rfl) ?_
        try simp only [Act.put, List.setIfInBounds_toArray, List.set_cons_zero, List.set_cons_succ]
      refine wpS_k_skip (Below.refl _ _) rfl (by rfl) ?_
      try simp only [Act.put, List.setIfInBounds_toArray, List.set_cons_zero, List.set_cons_succ]
      iterate 1
        refine wpS_t_skip rfl (by rfl) ?_
        try simp only [Act.put, List.setIfInBounds_toArray, List.set_cons_zero, List.set_cons_succ]
      iterate 2
        refine wpS_t rfl (v := ?_) (by rfl) (fun W => ?_) ?_
        rotate_left
        · go_simp
          try rfl
        try simp only [Act.put, List.setIfInBounds_toArray, List.set_cons_zero, List.set_cons_succ]
      iterate 2
        refine wpS_t_skip rfl (by rfl) ?_
        try simp only [Act.put, List.setIfInBounds_toArray, List.set_cons_zero, List.set_cons_succ]
      refine wpS_e_skip rfl (by rfl) ?_
      try simp only [Act.put, List.setIfInBounds_toArray, List.set_cons_zero, List.set_cons_succ]
      iterate 1
        refine wpS_t rfl (v := ?_) (by rfl) (fun W => ?_) ?_
        rotate_left
        · go_simp
          try rfl
        try simp only [Act.put, List.setIfInBounds_toArray, List.set_cons_zero, List.set_cons_succ]
      refine wpS_done ?_
      go_wp2_with (refine wpList_store_clash rfl _ _ rfl q (.slice none 0 0) (.slice none 0 0) rfl rfl rfl rfl H4q.out.there ?_)
      try rw [Exit.noGoto_ret]
      refine bodyPost_ret (results_cell_tmp Try.results47 _ _ q 0 [.slice none 0 0, .slice none 0 0] _ rfl (range_stored _ _ _ _ (World.there_setCells H4q.out.there _ _ _)) Try.underlying74 rfl infoClash) rfl ?_
      exact ⟨by rw [HN.out]; rfl, setCells_below _ HQ.out _ _ _ _ H4q.out.bw⟩
  · have HN := Lib.hid (show twoClash k bs which S bs' which' S' = none from two_no1 hln1)
    have H4q := Lib.hid H3.out
    clear hln1 HP3 HP4
    iterate 2
      refine wpS_t_skip rfl (by rfl) ?_
      try simp only [Act.put, List.setIfInBounds_toArray, List.set_cons_zero, List.set_cons_succ]
    iterate 2
      refine wpS_t rfl (v := ?_) (by rfl) (fun W => ?_) ?_
      rotate_left
      · go_simp
        try rfl
      try simp only [Act.put, List.setIfInBounds_toArray, List.set_cons_zero, List.set_cons_succ]
    iterate 6
      refine wpS_t_skip rfl (by rfl) ?_
      try simp only [Act.put, List.setIfInBounds_toArray, List.set_cons_zero, List.set_cons_succ]
    iterate 1
      refine wpS_s_skip (Below.refl _ _) rfl (by rfl) ?_
      try simp only [Act.put, List.setIfInBounds_toArray, List.set_cons_zero, List.set_cons_succ]
    refine wpS_k_skip (Below.refl _ _) rfl (by rfl) ?_
    try simp only [Act.put, List.setIfInBounds_toArray, List.set_cons_zero, List.set_cons_succ]
    iterate 1
      refine wpS_t_skip rfl (by rfl) ?_
      try simp only [Act.put, List.setIfInBounds_toArray, List.set_cons_zero, List.set_cons_succ]
    iterate 2
      refine wpS_t rfl (v := ?_) (by rfl) (fun W => ?_) ?_
      rotate_left
      · go_simp
        try rfl
      try simp only [Act.put, List.setIfInBounds_toArray, List.set_cons_zero, List.set_cons_succ]
    iterate 2
      refine wpS_t_skip rfl (by rfl) ?_
      try simp only [Act.put, List.setIfInBounds_toArray, List.set_cons_zero, List.set_cons_succ]
    refine wpS_e_skip rfl (by rfl) ?_
    try simp only [Act.put, List.setIfInBounds_toArray, List.set_cons_zero, List.set_cons_succ]
    iterate 1
      refine wpS_t rfl (v := ?_) (by rfl) (fun W => ?_) ?_
      rotate_left
      · go_simp
        try rfl
      try simp only [Act.put, List.setIfInBounds_toArray, List.set_cons_zero, List.set_cons_succ]
    refine wpS_done ?_
    go_wp2_with (refine wpList_store_clash rfl _ _ rfl q (.slice none 0 0) (.slice none 0 0) rfl rfl rfl rfl H4q.out.there ?_)
    try rw [Exit.noGoto_ret]
    refine bodyPost_ret (results_cell_tmp Try.results47 _ _ q 0 [.slice none 0 0, .slice none 0 0] _ rfl (range_stored _ _ _ _ (World.there_setCells H4q.out.there _ _ _)) Try.underlying74 rfl infoClash) rfl ?_
    exact ⟨by rw [HN.out]; rfl, setCells_below _ HQ.out _ _ _ _ H4q.out.bw⟩
end Go.Proofs.Ytfmgoehnbaiamaa
