/-
  Walks: clashes.Lists where none is told.
-/
import Derived.Test.YtdkcndgehgmadaaB3
open Go Go.RowKit Alm
namespace Go.Proofs.Ytdkcndgehgmadaa
abbrev cnil : List Value := [.slice none 0 0, .slice none 0 0]
theorem infoClash : (Try.prog.info? 75).map (·.size) = some 2 := by kernel_rfl
theorem all_cnil : cnil.toArray.all (·.oneCell') = true := by kernel_rfl
theorem wpList_store_clash {ops : Array Oper} {rest : List Oper} {op : Oper} {a : Act} {w : World} {Q : Exit → Act → World → Prop} (hgd : op.guard = none) (x y : Operand) (ho : op.op = .store 75 x y)
    (b o : Nat) (hx : a.eval x = .pointer (some ⟨b, o, none⟩)) (hy : a.eval y = .agg cnil.toArray) (ht : w.there b o 2)
    (h : wpList Try.prog ops Q rest (a.put op.dst undef) (w.setCells b o cnil)) : wpList Try.prog ops Q (op :: rest) a w :=
  wpList_store_mid hgd _ x y ho b o _ hx hy ht infoClash all_cnil h
theorem box_two (w : World) (va vb : Value) (t u x : TypeId) (C : Array Value) :
    ((((w.alloc (.cells #[va] t)).alloc (.cells #[vb] u)).alloc (.cells C x))).cell? ⟨w.heap.size, 0, none⟩ = some va ∧ ((((w.alloc (.cells #[va] t)).alloc (.cells #[vb] u)).alloc (.cells C x))).cell? ⟨w.heap.size + 1, 0, none⟩ = some vb := by
  constructor
  · exact World.rangeAt_alloc (World.rangeAt_alloc (range_new w #[va] t _ rfl) _) _ 0 _ rfl
  · have := range_new (w.alloc (.cells #[va] t)) #[vb] u _ rfl
    rw [World.size_alloc] at this
    exact World.rangeAt_alloc this _ 0 _ rfl
set_option maxRecDepth 100000 in
set_option maxHeartbeats 1000000 in
theorem lists_same (a : List (List UInt8)) (va vb : Value) (w : World) (ha : ListsAt w va a) (hb : ListsAt w vb a) (hn : a.length < 1000000) : Calls Try.prog 54 #[va, vb] w fun e w' => e = .returned (.tuple #[cv (.slice none 0 0) (.slice none 0 0), .bool false]) ∧ Below w.heap.size w w' := by
  have hbw : Below w.heap.size w (((w.alloc (.cells #[va] 67)).alloc (.cells #[vb] 67)).alloc (.cells #[.slice none 0 0, .slice none 0 0] 75)) := al (al (al (Below.refl _ _) _) _) _
  have HBW := Lib.hid hbw
  have HT := Lib.hid (box_two w va vb 67 67 75 #[.slice none 0 0, .slice none 0 0])
  have HTH : Hid ((((w.alloc (.cells #[va] 67)).alloc (.cells #[vb] 67)).alloc (.cells #[.slice none 0 0, .slice none 0 0] 75)).there (w.heap.size + 1 + 1) 0 2) := Lib.hid (by
    have := there_new ((w.alloc (.cells #[va] 67)).alloc (.cells #[vb] 67)) #[.slice none 0 0, .slice none 0 0] 75
    simp only [World.size_alloc] at this
    exact this)
  have HA := Lib.hid (ha.below hbw)
  have HB := Lib.hid (hb.below hbw)
  obtain ⟨aa, ca, rfl, a1, a2, a3⟩ := ha
  obtain ⟨ab, cb, rfl, b1, b2, b3⟩ := hb
  clear a3 b3 hbw
  obtain ⟨n, hna⟩ : ∃ n, n = a.length := ⟨_, rfl⟩
  rw [← hna] at HA HB HT HBW HTH a1 b1 hn ⊢
  have HN := Lib.hid hna; clear hna
  go_enter Try.func54, Try.ntmps54
  go_wp2_with fail
  obtain ⟨z, hz⟩ : ∃ z, z = w.heap.size := ⟨_, rfl⟩
  rw [← hz] at HT HTH ⊢
  have HZ := Lib.hid hz; clear hz
  generalize ((w.alloc (.cells #[.slice aa n ca] 67)).alloc (.cells #[.slice ab n cb] 67)).alloc (.cells #[.slice none 0 0, .slice none 0 0] 75) = W at *
  refine wp_region_sched (fun V => V.cell? ⟨z, 0, none⟩ = some (.slice aa n ca) ∧ V.cell? ⟨z + 1, 0, none⟩ = some (.slice ab n cb) ∧ Below W.heap.size W V) [.s 0, .t 1, .e 2 true, .t 3, .t 4, .t 5, .s 6, .e 7 true, .e 8 true, .t 9, .t 10, .s 11, .s 13, .e 12 true, .e 14 true, .t 15, .t 16] (by kernel_rfl) (by kernel_rfl) (by intro c a d v w h; cases d <;> exact h) ?_
  have HSS : Hid (∀ V, Below W.heap.size W V → V.cell? ⟨z, 0, none⟩ = some (.slice aa n ca) ∧ V.cell? ⟨z + 1, 0, none⟩ = some (.slice ab n cb) ∧ Below W.heap.size W V) := Lib.hid (fun V hV => ⟨(hV.cell (p := ⟨z, 0, none⟩) (World.block_lt_of_cell? W _ HT.out.1)).trans HT.out.1, (hV.cell (p := ⟨z + 1, 0, none⟩) (World.block_lt_of_cell? W _ HT.out.2)).trans HT.out.2, hV⟩)
  have HS := Lib.hid (Below.refl W.heap.size W).drew
  generalize W.drew = V at *
  refine wpS_s (by exact HSS.out _ HS.out) rfl (v := ?_) (by rfl) (fun W hSW => ?_) ?_
  rotate_left
  · go_simp
    try rfl
  try simp only [Act.put, List.setIfInBounds_toArray, List.set_cons_zero, List.set_cons_succ]
  iterate 1
    refine wpS_t rfl (v := ?_) (by rfl) (fun W => ?_) ?_
    rotate_left
    · go_simp
      try rfl
    try simp only [Act.put, List.setIfInBounds_toArray, List.set_cons_zero, List.set_cons_succ]
  have g := (HSS.out _ HS.out).2.1
  refine wpS_k rfl (by rfl) (fun K hK => ?_)
  go_simp
  refine hK _ _ ⟨by exact HSS.out _ HS.out, ?_⟩; clear hK K
  try simp only [Act.put, List.setIfInBounds_toArray, List.set_cons_zero, List.set_cons_succ]
  clear g
  iterate 3
    refine wpS_t rfl (v := ?_) (by rfl) (fun W => ?_) ?_
    rotate_left
    · go_simp
      try rfl
    try simp only [Act.put, List.setIfInBounds_toArray, List.set_cons_zero, List.set_cons_succ]
  refine wpS_s (by exact HSS.out _ HS.out) rfl (v := ?_) (by rfl) (fun W hSW => ?_) ?_
  rotate_left
  · go_simp
    try rfl
  try simp only [Act.put, List.setIfInBounds_toArray, List.set_cons_zero, List.set_cons_succ]
  have g := (HSS.out _ HS.out).2.1
  refine wpS_k rfl (by rfl) (fun K hK => ?_)
  go_simp
  refine hK _ _ ⟨by exact HSS.out _ HS.out, ?_⟩; clear hK K
  try simp only [Act.put, List.setIfInBounds_toArray, List.set_cons_zero, List.set_cons_succ]
  clear g
  refine wpS_k rfl (by rfl) (fun K hK => ?_)
  go_simp
  refine (same_any a a _ _ V (HA.out.below HS.out) (HB.out.below HS.out) (by have := HN.out; omega)).mono ?_
  rw [decide_eq_true rfl]
  rintro e V1 ⟨rfl, rfl⟩
  refine hK _ _ ⟨by exact HSS.out _ HS.out, ?_⟩; clear hK K
  try simp only [Act.put, List.setIfInBounds_toArray, List.set_cons_zero, List.set_cons_succ]
  iterate 2
    refine wpS_t rfl (v := ?_) (by rfl) (fun W => ?_) ?_
    rotate_left
    · go_simp
      try rfl
    try simp only [Act.put, List.setIfInBounds_toArray, List.set_cons_zero, List.set_cons_succ]
  iterate 2
    refine wpS_s_skip (by exact HSS.out _ HS.out) rfl (by rfl) ?_
    try simp only [Act.put, List.setIfInBounds_toArray, List.set_cons_zero, List.set_cons_succ]
  refine wpS_k_skip (by exact HSS.out _ HS.out) rfl (by rfl) ?_
  try simp only [Act.put, List.setIfInBounds_toArray, List.set_cons_zero, List.set_cons_succ]
  refine wpS_k_skip (by exact HSS.out _ HS.out) rfl (by rfl) ?_
  try simp only [Act.put, List.setIfInBounds_toArray, List.set_cons_zero, List.set_cons_succ]
  iterate 1
    refine wpS_t_skip rfl (by rfl) ?_
    try simp only [Act.put, List.setIfInBounds_toArray, List.set_cons_zero, List.set_cons_succ]
  iterate 1
    refine wpS_t rfl (v := ?_) (by rfl) (fun W => ?_) ?_
    rotate_left
    · go_simp
      try rfl
    try simp only [Act.put, List.setIfInBounds_toArray, List.set_cons_zero, List.set_cons_succ]
  refine wpS_done ?_
  have HTV := Lib.hid ((Keeps.of_below (X := fun _ => False) HS.out).there HTH.out (by decide) (fun h => h))
  have HBV := Lib.hid (HBW.out.trans (HS.out.mono HBW.out.size))
  go_wp2_with (refine wpList_store_clash rfl _ _ rfl (z + 1 + 1) 0 rfl rfl HTV.out ?_)
  exact bodyPost_ret (results_cell_tmp Try.results54 _ _ (z + 1 + 1) 0 cnil _ rfl (range_stored _ _ _ _ (by exact World.there_setCells HTV.out _ _ _)) Try.underlying75 rfl infoClash) rfl ⟨rfl, setCells_below _ (by have := HZ.out; omega) _ _ _ _ HBV.out⟩
set_option maxRecDepth 100000 in
set_option maxHeartbeats 1000000 in
theorem lists_root (a b : List (List UInt8)) (va vb : Value) (w : World) (ha : ListsAt w va a) (hb : ListsAt w vb b) (hn : a.length < 1000000) (hab : a.length = b.length) (hne : ¬ a = b) (hsa : ∀ x ∈ a, x.length < 1000000) (hsb : ∀ x ∈ b, x.length < 1000000) (hr : ¬ rt (a.map lf) = rt (b.map lf)) : Calls Try.prog 54 #[va, vb] w fun e w' => e = .returned (.tuple #[cv (.slice none 0 0) (.slice none 0 0), .bool false]) ∧ Below w.heap.size w w' := by
  have hbw : Below w.heap.size w (((w.alloc (.cells #[va] 67)).alloc (.cells #[vb] 67)).alloc (.cells #[.slice none 0 0, .slice none 0 0] 75)) := al (al (al (Below.refl _ _) _) _) _
  have HBW := Lib.hid hbw
  have HT := Lib.hid (box_two w va vb 67 67 75 #[.slice none 0 0, .slice none 0 0])
  have HTH : Hid ((((w.alloc (.cells #[va] 67)).alloc (.cells #[vb] 67)).alloc (.cells #[.slice none 0 0, .slice none 0 0] 75)).there (w.heap.size + 1 + 1) 0 2) := Lib.hid (by
    have := there_new ((w.alloc (.cells #[va] 67)).alloc (.cells #[vb] 67)) #[.slice none 0 0, .slice none 0 0] 75
    simp only [World.size_alloc] at this
    exact this)
  have HA := Lib.hid (ha.below hbw)
  have HB := Lib.hid (hb.below hbw)
  obtain ⟨aa, ca, rfl, a1, a2, a3⟩ := ha
  obtain ⟨ab, cb, rfl, b1, b2, b3⟩ := hb
  rw [← hab] at b1 HB HT HBW HTH HA
  rw [← hab]
  clear a3 b3 hbw
  obtain ⟨n, hna⟩ : ∃ n, n = a.length := ⟨_, rfl⟩
  rw [← hna] at HA HB HT HBW HTH a1 b1 hn ⊢
  have HN := Lib.hid (And.intro hna (hna.trans hab))
  have HX := Lib.hid (And.intro hsa (And.intro hsb hne))
  obtain ⟨ra, hra⟩ : ∃ r, r = rt (a.map lf) := ⟨_, rfl⟩
  obtain ⟨rb, hrb⟩ : ∃ r, r = rt (b.map lf) := ⟨_, rfl⟩
  rw [← hra, ← hrb] at hr
  have HRA := Lib.hid hra
  have HRB := Lib.hid hrb
  have hes : ∀ w : World, (Op.equalIn 10000 24 (.agg (cellsOf ra).toArray) (.agg (cellsOf rb).toArray)).run Try.prog w = .ok false w := fun w => by rw [eq_sums]; simp [hr]
  have HES := Lib.hid hes
  clear hna hab hsa hsb hne hra hrb hr hes
  go_enter Try.func54, Try.ntmps54
  go_wp2_with fail
  obtain ⟨z, hz⟩ : ∃ z, z = w.heap.size := ⟨_, rfl⟩
  rw [← hz] at HT HTH ⊢
  have HZ := Lib.hid hz; clear hz
  generalize ((w.alloc (.cells #[.slice aa n ca] 67)).alloc (.cells #[.slice ab n cb] 67)).alloc (.cells #[.slice none 0 0, .slice none 0 0] 75) = W at *
  refine wp_region_sched (fun V => V.cell? ⟨z, 0, none⟩ = some (.slice aa n ca) ∧ V.cell? ⟨z + 1, 0, none⟩ = some (.slice ab n cb) ∧ Below W.heap.size W V) [.s 0, .t 1, .e 2 true, .t 3, .t 4, .t 5, .s 6, .e 7 true, .e 8 true, .t 9, .t 10, .s 11, .s 13, .e 12 true, .e 14 true, .t 15, .t 16] (by kernel_rfl) (by kernel_rfl) (by intro c a d v w h; cases d <;> exact h) ?_
  have HSS : Hid (∀ V, Below W.heap.size W V → V.cell? ⟨z, 0, none⟩ = some (.slice aa n ca) ∧ V.cell? ⟨z + 1, 0, none⟩ = some (.slice ab n cb) ∧ Below W.heap.size W V) := Lib.hid (fun V hV => ⟨(hV.cell (p := ⟨z, 0, none⟩) (World.block_lt_of_cell? W _ HT.out.1)).trans HT.out.1, (hV.cell (p := ⟨z + 1, 0, none⟩) (World.block_lt_of_cell? W _ HT.out.2)).trans HT.out.2, hV⟩)
  have HS := Lib.hid (Below.refl W.heap.size W).drew
  generalize W.drew = V at *
  refine wpS_s (by exact HSS.out _ HS.out) rfl (v := ?_) (by rfl) (fun W hSW => ?_) ?_
  rotate_left
  · go_simp
    try rfl
  try simp only [Act.put, List.setIfInBounds_toArray, List.set_cons_zero, List.set_cons_succ]
  iterate 1
    refine wpS_t rfl (v := ?_) (by rfl) (fun W => ?_) ?_
    rotate_left
    · go_simp
      try rfl
    try simp only [Act.put, List.setIfInBounds_toArray, List.set_cons_zero, List.set_cons_succ]
  have g := (HSS.out _ HS.out).2.1
  refine wpS_k rfl (by rfl) (fun K hK => ?_)
  go_simp
  refine hK _ _ ⟨by exact HSS.out _ HS.out, ?_⟩; clear hK K
  try simp only [Act.put, List.setIfInBounds_toArray, List.set_cons_zero, List.set_cons_succ]
  clear g
  iterate 3
    refine wpS_t rfl (v := ?_) (by rfl) (fun W => ?_) ?_
    rotate_left
    · go_simp
      try rfl
    try simp only [Act.put, List.setIfInBounds_toArray, List.set_cons_zero, List.set_cons_succ]
  refine wpS_s (by exact HSS.out _ HS.out) rfl (v := ?_) (by rfl) (fun W hSW => ?_) ?_
  rotate_left
  · go_simp
    try rfl
  try simp only [Act.put, List.setIfInBounds_toArray, List.set_cons_zero, List.set_cons_succ]
  have g := (HSS.out _ HS.out).2.1
  refine wpS_k rfl (by rfl) (fun K hK => ?_)
  go_simp
  refine hK _ _ ⟨by exact HSS.out _ HS.out, ?_⟩; clear hK K
  try simp only [Act.put, List.setIfInBounds_toArray, List.set_cons_zero, List.set_cons_succ]
  clear g
  refine wpS_k rfl (by rfl) (fun K hK => ?_)
  go_simp
  refine (same_any a b _ _ V (HA.out.below HS.out) (HB.out.below HS.out) (by have := HN.out.1; omega)).mono ?_
  rw [decide_eq_false HX.out.2.2]
  rintro e V1 ⟨rfl, rfl⟩
  refine hK _ _ ⟨by exact HSS.out _ HS.out, ?_⟩; clear hK K
  try simp only [Act.put, List.setIfInBounds_toArray, List.set_cons_zero, List.set_cons_succ]
  iterate 2
    refine wpS_t rfl (v := ?_) (by rfl) (fun W => ?_) ?_
    rotate_left
    · go_simp
      try rfl
    try simp only [Act.put, List.setIfInBounds_toArray, List.set_cons_zero, List.set_cons_succ]
  refine wpS_s (by exact HSS.out _ HS.out) rfl (v := ?_) (by rfl) (fun W hSW => ?_) ?_
  rotate_left
  · go_simp
    try rfl
  try simp only [Act.put, List.setIfInBounds_toArray, List.set_cons_zero, List.set_cons_succ]
  refine wpS_s (by exact HSS.out _ HS.out) rfl (v := ?_) (by rfl) (fun W hSW => ?_) ?_
  rotate_left
  · go_simp
    try rfl
  try simp only [Act.put, List.setIfInBounds_toArray, List.set_cons_zero, List.set_cons_succ]
  refine wpS_k rfl (by rfl) (fun K hK => ?_)
  go_simp
  refine (croot_any a _ V (HA.out.below HS.out) (by have := HN.out.1; omega) HX.out.1).mono ?_
  rw [← HRA.out]
  rintro e V ⟨rfl, hb⟩
  replace HS := Lib.hid (HS.out.trans (hb.mono HS.out.size)); clear hb
  refine hK _ _ ⟨by exact HSS.out _ HS.out, ?_⟩; clear hK K
  try simp only [Act.put, List.setIfInBounds_toArray, List.set_cons_zero, List.set_cons_succ]
  refine wpS_k rfl (by rfl) (fun K hK => ?_)
  go_simp
  refine (croot_any b _ V (HB.out.below HS.out) (by have := HN.out.2; omega) HX.out.2.1).mono ?_
  rw [← HRB.out]
  rintro e V ⟨rfl, hb⟩
  replace HS := Lib.hid (HS.out.trans (hb.mono HS.out.size)); clear hb
  refine hK _ _ ⟨by exact HSS.out _ HS.out, ?_⟩; clear hK K
  try simp only [Act.put, List.setIfInBounds_toArray, List.set_cons_zero, List.set_cons_succ]
  have hes := HES.out
  iterate 2
    refine wpS_t rfl (v := ?_) (by rfl) (fun W => ?_) ?_
    rotate_left
    · go_simp
      try rfl
    try simp only [Act.put, List.setIfInBounds_toArray, List.set_cons_zero, List.set_cons_succ]
  refine wpS_done ?_
  have HTV := Lib.hid ((Keeps.of_below (X := fun _ => False) HS.out).there HTH.out (by decide) (fun h => h))
  have HBV := Lib.hid (HBW.out.trans (HS.out.mono HBW.out.size))
  go_wp2_with (refine wpList_store_clash rfl _ _ rfl (z + 1 + 1) 0 rfl rfl HTV.out ?_)
  exact bodyPost_ret (results_cell_tmp Try.results54 _ _ (z + 1 + 1) 0 cnil _ rfl (range_stored _ _ _ _ (by exact World.there_setCells HTV.out _ _ _)) Try.underlying75 rfl infoClash) rfl ⟨rfl, setCells_below _ (by have := HZ.out; omega) _ _ _ _ HBV.out⟩
end Go.Proofs.Ytdkcndgehgmadaa
