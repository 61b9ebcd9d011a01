/-
  Walks: clashes.Path, clashes.Link where the same stands there.
-/
import Derived.Test.YtdkcndgehgmadaaB5
open Go Go.RowKit Alm
namespace Go.Proofs.Ytdkcndgehgmadaa
theorem ListsAt.take {w : World} {b o n cap : Nat} {ls : List (List UInt8)} (h : ListsAt w (.slice (some ⟨b, o, none⟩) n cap) ls) (k : Nat) (hk : k ≤ ls.length) : ListsAt w (.slice (some ⟨b, o, none⟩) k cap) (ls.take k) := by
  have hc : n = ls.length ∧ ls.length ≤ cap ∧ cap ≤ maxLen := by
    obtain ⟨a, c, hv, h1, h2, _⟩ := h
    simp only [Value.slice.injEq] at hv
    obtain ⟨_, rfl, rfl⟩ := hv
    exact ⟨rfl, h1, h2⟩
  refine ⟨_, cap, by rw [List.length_take, Nat.min_eq_left hk], by rw [List.length_take, Nat.min_eq_left hk]; omega, hc.2.2, .inr ⟨b, o, rfl, fun j hj => ?_⟩⟩
  rw [List.length_take, Nat.min_eq_left hk] at hj
  obtain ⟨u, h1, h2⟩ := h.cell (sp := none) (j := j) (by omega)
  exact ⟨u, h1, by rw [List.getElem_take]; exact h2⟩
/-- Five variables. -/
theorem box_five (w : World) (v0 v1 v2 v3 : Value) (t0 t1 t2 t3 x : TypeId) (C : Array Value) (W : World)
    (hW : W = ((((w.alloc (.cells #[v0] t0)).alloc (.cells #[v1] t1)).alloc (.cells #[v2] t2)).alloc (.cells #[v3] t3)).alloc (.cells C x)) :
    W.cell? ⟨w.heap.size, 0, none⟩ = some v0 ∧ W.cell? ⟨w.heap.size + 1, 0, none⟩ = some v1 ∧ W.cell? ⟨w.heap.size + 1 + 1, 0, none⟩ = some v2 ∧ W.cell? ⟨w.heap.size + 1 + 1 + 1, 0, none⟩ = some v3 ∧ W.there (w.heap.size + 1 + 1 + 1 + 1) 0 C.size ∧ Below w.heap.size w W := by
  subst hW
  refine ⟨?_, ?_, ?_, ?_, ?_, al (al (al (al (al (Below.refl _ _) _) _) _) _) _⟩
  · exact World.rangeAt_alloc (World.rangeAt_alloc (World.rangeAt_alloc (World.rangeAt_alloc (range_new w #[v0] t0 _ rfl) _) _) _) _ 0 _ rfl
  · have := range_new (w.alloc (.cells #[v0] t0)) #[v1] t1 _ rfl
    simp only [World.size_alloc] at this
    exact World.rangeAt_alloc (World.rangeAt_alloc (World.rangeAt_alloc this _) _) _ 0 _ rfl
  · have := range_new ((w.alloc (.cells #[v0] t0)).alloc (.cells #[v1] t1)) #[v2] t2 _ rfl
    simp only [World.size_alloc] at this
    exact World.rangeAt_alloc (World.rangeAt_alloc this _) _ 0 _ rfl
  · have := range_new (((w.alloc (.cells #[v0] t0)).alloc (.cells #[v1] t1)).alloc (.cells #[v2] t2)) #[v3] t3 _ rfl
    simp only [World.size_alloc] at this
    exact World.rangeAt_alloc this _ 0 _ rfl
  · have := there_new ((((w.alloc (.cells #[v0] t0)).alloc (.cells #[v1] t1)).alloc (.cells #[v2] t2)).alloc (.cells #[v3] t3)) C x
    simp only [World.size_alloc] at this
    exact this
theorem bc {W V : World} {p : Addr} {v : Value} (h : W.cell? p = some v) (hb : Below W.heap.size W V) : V.cell? p = some v := (hb.cell (World.block_lt_of_cell? W _ h)).trans h
set_option maxRecDepth 100000 in
set_option maxHeartbeats 1000000 in
theorem path_same (l : List (List UInt8)) (k : Nat) (x : List UInt8) (vl vb vp : Value) (w : World) (hl : ListsAt w vl l) (hk : k < l.length) (hx : l[k]? = some x) (hb : BytesAt w vb x) (hn : l.length < 1000000) (hp : ∃ a n c, vp = .slice a n c) : Calls Try.prog 57 #[vl, .int .i64 (k : Int), vb, vp] w fun e w' => e = .returned (.tuple #[cv (.slice none 0 0) (.slice none 0 0), .bool false]) ∧ Below w.heap.size w w' := by
  obtain ⟨pa, pn, pc, rfl⟩ := hp
  have hb' := hb
  obtain ⟨ba, bcap, rfl, _, _, _⟩ := hb'
  have HBX := box_five w vl (.int .i64 (k : Int)) (.slice ba x.length bcap) (.slice pa pn pc) 67 3 50 22 75 #[.slice none 0 0, .slice none 0 0] _ rfl
  have hbw := HBX.2.2.2.2.2
  replace HBX := Lib.hid HBX
  have hl0 : l ≠ [] := by intro h; rw [h] at hk; simp at hk
  obtain ⟨bl, ol, cl, rfl, c1, c2⟩ := hl.form hl0
  obtain ⟨u, hcu, hu⟩ := hl.cell (sp := none) hk
  have hu : BytesAt w u x := by
    have : l[k] = x := by rw [List.getElem?_eq_getElem hk] at hx; exact Option.some.inj hx
    rw [← this]; exact hu
  have HU := Lib.hid (And.intro (bc hcu hbw) (And.intro (bytes_below hu hbw (Nat.le_refl _)) (bytes_below hb hbw (Nat.le_refl _))))
  clear hcu hu hbw hb hl hl0 hx
  obtain ⟨n, hna⟩ : ∃ n, n = l.length := ⟨_, rfl⟩
  rw [← hna] at HBX HU c1 hn hk ⊢
  clear hna
  unfold maxLen at c2
  have k0 : (0 : Int) ≤ (k : Int) := by omega
  have k1 : (k : Int) < (n : Int) := by omega
  have k2 : decide (n ≤ k) = false := decide_eq_false (by omega)
  have k3 : ¬ n ≤ k := by omega
  go_enter Try.func57, Try.ntmps57
  go_wp2_with fail
  obtain ⟨z, hz⟩ : ∃ z, z = w.heap.size := ⟨_, rfl⟩
  rw [← hz] at HBX ⊢
  have HZ := Lib.hid hz; clear hz
  have HBW := Lib.hid (HZ.out ▸ HBX.out.2.2.2.2.2 : Below w.heap.size w _)
  generalize ((((w.alloc (.cells #[.slice (some ⟨bl, ol, none⟩) n cl] 67)).alloc (.cells #[.int .i64 (k : Int)] 3)).alloc (.cells #[.slice ba x.length bcap] 50)).alloc (.cells #[.slice pa pn pc] 22)).alloc (.cells #[.slice none 0 0, .slice none 0 0] 75) = W at *
  refine wp_region_sched (fun V => V.cell? ⟨z, 0, none⟩ = some (.slice (some ⟨bl, ol, none⟩) n cl) ∧ V.cell? ⟨z + 1, 0, none⟩ = some (.int .i64 (k : Int)) ∧ V.cell? ⟨z + 1 + 1, 0, none⟩ = some (.slice ba x.length bcap) ∧ V.cell? ⟨z + 1 + 1 + 1, 0, none⟩ = some (.slice pa pn pc) ∧ V.cell? ⟨bl, ol + k, none⟩ = some u ∧ Below W.heap.size W V) [.e 0 true, .t 1, .t 2, .s 3, .e 4 true, .t 5, .t 6, .t 7, .t 8, .s 9, .s 10, .t 11, .s 12, .e 13 true, .e 14 true, .t 15, .t 16, .s 17, .s 19, .t 20, .s 21, .t 22, .t 23, .s 24, .s 25, .e 18 true, .e 26 true, .e 27 true, .t 28, .t 29] (by kernel_rfl) (by kernel_rfl) (by intro c a d v w h; cases d <;> exact h) ?_
  have HSS : Hid (∀ V, Below W.heap.size W V → V.cell? ⟨z, 0, none⟩ = some (.slice (some ⟨bl, ol, none⟩) n cl) ∧ V.cell? ⟨z + 1, 0, none⟩ = some (.int .i64 (k : Int)) ∧ V.cell? ⟨z + 1 + 1, 0, none⟩ = some (.slice ba x.length bcap) ∧ V.cell? ⟨z + 1 + 1 + 1, 0, none⟩ = some (.slice pa pn pc) ∧ V.cell? ⟨bl, ol + k, none⟩ = some u ∧ Below W.heap.size W V) := Lib.hid (fun V hV => ⟨bc HBX.out.1 hV, bc HBX.out.2.1 hV, bc HBX.out.2.2.1 hV, bc HBX.out.2.2.2.1 hV, bc HU.out.1 hV, hV⟩)
  have HS := Lib.hid (Below.refl W.heap.size W).drew
  generalize W.drew = V at *
  have g := (HSS.out _ HS.out).2.1
  refine wpS_k rfl (by rfl) (fun K hK => ?_)
  go_simp
  refine hK _ _ ⟨by exact HSS.out _ HS.out, ?_⟩; clear hK K
  try simp only [Act.put, List.setIfInBounds_toArray, List.set_cons_zero, List.set_cons_succ]
  clear g
  iterate 2
    refine wpS_t rfl (v := ?_) (by rfl) (fun W => ?_) ?_
    rotate_left
    · go_simp
      try rfl
    try simp only [Act.put, List.setIfInBounds_toArray, List.set_cons_zero, List.set_cons_succ]
  refine wpS_s (by exact HSS.out _ HS.out) rfl (v := ?_) (by rfl) (fun W hSW => ?_) ?_
  rotate_left
  · go_simp
    try rfl
  try simp only [Act.put, List.setIfInBounds_toArray, List.set_cons_zero, List.set_cons_succ]
  have g := (HSS.out _ HS.out).1
  refine wpS_k rfl (by rfl) (fun K hK => ?_)
  go_simp
  refine hK _ _ ⟨by exact HSS.out _ HS.out, ?_⟩; clear hK K
  try simp only [Act.put, List.setIfInBounds_toArray, List.set_cons_zero, List.set_cons_succ]
  clear g
  iterate 4
    refine wpS_t rfl (v := ?_) (by rfl) (fun W => ?_) ?_
    rotate_left
    · go_simp
      try rfl
    try simp only [Act.put, List.setIfInBounds_toArray, List.set_cons_zero, List.set_cons_succ]
  refine wpS_s (by exact HSS.out _ HS.out) rfl (v := ?_) (by rfl) (fun W hSW => ?_) ?_
  rotate_left
  · go_simp
    try rfl
  try simp only [Act.put, List.setIfInBounds_toArray, List.set_cons_zero, List.set_cons_succ]
  refine wpS_s (by exact HSS.out _ HS.out) rfl (v := ?_) (by rfl) (fun W hSW => ?_) ?_
  rotate_left
  · go_simp
    try rfl
  try simp only [Act.put, List.setIfInBounds_toArray, List.set_cons_zero, List.set_cons_succ]
  iterate 1
    refine wpS_t rfl (v := ?_) (by rfl) (fun W => ?_) ?_
    rotate_left
    · go_simp
      try rfl
    try simp only [Act.put, List.setIfInBounds_toArray, List.set_cons_zero, List.set_cons_succ]
  refine wpS_s (by exact HSS.out _ HS.out) rfl (v := ?_) (by rfl) (fun W hSW => ?_) ?_
  rotate_left
  · go_simp
    try rfl
  try simp only [Act.put, List.setIfInBounds_toArray, List.set_cons_zero, List.set_cons_succ]
  have g := (HSS.out _ HS.out).2.2.1
  refine wpS_k rfl (by rfl) (fun K hK => ?_)
  go_simp
  refine hK _ _ ⟨by exact HSS.out _ HS.out, ?_⟩; clear hK K
  try simp only [Act.put, List.setIfInBounds_toArray, List.set_cons_zero, List.set_cons_succ]
  clear g
  refine wpS_k rfl (by rfl) (fun K hK => ?_)
  go_simp
  refine (eqb_any x x u (.slice ba x.length bcap) V (bytes_below HU.out.2.1 HS.out (Nat.le_refl _)) (bytes_below HU.out.2.2 HS.out (Nat.le_refl _))).mono ?_
  rw [decide_eq_true rfl]
  rintro e V1 ⟨rfl, rfl⟩
  refine hK _ _ ⟨by exact HSS.out _ HS.out, ?_⟩; clear hK K
  try simp only [Act.put, List.setIfInBounds_toArray, List.set_cons_zero, List.set_cons_succ]
  iterate 2
    refine wpS_t rfl (v := ?_) (by rfl) (fun W => ?_) ?_
    rotate_left
    · go_simp
      try rfl
    try simp only [Act.put, List.setIfInBounds_toArray, List.set_cons_zero, List.set_cons_succ]
  iterate 2
    refine wpS_s_skip (by exact HSS.out _ HS.out) rfl (by rfl) ?_
    try simp only [Act.put, List.setIfInBounds_toArray, List.set_cons_zero, List.set_cons_succ]
  iterate 1
    refine wpS_t_skip rfl (by rfl) ?_
    try simp only [Act.put, List.setIfInBounds_toArray, List.set_cons_zero, List.set_cons_succ]
  iterate 1
    refine wpS_s_skip (by exact HSS.out _ HS.out) rfl (by rfl) ?_
    try simp only [Act.put, List.setIfInBounds_toArray, List.set_cons_zero, List.set_cons_succ]
  iterate 2
    refine wpS_t_skip rfl (by rfl) ?_
    try simp only [Act.put, List.setIfInBounds_toArray, List.set_cons_zero, List.set_cons_succ]
  iterate 2
    refine wpS_s_skip (by exact HSS.out _ HS.out) rfl (by rfl) ?_
    try simp only [Act.put, List.setIfInBounds_toArray, List.set_cons_zero, List.set_cons_succ]
  refine wpS_k_skip (by exact HSS.out _ HS.out) rfl (by rfl) ?_
  try simp only [Act.put, List.setIfInBounds_toArray, List.set_cons_zero, List.set_cons_succ]
  refine wpS_k_skip (by exact HSS.out _ HS.out) rfl (by rfl) ?_
  try simp only [Act.put, List.setIfInBounds_toArray, List.set_cons_zero, List.set_cons_succ]
  refine wpS_k_skip (by exact HSS.out _ HS.out) rfl (by rfl) ?_
  try simp only [Act.put, List.setIfInBounds_toArray, List.set_cons_zero, List.set_cons_succ]
  iterate 1
    refine wpS_t_skip rfl (by rfl) ?_
    try simp only [Act.put, List.setIfInBounds_toArray, List.set_cons_zero, List.set_cons_succ]
  iterate 1
    refine wpS_t rfl (v := ?_) (by rfl) (fun W => ?_) ?_
    rotate_left
    · go_simp
      try rfl
    try simp only [Act.put, List.setIfInBounds_toArray, List.set_cons_zero, List.set_cons_succ]
  refine wpS_done ?_
  have HTV := Lib.hid ((Keeps.of_below (X := fun _ => False) HS.out).there HBX.out.2.2.2.2.1 (by decide) (fun h => h))
  have HBV := Lib.hid (HBW.out.trans (HS.out.mono HBW.out.size))
  go_wp2_with (refine wpList_store_clash rfl _ _ rfl (z + 1 + 1 + 1 + 1) 0 rfl rfl HTV.out ?_)
  exact bodyPost_ret (results_cell_tmp Try.results57 _ _ (z + 1 + 1 + 1 + 1) 0 cnil _ rfl (range_stored _ _ _ _ (by exact World.there_setCells HTV.out _ _ _)) Try.underlying75 rfl infoClash) rfl ⟨rfl, setCells_below _ (by have := HZ.out; omega) _ _ _ _ HBV.out⟩
theorem box_four (w : World) (v0 v1 v2 v4 : Value) (t0 t1 t2 t4 x : TypeId) (C : Array Value) (W : World)
    (hW : W = ((((w.alloc (.cells #[v0] t0)).alloc (.cells #[v1] t1)).alloc (.cells #[v2] t2)).alloc (.cells C x)).alloc (.cells #[v4] t4)) :
    W.cell? ⟨w.heap.size, 0, none⟩ = some v0 ∧ W.cell? ⟨w.heap.size + 1, 0, none⟩ = some v1 ∧ W.cell? ⟨w.heap.size + 1 + 1, 0, none⟩ = some v2 ∧ W.cell? ⟨w.heap.size + 1 + 1 + 1 + 1, 0, none⟩ = some v4 ∧ W.there (w.heap.size + 1 + 1 + 1) 0 C.size ∧ Below w.heap.size w W := by
  subst hW
  refine ⟨?_, ?_, ?_, ?_, ?_, al (al (al (al (al (Below.refl _ _) _) _) _) _) _⟩
  · exact World.rangeAt_alloc (World.rangeAt_alloc (World.rangeAt_alloc (World.rangeAt_alloc (range_new w #[v0] t0 _ rfl) _) _) _) _ 0 _ rfl
  · have := range_new (w.alloc (.cells #[v0] t0)) #[v1] t1 _ rfl
    simp only [World.size_alloc] at this
    exact World.rangeAt_alloc (World.rangeAt_alloc (World.rangeAt_alloc this _) _) _ 0 _ rfl
  · have := range_new ((w.alloc (.cells #[v0] t0)).alloc (.cells #[v1] t1)) #[v2] t2 _ rfl
    simp only [World.size_alloc] at this
    exact World.rangeAt_alloc (World.rangeAt_alloc this _) _ 0 _ rfl
  · have := range_new ((((w.alloc (.cells #[v0] t0)).alloc (.cells #[v1] t1)).alloc (.cells #[v2] t2)).alloc (.cells C x)) #[v4] t4 _ rfl
    simp only [World.size_alloc] at this
    exact this 0 _ rfl
  · have := there_new (((w.alloc (.cells #[v0] t0)).alloc (.cells #[v1] t1)).alloc (.cells #[v2] t2)) C x
    simp only [World.size_alloc] at this
    exact World.there_alloc this _
set_option maxRecDepth 100000 in
set_option maxHeartbeats 1000000 in
theorem link_same (a b : List (List UInt8)) (va vb vp : Value) (w : World) (ha : ListsAt w va a) (hb : ListsAt w vb b) (h1 : 1 ≤ a.length) (h2 : a.length ≤ b.length) (hab : b.take a.length = a) (hn : b.length < 1000000) (hp : ∃ a n c, vp = .slice a n c) : Calls Try.prog 58 #[va, vb, vp] w fun e w' => e = .returned (.tuple #[cv (.slice none 0 0) (.slice none 0 0), .bool false]) ∧ Below w.heap.size w w' := by
  obtain ⟨pa, pn, pc, rfl⟩ := hp
  have HBX := box_four w va vb (.slice pa pn pc) (.int .i64 (a.length : Int)) 67 67 22 3 75 #[.slice none 0 0, .slice none 0 0] _ rfl
  have hbw := HBX.2.2.2.2.2
  replace HBX := Lib.hid HBX
  have hb0 : b ≠ [] := by intro h; rw [h] at h2; simp only [List.length_nil] at h2; omega
  obtain ⟨bl, ol, cl, rfl, c1, c2⟩ := hb.form hb0
  have HT : Hid (ListsAt w (.slice (some ⟨bl, ol, none⟩) a.length cl) a) := Lib.hid (by
    have := hb.take a.length h2
    rw [hab] at this
    exact this)
  have HA := Lib.hid (And.intro (ha.below hbw) (HT.out.below hbw))
  obtain ⟨aa, ca, rfl, a1, a2, a3⟩ := ha
  clear hbw hb hb0 HT hab a3
  obtain ⟨n, hna⟩ : ∃ n, n = a.length := ⟨_, rfl⟩
  rw [← hna] at HBX HA h1 h2 a1 ⊢
  have HN := Lib.hid hna
  clear hna
  obtain ⟨m, hmb⟩ : ∃ n, n = b.length := ⟨_, rfl⟩
  rw [← hmb] at HBX HA c1 h2 hn ⊢
  clear hmb
  unfold maxLen at c2 a2
  have k0 : (0 : Int) ≤ (n : Int) := by omega
  have k1 : (n : Int) ≤ (cl : Int) := by omega
  have k1' : (n : Int) ≤ (m : Int) := by omega
  have k2 : decide (m < n) = false := decide_eq_false (by omega)
  have k3 : ¬ m < n := by omega
  have k4 : decide ((n : Int) < 1) = false := decide_eq_false (by omega)
  have k5 : ¬ ((n : Int) < 1) := by omega
  go_enter Try.func58, Try.ntmps58
  go_wp2_with fail
  obtain ⟨z, hz⟩ : ∃ z, z = w.heap.size := ⟨_, rfl⟩
  rw [← hz] at HBX ⊢
  have HZ := Lib.hid hz; clear hz
  have HBW := Lib.hid (HZ.out ▸ HBX.out.2.2.2.2.2 : Below w.heap.size w _)
  generalize ((((w.alloc (.cells #[.slice aa n ca] 67)).alloc (.cells #[.slice (some ⟨bl, ol, none⟩) m cl] 67)).alloc (.cells #[.slice pa pn pc] 22)).alloc (.cells #[.slice none 0 0, .slice none 0 0] 75)).alloc (.cells #[.int .i64 (n : Int)] 3) = W at *
  refine wp_region_sched (fun V => V.cell? ⟨z, 0, none⟩ = some (.slice aa n ca) ∧ V.cell? ⟨z + 1, 0, none⟩ = some (.slice (some ⟨bl, ol, none⟩) m cl) ∧ V.cell? ⟨z + 1 + 1, 0, none⟩ = some (.slice pa pn pc) ∧ V.cell? ⟨z + 1 + 1 + 1 + 1, 0, none⟩ = some (.int .i64 (n : Int)) ∧ Below W.heap.size W V) [.e 0 true, .t 1, .t 2, .s 3, .e 4 true, .t 5, .t 6, .t 7, .t 8, .s 9, .s 10, .e 11 true, .t 12, .e 13 true, .t 14, .t 15, .s 16, .t 17, .s 18, .t 19, .t 20, .s 21, .s 23, .s 25, .e 22 true, .e 24 true, .e 26 true, .t 27, .t 28] (by kernel_rfl) (by kernel_rfl) (by intro c a d v w h; cases d <;> exact h) ?_
  have HSS : Hid (∀ V, Below W.heap.size W V → V.cell? ⟨z, 0, none⟩ = some (.slice aa n ca) ∧ V.cell? ⟨z + 1, 0, none⟩ = some (.slice (some ⟨bl, ol, none⟩) m cl) ∧ V.cell? ⟨z + 1 + 1, 0, none⟩ = some (.slice pa pn pc) ∧ V.cell? ⟨z + 1 + 1 + 1 + 1, 0, none⟩ = some (.int .i64 (n : Int)) ∧ Below W.heap.size W V) := Lib.hid (fun V hV => ⟨bc HBX.out.1 hV, bc HBX.out.2.1 hV, bc HBX.out.2.2.1 hV, bc HBX.out.2.2.2.1 hV, hV⟩)
  have HS := Lib.hid (Below.refl W.heap.size W).drew
  generalize W.drew = V at *
  have g := (HSS.out _ HS.out).2.2.2.1
  refine wpS_k rfl (by rfl) (fun K hK => ?_)
  go_simp
  refine hK _ _ ⟨by exact HSS.out _ HS.out, ?_⟩; clear hK K
  try simp only [Act.put, List.setIfInBounds_toArray, List.set_cons_zero, List.set_cons_succ]
  clear g
  iterate 2
    refine wpS_t rfl (v := ?_) (by rfl) (fun W => ?_) ?_
    rotate_left
    · go_simp
      try rfl
    try simp only [Act.put, List.setIfInBounds_toArray, List.set_cons_zero, List.set_cons_succ]
  refine wpS_s (by exact HSS.out _ HS.out) rfl (v := ?_) (by rfl) (fun W hSW => ?_) ?_
  rotate_left
  · go_simp
    try rfl
  try simp only [Act.put, List.setIfInBounds_toArray, List.set_cons_zero, List.set_cons_succ]
  have g := (HSS.out _ HS.out).2.1
  refine wpS_k rfl (by rfl) (fun K hK => ?_)
  go_simp
  refine hK _ _ ⟨by exact HSS.out _ HS.out, ?_⟩; clear hK K
  try simp only [Act.put, List.setIfInBounds_toArray, List.set_cons_zero, List.set_cons_succ]
  clear g
  iterate 4
    refine wpS_t rfl (v := ?_) (by rfl) (fun W => ?_) ?_
    rotate_left
    · go_simp
      try rfl
    try simp only [Act.put, List.setIfInBounds_toArray, List.set_cons_zero, List.set_cons_succ]
  refine wpS_s (by exact HSS.out _ HS.out) rfl (v := ?_) (by rfl) (fun W hSW => ?_) ?_
  rotate_left
  · go_simp
    try rfl
  try simp only [Act.put, List.setIfInBounds_toArray, List.set_cons_zero, List.set_cons_succ]
  refine wpS_s (by exact HSS.out _ HS.out) rfl (v := ?_) (by rfl) (fun W hSW => ?_) ?_
  rotate_left
  · go_simp
    try rfl
  try simp only [Act.put, List.setIfInBounds_toArray, List.set_cons_zero, List.set_cons_succ]
  have g := (HSS.out _ HS.out).2.2.2.1
  refine wpS_k rfl (by rfl) (fun K hK => ?_)
  go_simp
  refine hK _ _ ⟨by exact HSS.out _ HS.out, ?_⟩; clear hK K
  try simp only [Act.put, List.setIfInBounds_toArray, List.set_cons_zero, List.set_cons_succ]
  clear g
  iterate 1
    refine wpS_t rfl (v := ?_) (by rfl) (fun W => ?_) ?_
    rotate_left
    · go_simp
      try rfl
    try simp only [Act.put, List.setIfInBounds_toArray, List.set_cons_zero, List.set_cons_succ]
  refine wpS_k rfl (by rfl) (fun K hK => ?_)
  go_simp
  refine (same_any a a _ _ V (HA.out.1.below HS.out) (HA.out.2.below HS.out) (by have := HN.out; omega)).mono ?_
  rw [decide_eq_true rfl]
  rintro e V1 ⟨rfl, rfl⟩
  refine hK _ _ ⟨by exact HSS.out _ HS.out, ?_⟩; clear hK K
  try simp only [Act.put, List.setIfInBounds_toArray, List.set_cons_zero, List.set_cons_succ]
  iterate 2
    refine wpS_t rfl (v := ?_) (by rfl) (fun W => ?_) ?_
    rotate_left
    · go_simp
      try rfl
    try simp only [Act.put, List.setIfInBounds_toArray, List.set_cons_zero, List.set_cons_succ]
  iterate 1
    refine wpS_s_skip (by exact HSS.out _ HS.out) rfl (by rfl) ?_
    try simp only [Act.put, List.setIfInBounds_toArray, List.set_cons_zero, List.set_cons_succ]
  iterate 1
    refine wpS_t_skip rfl (by rfl) ?_
    try simp only [Act.put, List.setIfInBounds_toArray, List.set_cons_zero, List.set_cons_succ]
  iterate 1
    refine wpS_s_skip (by exact HSS.out _ HS.out) rfl (by rfl) ?_
    try simp only [Act.put, List.setIfInBounds_toArray, List.set_cons_zero, List.set_cons_succ]
  iterate 2
    refine wpS_t_skip rfl (by rfl) ?_
    try simp only [Act.put, List.setIfInBounds_toArray, List.set_cons_zero, List.set_cons_succ]
  iterate 3
    refine wpS_s_skip (by exact HSS.out _ HS.out) rfl (by rfl) ?_
    try simp only [Act.put, List.setIfInBounds_toArray, List.set_cons_zero, List.set_cons_succ]
  refine wpS_k_skip (by exact HSS.out _ HS.out) rfl (by rfl) ?_
  try simp only [Act.put, List.setIfInBounds_toArray, List.set_cons_zero, List.set_cons_succ]
  refine wpS_k_skip (by exact HSS.out _ HS.out) rfl (by rfl) ?_
  try simp only [Act.put, List.setIfInBounds_toArray, List.set_cons_zero, List.set_cons_succ]
  refine wpS_k_skip (by exact HSS.out _ HS.out) rfl (by rfl) ?_
  try simp only [Act.put, List.setIfInBounds_toArray, List.set_cons_zero, List.set_cons_succ]
  iterate 1
    refine wpS_t_skip rfl (by rfl) ?_
    try simp only [Act.put, List.setIfInBounds_toArray, List.set_cons_zero, List.set_cons_succ]
  iterate 1
    refine wpS_t rfl (v := ?_) (by rfl) (fun W => ?_) ?_
    rotate_left
    · go_simp
      try rfl
    try simp only [Act.put, List.setIfInBounds_toArray, List.set_cons_zero, List.set_cons_succ]
  refine wpS_done ?_
  have HTV := Lib.hid ((Keeps.of_below (X := fun _ => False) HS.out).there HBX.out.2.2.2.2.1 (by decide) (fun h => h))
  have HBV := Lib.hid (HBW.out.trans (HS.out.mono HBW.out.size))
  go_wp2_with (refine wpList_store_clash rfl _ _ rfl (z + 1 + 1 + 1) 0 rfl rfl HTV.out ?_)
  exact bodyPost_ret (results_cell_tmp Try.results58 _ _ (z + 1 + 1 + 1) 0 cnil _ rfl (range_stored _ _ _ _ (by exact World.there_setCells HTV.out _ _ _)) Try.underlying75 rfl infoClash) rfl ⟨rfl, setCells_below _ (by have := HZ.out; omega) _ _ _ _ HBV.out⟩
end Go.Proofs.Ytdkcndgehgmadaa
