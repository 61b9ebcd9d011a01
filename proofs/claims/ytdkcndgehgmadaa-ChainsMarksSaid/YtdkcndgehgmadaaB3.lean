/-
  Walks: clashes.Is.
-/
import Derived.Test.YtdkcndgehgmadaaB2
import Derived.Test.YtdkcndgehgmadaaE0
import Derived.Test.YtdkcndgehgmadaaF9
import Derived.Test.YtdkcndgehgmadaaG3
open Go Go.RowKit Alm
namespace Go.Proofs.Ytdkcndgehgmadaa
/-- A clash, as a value; in a variable. -/
abbrev cv (va vb : Value) : Value := .agg #[va, vb]
def TwoAt (W : World) (z : Nat) (va vb : Value) : Prop := W.cell? ⟨z, 0, none⟩ = some va ∧ W.cell? ⟨z, 1, none⟩ = some vb
theorem TwoAt.below {W W' : World} {z : Nat} {va vb : Value} (h : TwoAt W z va vb) (hb : Below W.heap.size W W') : TwoAt W' z va vb :=
  ⟨(hb.cell (p := ⟨z, 0, none⟩) (World.block_lt_of_cell? W _ h.1)).trans h.1, (hb.cell (p := ⟨z, 1, none⟩) (World.block_lt_of_cell? W _ h.2)).trans h.2⟩
theorem two_new (w : World) (va vb : Value) (t : TypeId) : TwoAt (w.alloc (.cells #[va, vb] t)) w.heap.size va vb := by
  have h := range_new w #[va, vb] t _ rfl
  exact ⟨h 0 _ rfl, h 1 _ rfl⟩
/-- Is that a clash? -/
noncomputable def isB (a b : List UInt8) : Bool := !decide (a = b) && decide (sh a = sh b)
set_option maxRecDepth 100000 in
set_option maxHeartbeats 1000000 in
theorem is_any (a b : List UInt8) (va vb : Value) (w : World) (ha : BytesAt w va a) (hb : BytesAt w vb b) (hla : a.length < 1000000) (hlb : b.length < 1000000) : Calls Try.prog 51 #[cv va vb] w fun e w' => e = .returned (.bool (isB a b)) ∧ Below w.heap.size w w' := by
  have hb0 := al (Below.refl _ w) (.cells #[va, vb] 75)
  have HB0 := Lib.hid hb0
  have HT := Lib.hid (two_new w va vb 75)
  have HA := Lib.hid (bytes_below ha hb0 (Nat.le_refl _))
  have HBB := Lib.hid (bytes_below hb hb0 (Nat.le_refl _))
  have HLL := Lib.hid (And.intro hla hlb)
  clear ha hb hla hlb hb0
  go_enter Try.func51, Try.ntmps51
  go_wp2_with fail
  obtain ⟨z, hz⟩ : ∃ z, z = w.heap.size := ⟨_, rfl⟩
  rw [← hz] at HT ⊢
  clear hz
  generalize w.alloc (.cells #[va, vb] 75) = W at *
  refine wp_region_sched (fun V => V.cell? ⟨z, 0, none⟩ = some va ∧ V.cell? ⟨z, 1, none⟩ = some vb ∧ Below W.heap.size W V) [.t 0, .t 2, .s 1, .e 3 true, .e 4 true, .t 5, .t 6, .t 7, .t 10, .s 8, .s 11, .e 9 true, .e 12 true, .t 13, .t 14, .t 15] (by kernel_rfl) (by kernel_rfl) (by intro c a d v w h; cases d <;> exact h) ?_
  have HSS : Hid (∀ V, Below W.heap.size W V → V.cell? ⟨z, 0, none⟩ = some va ∧ V.cell? ⟨z, 1, none⟩ = some vb ∧ Below W.heap.size W V) := Lib.hid (fun V hV => ⟨(HT.out.below hV).1, (HT.out.below hV).2, hV⟩)
  have HS := Lib.hid (Below.refl W.heap.size W).drew
  generalize W.drew = V at *
  iterate 2
    refine wpS_t rfl (v := ?_) (by rfl) (fun W => ?_) ?_
    rotate_left
    · go_simp
      try rfl
    try simp only [Act.put, List.setIfInBounds_toArray, List.set_cons_zero, List.set_cons_succ]
  refine wpS_s (by exact HSS.out _ HS.out) rfl (v := ?_) (by rfl) (fun W hSW => ?_) ?_
  rotate_left
  · go_simp
    try rfl
  try simp only [Act.put, List.setIfInBounds_toArray, List.set_cons_zero, List.set_cons_succ]
  have g := (HSS.out _ HS.out).2.1
  refine wpS_k rfl (by rfl) (fun K hK => ?_)
  go_simp
  refine hK _ _ ⟨by exact HSS.out _ HS.out, ?_⟩; clear hK K
  try simp only [Act.put, List.setIfInBounds_toArray, List.set_cons_zero, List.set_cons_succ]
  clear g
  refine wpS_k rfl (by rfl) (fun K hK => ?_)
  go_simp
  refine (eqb_any a b va vb V (bytes_below HA.out HS.out (Nat.le_refl _)) (bytes_below HBB.out HS.out (Nat.le_refl _))).mono ?_
  rintro e V1 ⟨rfl, rfl⟩
  refine hK _ _ ⟨by exact HSS.out _ HS.out, ?_⟩; clear hK K
  try simp only [Act.put, List.setIfInBounds_toArray, List.set_cons_zero, List.set_cons_succ]
  by_cases hab : a = b
  · rw [decide_eq_true hab]
    have HF : Hid (isB a b = false) := Lib.hid (by unfold isB; rw [decide_eq_true hab]; rfl)
    clear hab
    iterate 2
      refine wpS_t rfl (v := ?_) (by rfl) (fun W => ?_) ?_
      rotate_left
      · go_simp
        try rfl
      try simp only [Act.put, List.setIfInBounds_toArray, List.set_cons_zero, List.set_cons_succ]
    iterate 2
      refine wpS_t_skip rfl (by rfl) ?_
      try simp only [Act.put, List.setIfInBounds_toArray, List.set_cons_zero, List.set_cons_succ]
    iterate 2
      refine wpS_s_skip (by exact HSS.out _ HS.out) rfl (by rfl) ?_
      try simp only [Act.put, List.setIfInBounds_toArray, List.set_cons_zero, List.set_cons_succ]
    refine wpS_k_skip (by exact HSS.out _ HS.out) rfl (by rfl) ?_
    try simp only [Act.put, List.setIfInBounds_toArray, List.set_cons_zero, List.set_cons_succ]
    refine wpS_k_skip (by exact HSS.out _ HS.out) rfl (by rfl) ?_
    try simp only [Act.put, List.setIfInBounds_toArray, List.set_cons_zero, List.set_cons_succ]
    iterate 1
      refine wpS_t_skip rfl (by rfl) ?_
      try simp only [Act.put, List.setIfInBounds_toArray, List.set_cons_zero, List.set_cons_succ]
    iterate 2
      refine wpS_t rfl (v := ?_) (by rfl) (fun W => ?_) ?_
      rotate_left
      · go_simp
        try rfl
      try simp only [Act.put, List.setIfInBounds_toArray, List.set_cons_zero, List.set_cons_succ]
    refine wpS_done ?_
    go_wp2_with fail
    exact bodyPost_ret (results_tmp rfl _ _ _) rfl ⟨by rw [HF.out]; rfl, HB0.out.trans (HS.out.mono HB0.out.size)⟩
  · rw [decide_eq_false hab]
    obtain ⟨s, hs⟩ : ∃ s, s = sh a := ⟨_, rfl⟩
    obtain ⟨t, ht⟩ : ∃ s, s = sh b := ⟨_, rfl⟩
    have HF : Hid (isB a b = decide (s = t)) := Lib.hid (by unfold isB; rw [decide_eq_false hab, hs, ht]; rfl)
    have HSA := Lib.hid hs
    have HSB := Lib.hid ht
    clear hab hs ht
    iterate 4
      refine wpS_t rfl (v := ?_) (by rfl) (fun W => ?_) ?_
      rotate_left
      · go_simp
        try rfl
      try simp only [Act.put, List.setIfInBounds_toArray, List.set_cons_zero, List.set_cons_succ]
    refine wpS_s (by exact HSS.out _ HS.out) rfl (v := ?_) (by rfl) (fun W hSW => ?_) ?_
    rotate_left
    · go_simp
      try rfl
    try simp only [Act.put, List.setIfInBounds_toArray, List.set_cons_zero, List.set_cons_succ]
    refine wpS_s (by exact HSS.out _ HS.out) rfl (v := ?_) (by rfl) (fun W hSW => ?_) ?_
    rotate_left
    · go_simp
      try rfl
    try simp only [Act.put, List.setIfInBounds_toArray, List.set_cons_zero, List.set_cons_succ]
    refine wpS_k rfl (by rfl) (fun K hK => ?_)
    go_simp
    refine (sh_any a va V (bytes_below HA.out HS.out (Nat.le_refl _)) (by have := HLL.out.1; omega)).mono ?_
    rw [← HSA.out]
    rintro e V ⟨rfl, hb⟩
    replace HS := Lib.hid (HS.out.trans (hb.mono HS.out.size)); clear hb
    refine hK _ _ ⟨by exact HSS.out _ HS.out, ?_⟩; clear hK K
    try simp only [Act.put, List.setIfInBounds_toArray, List.set_cons_zero, List.set_cons_succ]
    refine wpS_k rfl (by rfl) (fun K hK => ?_)
    go_simp
    refine (sh_any b vb V (bytes_below HBB.out HS.out (Nat.le_refl _)) (by have := HLL.out.2; omega)).mono ?_
    rw [← HSB.out]
    rintro e V ⟨rfl, hb⟩
    replace HS := Lib.hid (HS.out.trans (hb.mono HS.out.size)); clear hb
    refine hK _ _ ⟨by exact HSS.out _ HS.out, ?_⟩; clear hK K
    try simp only [Act.put, List.setIfInBounds_toArray, List.set_cons_zero, List.set_cons_succ]
    have heq := eq_sums s t
    iterate 3
      refine wpS_t rfl (v := ?_) (by rfl) (fun W => ?_) ?_
      rotate_left
      · go_simp
        try rfl
      try simp only [Act.put, List.setIfInBounds_toArray, List.set_cons_zero, List.set_cons_succ]
    refine wpS_done ?_
    go_wp2_with fail
    exact bodyPost_ret (results_tmp rfl _ _ _) rfl ⟨by rw [HF.out]; rfl, HB0.out.trans (HS.out.mono HB0.out.size)⟩
end Go.Proofs.Ytdkcndgehgmadaa
