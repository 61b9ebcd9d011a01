/-
  Walks: the links' law's 'alive'.
-/
import Derived.Test.YtdkcndgehgmadaaG10
open Go Go.RowKit Alm
namespace Alm
/-- Two ways that meet again. -/
theorem join {α β : Type} {G : α → β → Prop} {g : Prop} (F : α → β → Prop) (main : (∀ a b, F a b → G a b) → g) (key : ∀ a b, F a b → G a b) : g := main key
end Alm
namespace Go.Proofs.Ytdkcndgehgmadaa
theorem wpList_build_one {ops : Array Oper} {rest : List Oper} {op : Oper} {a : Act} {w : World} {Q : Exit → Act → World → Prop} (hgd : op.guard = none) (parts : Array (Nat × Operand)) (ho : op.op = .build 24 parts)
    (c : Value) (s : Sum) (hp : (parts.toList.map fun (i, x) => (i, a.eval x)) = [(0, c)]) (hr : ∀ W, (Instr.build 24 #[(0, c)]).run Try.prog W = .ok (sv s) W)
    (h : wpList Try.prog ops Q rest (a.put op.dst (sv s)) w) : wpList Try.prog ops Q (op :: rest) a w :=
  wpList_build_by hgd 24 parts ho (sv s) (fun W => by
    have : (parts.map fun (i, x) => (i, a.eval x)) = #[(0, c)] := by
      apply Array.toList_inj.1
      rw [Array.toList_map]; exact hp
    rw [this]
    exact hr W) h
theorem linksOf_arg (l : List Sum) (v : Value) (w : World) (hv : SumsAt w v l) : Calls Try.prog 36 #[v, .int .i64 0] w fun e w' => e = .returned (.tuple #[.slice none 0 0, .int .i64 1]) ∧ w = w' := by
  obtain ⟨a, cap, rfl, _, _, _⟩ := hv
  go_enter Try.func36, Try.ntmps36
  go_wp2_with fail
  exact bodyPost_ret (results_tmp2 rfl _ _ _) rfl ⟨rfl, rfl⟩
theorem rt_one (a : Sum) : rt [a] = a := by rw [rt_eq, root_one]
theorem cut_two : cut 2 = 1 := cut_eq (j := 0) (by simp) (by simp)
theorem cut_three : cut 3 = 2 := cut_eq (j := 1) (by simp) (by simp)
theorem rt_pair (a b : Sum) : rt [a, b] = nd a b := by
  rw [rt_eq, root_split nd e0 (by simp)]
  have : cut [a, b].length = 1 := cut_two
  rw [this]; simp [root_one]
theorem rt_triple (a b c : Sum) : rt [a, b, c] = nd (nd a b) c := by
  have h2 := rt_pair a b
  rw [rt_eq] at h2 ⊢
  rw [root_split nd e0 (by simp)]
  have : cut [a, b, c].length = 2 := cut_three
  rw [this]; simp [root_one, h2]
theorem link_31 (a b c : Sum) : link nd e0 [a, b, c] 1 true = [b, c] := by
  rw [link_left [a, b, c] 1 true (by omega) (by simp) (by rw [show [a, b, c].length = 3 from rfl, cut_three]; omega)]
  rw [show [a, b, c].length = 3 from rfl, cut_three]
  simp only [List.take, List.drop]
  rw [link_left [a, b] 1 true (by omega) (by simp) (by rw [show [a, b].length = 2 from rfl, cut_two]; omega)]
  rw [show [a, b].length = 2 from rfl, cut_two]
  simp only [List.take, List.drop]
  have := link_end [a] true
  rw [show [a].length = 1 from rfl, if_pos rfl] at this
  rw [this, rt_one, rt_one]; rfl
theorem link_32 (a b c : Sum) : link nd e0 [a, b, c] 2 true = [c] := by
  rw [link_left [a, b, c] 2 true (by omega) (by simp) (by rw [show [a, b, c].length = 3 from rfl, cut_three]; omega)]
  rw [show [a, b, c].length = 3 from rfl, cut_three]
  simp only [List.take, List.drop]
  rw [show (2 : Nat) = [a, b].length from rfl, link_end [a, b] true, rt_one, if_pos rfl, List.nil_append]
theorem link_33 (a b c : Sum) : link nd e0 [a, b, c] 3 true = [] := by
  rw [show (3 : Nat) = [a, b, c].length from rfl, link_end [a, b, c] true, if_pos rfl]
theorem letBe_same (a : Sum) : letBe 1 1 a a [] = true := by
  unfold letBe
  rw [leads2, dif_pos (Nat.le_refl _)]
  simp
theorem letBe_link (l : List Sum) (m : Nat) (h1 : 1 ≤ m) (h2 : m ≤ l.length) : letBe m l.length (rt (l.take m)) (rt l) (link nd e0 l m true) = true := by
  unfold letBe
  have := leads2_link nd e0 l m true (rt (l.take m)) h1 h2 (fun _ => by rw [rt_eq]) []
  rw [List.append_nil] at this
  rw [this, rt_eq]
  simp [h1, h2]
theorem br {w V : World} (hV : Below w.heap.size w V) {b o : Nat} {cs : List Value} (h : w.rangeAt b o cs) : V.rangeAt b o cs := (Keeps.of_below (X := fun _ => False) hV).range h (fun h => h)
theorem sums_built (W : World) (l : List Sum) (n : Nat) (h : l.length = n) (hn : n ≤ 1000) : SumsAt (W.alloc (.cells (cellsAll l).toArray 24)) (.slice (some ⟨W.heap.size, 0, none⟩) n n) l :=
  ⟨_, n, by rw [h], by omega, by unfold maxLen; omega, .inr ⟨_, _, rfl, range_new W _ _ _ rfl⟩⟩
set_option maxRecDepth 100000 in
set_option maxHeartbeats 4000000 in
theorem alive_links (w : World) : Calls Try.prog 35 #[] w fun e w' => e = .returned (.bool true) ∧ Below w.heap.size w w' := by
  go_enter Try.func35, Try.ntmps35
  go_wp2_with (first
    | (refine wpList_build_one rfl _ rfl (.int .u8 1) (lit 1) rfl build_1 ?_)
    | (refine wpList_build_one rfl _ rfl (.int .u8 2) (lit 2) rfl build_2 ?_)
    | (refine wpList_build_one rfl _ rfl (.int .u8 3) (lit 3) rfl build_3 ?_)
    | (refine wpList_build_sums rfl 3 _ rfl [lit 1, lit 2, lit 3] rfl (by omega) (by omega) rfl ?_))
  have hr := range_new w (cellsAll [lit 1, lit 2, lit 3]).toArray 24 _ rfl
  have hB := al (Below.refl _ w) (.cells (cellsAll [lit 1, lit 2, lit 3]).toArray 24)
  obtain ⟨L, hL⟩ : ∃ L, L = w.heap.size := ⟨_, rfl⟩
  rw [← hL] at hr ⊢
  clear hL
  generalize w.alloc (.cells (cellsAll [lit 1, lit 2, lit 3]).toArray 24) = W1 at *
  have HB1 := Lib.hid hB.drew; clear hB
  have hr : W1.drew.rangeAt L 0 (cellsAll [lit 1, lit 2, lit 3]) := hr
  have HR1 := Lib.hid hr; clear hr
  obtain ⟨ab, hab⟩ : ∃ ab, ab = nd (lit 1) (lit 2) := ⟨_, rfl⟩
  have HAB := Lib.hid hab; clear hab
  refine wp_region_sched (fun W => W.rangeAt L 0 (cellsAll [lit 1, lit 2, lit 3])) [.t 0, .t 1, .t 3, .t 4, .s 2, .s 5, .f 6 7 true, .e 8 false] (by kernel_rfl) (by kernel_rfl) (by intro c a d v w h; cases d <;> exact h) ?_
  generalize W1.drew = W2 at *
  iterate 4
    refine wpS_t rfl (v := ?_) (by rfl) (fun W => ?_) ?_
    rotate_left
    · go_simp
      try rfl
    try simp only [Act.put, List.setIfInBounds_toArray, List.set_cons_zero, List.set_cons_succ]
  refine wpS_load_sum (by exact HR1.out) rfl (by rfl) _ (by rfl) L 0 (by rfl) (lit 1) (fun W hW => range_at hW (i := 0) (by simp)) ?_
  try simp only [Act.put, List.setIfInBounds_toArray, List.set_cons_zero, List.set_cons_succ]
  refine wpS_load_sum (by exact HR1.out) rfl (by rfl) _ (by rfl) L 32 (by rfl) (lit 2) (fun W hW => range_at hW (i := 1) (by simp)) ?_
  try simp only [Act.put, List.setIfInBounds_toArray, List.set_cons_zero, List.set_cons_succ]
  have HBW := Lib.hid (And.intro HR1.out HB1.out)
  clear HB1 HR1 hr
  refine' join (fun (q : Nat) (W : World) => W.rangeAt q 0 (cellsOf ab) ∧ W.rangeAt L 0 (cellsAll [lit 1, lit 2, lit 3]) ∧ Below w.heap.size w W) (fun key => ?_) ?_
  rotate_left
  · refine wpS_fk ?_ ?_
    · refine wpOp_of rfl (by rfl) (fun K hK => ?_)
      go_simp
      refine (nd_any (lit 1) (lit 2) W2).mono ?_
      rw [← HAB.out]
      rintro e W3 ⟨rfl, hb⟩
      have hk := Keeps.of_below (X := fun _ => False) hb
      have hr3 := hk.range HBW.out.1 (fun h => h)
      have hb3 := HBW.out.2.trans (hb.mono HBW.out.2.size)
      have R4 : Res W3 32 (W3.alloc (.cells (cells8 (List.replicate 32 0)).toArray 24)) := Res.start _ _ _ _ (by rfl)
      have HF : Hid (((W3.alloc (.cells (cells8 (List.replicate 32 0)).toArray 24)).setCells W3.heap.size 0 (cellsOf ab)).rangeAt W3.heap.size 0 (cellsOf ab) ∧ ((W3.alloc (.cells (cells8 (List.replicate 32 0)).toArray 24)).setCells W3.heap.size 0 (cellsOf ab)).rangeAt L 0 (cellsAll [lit 1, lit 2, lit 3]) ∧ Below w.heap.size w ((W3.alloc (.cells (cells8 (List.replicate 32 0)).toArray 24)).setCells W3.heap.size 0 (cellsOf ab))) := Lib.hid ⟨range_stored _ _ _ _ (by rw [length_cellsOf]; exact (R4.store _).there), (R4.store _).range hr3, hb3.trans ((R4.store _).below.mono hb3.size)⟩
      refine hK _ _ ⟨by exact hr3, ?_⟩; clear hK K hk hb
      try simp only [Act.put, List.setIfInBounds_toArray, List.set_cons_zero, List.set_cons_succ]
      refine wpOp_of rfl (by rfl) (fun K hK => ?_)
      go_simp
      refine hK _ _ ⟨by exact R4.range hr3, ?_⟩; clear hK K
      try simp only [Act.put, List.setIfInBounds_toArray, List.set_cons_zero, List.set_cons_succ]
      refine wpS_e rfl (by rfl) (fun K hK => ?_)
      refine wp_store_sum _ _ (by rfl) W3.heap.size 0 ab (by rfl) (by rfl) R4.there ?_
      refine hK _ _ ?_; clear hK K
      try simp only [Act.put, List.setIfInBounds_toArray, List.set_cons_zero, List.set_cons_succ]
      change wpS _ _ _ _ _ _ _ ((W3.alloc (.cells (cells8 (List.replicate 32 0)).toArray 24)).setCells W3.heap.size 0 (cellsOf ab))
      clear R4
      generalize (W3.alloc (.cells (cells8 (List.replicate 32 0)).toArray 24)).setCells W3.heap.size 0 (cellsOf ab) = W5 at *
      generalize W3.heap.size = q at *
      exact key q W5 HF.out
    · have R3 : Res W2 32 (W2.alloc (.cells (cells8 (List.replicate 32 0)).toArray 24)) := Res.start _ _ _ _ (by rfl)
      refine wpOp_of rfl (by rfl) (fun K hK => ?_)
      go_simp
      refine hK _ _ ⟨by exact R3.range HBW.out.1, ?_⟩; clear hK K
      try simp only [Act.put, List.setIfInBounds_toArray, List.set_cons_zero, List.set_cons_succ]
      refine wpOp_of rfl (by rfl) (fun K hK => ?_)
      go_simp
      refine (nd_any (lit 1) (lit 2) (W2.alloc (.cells (cells8 (List.replicate 32 0)).toArray 24))).mono ?_
      rw [← HAB.out]
      rintro e W4 ⟨rfl, hb⟩
      have R4 : Res W2 32 W4 := R3.call (by decide) hb
      have hb4 := HBW.out.2.trans ((R4.store (cellsOf ab)).below.mono HBW.out.2.size)
      have HF : Hid ((W4.setCells W2.heap.size 0 (cellsOf ab)).rangeAt W2.heap.size 0 (cellsOf ab) ∧ (W4.setCells W2.heap.size 0 (cellsOf ab)).rangeAt L 0 (cellsAll [lit 1, lit 2, lit 3]) ∧ Below w.heap.size w (W4.setCells W2.heap.size 0 (cellsOf ab))) := Lib.hid ⟨range_stored _ _ _ _ (by rw [length_cellsOf]; exact (R4.store _).there), (R4.store _).range HBW.out.1, hb4⟩
      refine hK _ _ ⟨by exact R4.range HBW.out.1, ?_⟩; clear hK K hb hb4
      try simp only [Act.put, List.setIfInBounds_toArray, List.set_cons_zero, List.set_cons_succ]
      refine wpS_e rfl (by rfl) (fun K hK => ?_)
      refine wp_store_sum _ _ (by rfl) W2.heap.size 0 ab (by rfl) (by rfl) R4.there ?_
      refine hK _ _ ?_; clear hK K
      try simp only [Act.put, List.setIfInBounds_toArray, List.set_cons_zero, List.set_cons_succ]
      clear R3 R4
      generalize W4.setCells W2.heap.size 0 (cellsOf ab) = W5 at *
      generalize W2.heap.size = q at *
      exact key q W5 HF.out
  · intro q W hF
    have HF := Lib.hid hF; clear hF HBW
    clear W1 W2
    obtain ⟨ls, hls⟩ : ∃ ls, ls = [lit 1, lit 2, lit 3] := ⟨_, rfl⟩
    have hSW : SumsAt W (.slice (some ⟨L, 0, none⟩) 3 3) ls := by rw [hls]; exact ⟨_, 3, rfl, by simp, by decide, .inr ⟨_, _, rfl, HF.out.2.1⟩⟩
    have ho1 := linksOf_any ls 1 _ W hSW (by omega) (by rw [hls]; simp) (by rw [hls]; simp)
    have HO2 : Hid (∀ W', SumsAt W' (.slice (some ⟨L, 0, none⟩) 3 3) ls → Calls Try.prog 36 #[.slice (some ⟨L, 0, none⟩) 3 3, .int .i64 2] W' (LinkOf W' [lit 3])) := Lib.hid (fun W' h => by
      have := linksOf_any ls 2 _ W' h (by omega) (by rw [hls]; simp) (by rw [hls]; simp)
      rw [hls, link_32] at this
      exact this)
    have HO3 : Hid (∀ W', SumsAt W' (.slice (some ⟨L, 0, none⟩) 3 3) ls → Calls Try.prog 36 #[.slice (some ⟨L, 0, none⟩) 3 3, .int .i64 3] W' (LinkOf W' [])) := Lib.hid (fun W' h => by
      have := linksOf_any ls 3 _ W' h (by omega) (by rw [hls]; simp) (by rw [hls]; simp)
      rw [hls, link_33] at this
      exact this)
    have HLS := Lib.hid hls
    rw [hls, link_31] at ho1
    have HO1 := Lib.hid ho1
    have HSW := Lib.hid hSW
    clear ho1 hSW hls
    refine wpS_done ?_
    go_wp2_with fail
    refine HO1.out.mono ?_
    rintro e w1 ⟨va, rfl, hN, hb⟩
    have HA := Lib.hid hN.sums
    have HSW1 := Lib.hid (HSW.out.below hb (Nat.le_refl _))
    have HB1 := Lib.hid hb
    clear hN hb HO1
    go_wp2_with fail
    refine (HO2.out w1 HSW1.out).mono ?_
    rintro e w2 ⟨vb, rfl, hN, hb⟩
    have HBB := Lib.hid hN.sums
    have HSW2 := Lib.hid (HSW1.out.below hb (Nat.le_refl _))
    have HA2 := Lib.hid (HA.out.below hb (Nat.le_refl _))
    have HB2 := Lib.hid (HB1.out.trans (hb.mono HB1.out.size))
    clear hN hb HO2
    go_wp2_with fail
    refine (HO3.out w2 HSW2.out).mono ?_
    rintro e w3 ⟨vc, rfl, hN, hb⟩
    obtain ⟨ac, cc, rfl, _, _, _⟩ := hN.sums
    have HSW3 := Lib.hid (HSW2.out.below hb (Nat.le_refl _))
    have HA3 := Lib.hid (HA2.out.below hb (Nat.le_refl _))
    have HBB3 := Lib.hid (HBB.out.below hb (Nat.le_refl _))
    have hb3 := HB2.out.trans (hb.mono HB2.out.size)
    have HQ3 := Lib.hid ((Keeps.of_below (X := fun _ => False) hb3).range HF.out.1 (fun h => h))
    have HL3 := Lib.hid ((Keeps.of_below (X := fun _ => False) hb3).range HF.out.2.1 (fun h => h))
    have HW3 := Lib.hid (HF.out.2.2.trans (hb3.mono HF.out.2.2.size))
    clear hN hb hb3 HO3 HB1 HB2 HSW HSW1 HSW2 HA HA2 HBB HF
    go_wp2_with fail
    refine (linksOf_arg ls _ w3 HSW3.out).mono ?_
    rintro e w4 ⟨rfl, rfl⟩
    go_wp2_with fail
    have hes := eq_sums_same
    refine wp_region_sched (fun V => Below w3.heap.size w3 V) (Mv.t 0 :: Mv.t 1 :: Mv.t 2 :: Mv.t 3 :: Mv.t 4 :: Mv.t 5 :: Mv.e 6 true :: Mv.e 7 true :: Mv.t 8 :: Mv.t 9 :: Mv.t 10 :: Mv.t 11 :: Mv.t 12 :: Mv.t 13 :: Mv.t 14 :: Mv.t 15 :: Mv.e 16 true :: Mv.e 17 true :: Mv.t 18 :: Mv.t 19 :: Mv.t 20 :: Mv.t 21 :: Mv.t 22 :: Mv.t 23 :: Mv.t 24 :: Mv.t 25 :: Mv.t 26 :: Mv.t 27 :: Mv.t 28 :: Mv.t 29 :: Mv.t 30 :: Mv.t 31 :: Mv.t 32 :: Mv.t 35 :: Mv.t 36 :: Mv.t 39 :: Mv.s 33 :: Mv.s 34 :: Mv.s 37 :: Mv.f 38 40 true :: Mv.e 41 true :: Mv.t 42 :: Mv.t 43 :: Mv.t 44 :: Mv.t 45 :: Mv.t 47 :: Mv.t 48 :: Mv.s 46 :: Mv.e 49 true :: Mv.e 50 true :: Mv.t 51 :: Mv.t 52 :: Mv.t 53 :: Mv.t 54 :: Mv.t 56 :: Mv.t 57 :: Mv.s 55 :: Mv.e 58 true :: Mv.e 59 true :: Mv.t 60 :: Mv.t 61 :: Mv.t 62 :: []) (by kernel_rfl) (by kernel_rfl) (by intro c a d v w h; cases d <;> exact h) ?_
    have HS := Lib.hid (Below.refl w3.heap.size w3).drew
    generalize w3.drew = V at *
    iterate 6
      refine wpS_t rfl (v := ?_) (by rfl) (fun W => ?_) ?_
      rotate_left
      · go_simp
        try rfl
      try simp only [Act.put, List.setIfInBounds_toArray, List.set_cons_zero, List.set_cons_succ]
    rw [val_2, val_3]
    refine wpS_k rfl (by rfl) (fun K hK => ?_)
    refine wp_build_sums 2 _ (by rfl) [lit 2, lit 3] rfl (by omega) (by omega) (by rfl) ?_
    have HY := Lib.hid (sums_built V [lit 2, lit 3] 2 rfl (by omega))
    replace HS := Lib.hid (HS.out.trans ((al (Below.refl V.heap.size V) (.cells (cellsAll [lit 2, lit 3]).toArray 24)).mono HS.out.size))
    generalize V.heap.size = g at *
    generalize V.alloc (.cells (cellsAll [lit 2, lit 3]).toArray 24) = V at *
    refine hK _ _ ⟨by exact HS.out, ?_⟩; clear hK K
    try simp only [Act.put, List.setIfInBounds_toArray, List.set_cons_zero, List.set_cons_succ]
    refine wpS_k rfl (by rfl) (fun K hK => ?_)
    go_simp
    refine (same_sums [lit 2, lit 3] [lit 2, lit 3] va (.slice (some ⟨g, 0, none⟩) 2 2) V (HA3.out.below HS.out (Nat.le_refl _)) HY.out).mono ?_
    rw [decide_eq_true (rfl : [lit 2, lit 3] = [lit 2, lit 3])]
    rintro e V ⟨rfl, hb⟩
    replace HS := Lib.hid (HS.out.trans (hb.mono HS.out.size))
    clear HY hb
    refine hK _ _ ⟨by exact HS.out, ?_⟩; clear hK K
    try simp only [Act.put, List.setIfInBounds_toArray, List.set_cons_zero, List.set_cons_succ]
    iterate 8
      refine wpS_t rfl (v := ?_) (by rfl) (fun W => ?_) ?_
      rotate_left
      · go_simp
        try rfl
      try simp only [Act.put, List.setIfInBounds_toArray, List.set_cons_zero, List.set_cons_succ]
    rw [val_3]
    refine wpS_k rfl (by rfl) (fun K hK => ?_)
    refine wp_build_sums 1 _ (by rfl) [lit 3] rfl (by omega) (by omega) (by rfl) ?_
    have HY := Lib.hid (sums_built V [lit 3] 1 rfl (by omega))
    replace HS := Lib.hid (HS.out.trans ((al (Below.refl V.heap.size V) (.cells (cellsAll [lit 3]).toArray 24)).mono HS.out.size))
    generalize V.heap.size = g at *
    generalize V.alloc (.cells (cellsAll [lit 3]).toArray 24) = V at *
    refine hK _ _ ⟨by exact HS.out, ?_⟩; clear hK K
    try simp only [Act.put, List.setIfInBounds_toArray, List.set_cons_zero, List.set_cons_succ]
    refine wpS_k rfl (by rfl) (fun K hK => ?_)
    go_simp
    refine (same_sums [lit 3] [lit 3] vb (.slice (some ⟨g, 0, none⟩) 1 1) V (HBB3.out.below HS.out (Nat.le_refl _)) HY.out).mono ?_
    rw [decide_eq_true (rfl : [lit 3] = [lit 3])]
    rintro e V ⟨rfl, hb⟩
    replace HS := Lib.hid (HS.out.trans (hb.mono HS.out.size))
    clear HY hb
    refine hK _ _ ⟨by exact HS.out, ?_⟩; clear hK K
    try simp only [Act.put, List.setIfInBounds_toArray, List.set_cons_zero, List.set_cons_succ]
    iterate 18
      refine wpS_t rfl (v := ?_) (by rfl) (fun W => ?_) ?_
      rotate_left
      · go_simp
        try rfl
      try simp only [Act.put, List.setIfInBounds_toArray, List.set_cons_zero, List.set_cons_succ]
    rw [val_3]
    refine wpS_load_sum (by exact HS.out) rfl (by rfl) _ (by rfl) q 0 (by rfl) ab (fun V hV => br hV HQ3.out) ?_
    try simp only [Act.put, List.setIfInBounds_toArray, List.set_cons_zero, List.set_cons_succ]
    refine wpS_load_sum (by exact HS.out) rfl (by rfl) _ (by rfl) q 0 (by rfl) ab (fun V hV => br hV HQ3.out) ?_
    try simp only [Act.put, List.setIfInBounds_toArray, List.set_cons_zero, List.set_cons_succ]
    refine wpS_load_sum (by exact HS.out) rfl (by rfl) _ (by rfl) L 64 (by rfl) (lit 3) (fun V hV => br hV (range_at HL3.out (i := 2) (by simp))) ?_
    try simp only [Act.put, List.setIfInBounds_toArray, List.set_cons_zero, List.set_cons_succ]
    obtain ⟨abc, habc⟩ : ∃ x, x = nd ab (lit 3) := ⟨_, rfl⟩
    have ht : letBe 2 3 ab abc [lit 3] = true := by
      have := letBe_link [lit 1, lit 2, lit 3] 2 (by omega) (by simp)
      rw [link_32, rt_triple, ← HAB.out, ← habc, show [lit 1, lit 2, lit 3].take 2 = [lit 1, lit 2] from rfl, rt_pair, ← HAB.out] at this
      exact this
    have HT := Lib.hid ht; clear ht
    have HABC := Lib.hid habc; clear habc
    refine' join (fun (g : Nat) (V : World) => SumsAt V (.slice (some ⟨g, 0, none⟩) 1 1) [lit 3] ∧ Below w3.heap.size w3 V) (fun key => ?_) ?_
    rotate_left
    · refine wpS_fk ?_ ?_
      · refine wpOp_of rfl (by rfl) (fun K hK => ?_)
        go_simp
        refine (nd_any ab (lit 3) V).mono ?_
        rw [← HABC.out]
        rintro e V1 ⟨rfl, hb⟩
        have HS1 := Lib.hid (HS.out.trans (hb.mono HS.out.size))
        refine hK _ _ ⟨by exact HS1.out, ?_⟩; clear hK K hb
        try simp only [Act.put, List.setIfInBounds_toArray, List.set_cons_zero, List.set_cons_succ]
        refine wpOp_of rfl (by rfl) (fun K hK => ?_)
        refine wp_build_sums 1 _ (by rfl) [lit 3] rfl (by omega) (by omega) (by rfl) ?_
        have HY := Lib.hid (sums_built V1 [lit 3] 1 rfl (by omega))
        have HS2 := Lib.hid (HS1.out.trans ((al (Below.refl V1.heap.size V1) (.cells (cellsAll [lit 3]).toArray 24)).mono HS1.out.size))
        generalize V1.heap.size = g at *
        generalize V1.alloc (.cells (cellsAll [lit 3]).toArray 24) = V2 at *
        refine hK _ _ ⟨by exact HS2.out, ?_⟩; clear hK K
        try simp only [Act.put, List.setIfInBounds_toArray, List.set_cons_zero, List.set_cons_succ]
        exact key g V2 ⟨HY.out, HS2.out⟩
      · refine wpOp_of rfl (by rfl) (fun K hK => ?_)
        refine wp_build_sums 1 _ (by rfl) [lit 3] rfl (by omega) (by omega) (by rfl) ?_
        have HY := Lib.hid (sums_built V [lit 3] 1 rfl (by omega))
        have HS1 := Lib.hid (HS.out.trans ((al (Below.refl V.heap.size V) (.cells (cellsAll [lit 3]).toArray 24)).mono HS.out.size))
        generalize V.heap.size = g at *
        generalize V.alloc (.cells (cellsAll [lit 3]).toArray 24) = V1 at *
        refine hK _ _ ⟨by exact HS1.out, ?_⟩; clear hK K
        try simp only [Act.put, List.setIfInBounds_toArray, List.set_cons_zero, List.set_cons_succ]
        refine wpOp_of rfl (by rfl) (fun K hK => ?_)
        go_simp
        refine (nd_any ab (lit 3) V1).mono ?_
        rw [← HABC.out]
        rintro e V2 ⟨rfl, hb⟩
        have HS2 := Lib.hid (HS1.out.trans (hb.mono HS1.out.size))
        have HY2 := Lib.hid (HY.out.below hb (Nat.le_refl _))
        refine hK _ _ ⟨by exact HS2.out, ?_⟩; clear hK K hb
        try simp only [Act.put, List.setIfInBounds_toArray, List.set_cons_zero, List.set_cons_succ]
        exact key g V2 ⟨HY2.out, HS2.out⟩
    · intro g V hF
      have HY := Lib.hid hF.1
      have HS := Lib.hid hF.2
      clear hF
      refine wpS_k rfl (by rfl) (fun K hK => ?_)
      go_simp
      refine (check_in 2 3 ab abc (.slice (some ⟨g, 0, none⟩) 1 1) [lit 3] V HY.out (by omega) (by omega) (.inr (by omega))).mono ?_
      rw [HT.out]
      rintro e V ⟨rfl, hb⟩
      replace HS := Lib.hid (HS.out.trans (hb.mono HS.out.size))
      clear hb HY
      refine hK _ _ ⟨by exact HS.out, ?_⟩; clear hK K
      try simp only [Act.put, List.setIfInBounds_toArray, List.set_cons_zero, List.set_cons_succ]
      iterate 6
        refine wpS_t rfl (v := ?_) (by rfl) (fun W => ?_) ?_
        rotate_left
        · go_simp
          try rfl
        try simp only [Act.put, List.setIfInBounds_toArray, List.set_cons_zero, List.set_cons_succ]
      refine wpS_load_sum (by exact HS.out) rfl (by rfl) _ (by rfl) L 0 (by rfl) (lit 1) (fun V hV => br hV (range_at HL3.out (i := 0) (by simp))) ?_
      try simp only [Act.put, List.setIfInBounds_toArray, List.set_cons_zero, List.set_cons_succ]
      refine wpS_k rfl (by rfl) (fun K hK => ?_)
      refine wp_load_sum _ (by rfl) L 0 (by rfl) (lit 1) (br HS.out (range_at HL3.out (i := 0) (by simp))) ?_
      refine hK _ _ ⟨by exact HS.out, ?_⟩; clear hK K
      try simp only [Act.put, List.setIfInBounds_toArray, List.set_cons_zero, List.set_cons_succ]
      refine wpS_k rfl (by rfl) (fun K hK => ?_)
      go_simp
      refine (check_in 1 1 (lit 1) (lit 1) (.slice none 0 0) [] V ⟨none, 0, rfl, Nat.le_refl _, by decide, .inl rfl⟩ (by omega) (by omega) (.inl rfl)).mono ?_
      rw [letBe_same]
      rintro e V ⟨rfl, hb⟩
      replace HS := Lib.hid (HS.out.trans (hb.mono HS.out.size))
      clear hb
      refine hK _ _ ⟨by exact HS.out, ?_⟩; clear hK K
      try simp only [Act.put, List.setIfInBounds_toArray, List.set_cons_zero, List.set_cons_succ]
      iterate 6
        refine wpS_t rfl (v := ?_) (by rfl) (fun W => ?_) ?_
        rotate_left
        · go_simp
          try rfl
        try simp only [Act.put, List.setIfInBounds_toArray, List.set_cons_zero, List.set_cons_succ]
      refine wpS_load_sum (by exact HS.out) rfl (by rfl) _ (by rfl) L 0 (by rfl) (lit 1) (fun V hV => br hV (range_at HL3.out (i := 0) (by simp))) ?_
      try simp only [Act.put, List.setIfInBounds_toArray, List.set_cons_zero, List.set_cons_succ]
      refine wpS_k rfl (by rfl) (fun K hK => ?_)
      refine wp_load_sum _ (by rfl) L 0 (by rfl) (lit 1) (br HS.out (range_at HL3.out (i := 0) (by simp))) ?_
      refine hK _ _ ⟨by exact HS.out, ?_⟩; clear hK K
      try simp only [Act.put, List.setIfInBounds_toArray, List.set_cons_zero, List.set_cons_succ]
      refine wpS_k rfl (by rfl) (fun K hK => ?_)
      go_simp
      refine (check_out 0 1 (lit 1) (lit 1) (.slice none 0 0) [] V ⟨none, 0, rfl, Nat.le_refl _, by decide, .inl rfl⟩ (.inl (by omega))).mono ?_
      rintro e V ⟨rfl, hb⟩
      replace HS := Lib.hid (HS.out.trans (hb.mono HS.out.size))
      clear hb
      refine hK _ _ ⟨by exact HS.out, ?_⟩; clear hK K
      try simp only [Act.put, List.setIfInBounds_toArray, List.set_cons_zero, List.set_cons_succ]
      iterate 3
        refine wpS_t rfl (v := ?_) (by rfl) (fun W => ?_) ?_
        rotate_left
        · go_simp
          try rfl
        try simp only [Act.put, List.setIfInBounds_toArray, List.set_cons_zero, List.set_cons_succ]
      refine wpS_done ?_
      go_wp2_with fail
      exact bodyPost_ret (results_tmp rfl _ _ _) rfl ⟨rfl, HW3.out.trans (HS.out.mono HW3.out.size)⟩
end Go.Proofs.Ytdkcndgehgmadaa
