/-
  Merged: S8, S9, S10, S11, S12.
-/
import Derived.Test.YtfmgoehnbaiamaaZS1
import Derived.Laws.CopyOwn
-- Walk: shows.Check's last: the last side that is left.
open Go Go.RowKit Alm
namespace Go.Proofs.Ytfmgoehnbaiamaa
/-- A variable of one cell. -/
def VarAt (W : World) (f : Nat) (x : Value) : Prop := W.rangeAt f 0 [x] ∧ W.there f 0 1
theorem VarAt.cell {W : World} {f : Nat} {x : Value} (h : VarAt W f x) : W.cell? ⟨f, 0, none⟩ = some x := h.1 0 x rfl
theorem VarAt.free {W : World} {f : Nat} {x : Value} (h : VarAt W f x) : W.frozen? ⟨f, 0, none⟩ = false := (h.2 0 (by decide)).2
theorem VarAt.keep {X : Nat → Prop} {W W' : World} {f : Nat} {x : Value} (h : VarAt W f x) (hk : Keeps X W W') (hx : ¬ X f) : VarAt W' f x := ⟨hk.range h.1 hx, hk.there h.2 (by decide) hx⟩
theorem VarAt.below {W W' : World} {f : Nat} {x : Value} (h : VarAt W f x) (hb : Below W.heap.size W W') : VarAt W' f x := h.keep (Keeps.of_below (X := fun _ => False) hb) (fun h => h)
theorem VarAt.set {W : World} {f : Nat} {x : Value} (h : VarAt W f x) (y : Value) : VarAt (W.setCell ⟨f, 0, none⟩ y) f y := by
  refine ⟨fun j u hj => ?_, there_setCell h.2 _ _ _⟩
  have hj0 : j = 0 := by have := (List.getElem?_eq_some_iff.1 hj).1; simpa using this
  subst hj0
  simp only [List.getElem?_cons_zero, Option.some.injEq] at hj
  rw [← hj]
  exact World.cell?_setCell_same _ _ _ h.cell
theorem VarAt.lt {W : World} {f : Nat} {x : Value} (h : VarAt W f x) : f < W.heap.size := there_lt h.2 (by decide)
theorem keeps_setCell (f : Nat) (W : World) (y : Value) : Keeps (· = f) W (W.setCell ⟨f, 0, none⟩ y) := (Keeps.refl (· = f) W).setCell (p := ⟨f, 0, none⟩) (.inl rfl) _
theorem var_new (W : World) (x : Value) (t : TypeId) : VarAt (W.alloc (.cells #[x] t)) W.heap.size x := ⟨range_new W #[x] t _ rfl, there_new W #[x] t⟩
/-- What last makes of what is left. -/
noncomputable def lastOf' (fb : Bool) (L : List Sum) : Sum × List Sum × Bool := if fb = true ∨ L = [] then (zeroSum, L, true) else (L.getLast?.getD zeroSum, L.dropLast, false)
/-- What last leaves behind. -/
def LastP (f c : Nat) (w : World) (fb : Bool) (v : Value) (L : List Sum) (e : Ending) (w' : World) : Prop :=
  ∃ x L' fb' v', lastOf' fb L = (x, L', fb') ∧ e = .returned (sv x) ∧ VarAt w' f (.bool fb') ∧ VarAt w' c v' ∧ SumsAt w v' L' ∧ (∀ g, v'.ownBlock = some g → v.ownBlock = some g) ∧ Keeps (fun i => i = f ∨ i = c) w w'
theorem k0' {w W : World} (h : Below w.heap.size w W) : Keeps (fun _ => False) w W := Keeps.of_below h
noncomputable def lastCode : Code := (Try.f66.body).getD .skip
set_option maxRecDepth 100000 in
set_option maxHeartbeats 2000000 in
theorem last_tail {u3 u4 u5 u6 u7 u8 u9 u10 u11 u12 u13 u14 u15 u16 u17 u18 u19 u20 u21 u22 : Value} (w W : World) (f c q : Nat) (fb : Bool) (v : Value) (L : List Sum) (hf : VarAt W f (.bool fb)) (hc : VarAt W c v) (hs : SumsAt w v L) (hb : Below w.heap.size w W) (hr : W.rangeAt q 0 (cellsOf zeroSum)) (ht : W.there q 0 32)
    (hqf : q ≠ f) (hqc : q ≠ c) (hne : f ≠ c) (hvb : ∀ g, v.ownBlock = some g → g ≠ f ∧ g ≠ c) (hqw : w.heap.size ≤ q) (hL : L.length < 1000000) : Code.wp Try.prog (dropN 1 lastCode) (bodyPost Try.prog Try.f66 fun e w' => LastP f c w fb v L e w') ⟨#[.pointer (some ⟨f, 0, none⟩), .pointer (some ⟨c, 0, none⟩), .pointer (some ⟨q, 0, none⟩), u3, u4, u5, u6, u7, u8, u9, u10, u11, u12, u13, u14, u15, u16, u17, u18, u19, u20, u21, u22], []⟩ W := by
  have g1 := hf.cell
  have g2 := hc.cell
  have e1 := hf.free
  obtain ⟨a, cap, rfl, h1, h2, h3⟩ := id hs
  obtain ⟨M, hM⟩ : ∃ M, M = L.length := ⟨_, rfl⟩
  rw [← hM] at h1 hs hc g2 hvb
  have HF := Lib.hid (And.intro hf (And.intro hc (And.intro hs (And.intro hb (And.intro hr ht)))))
  have HQ := Lib.hid (And.intro hqf (And.intro hqc (And.intro hne hqw)))
  have HM := Lib.hid (And.intro hM hL)
  have HH2 := Lib.hid h2
  clear hf hc hs hb hr ht hqf hqc hne hqw hM hL h2
  conv => arg 2; whnf
  cases fb with
  | true =>
    have k1 := keeps_setCell f W (.bool true)
    have g3 : (W.setCell ⟨f, 0, none⟩ (.bool true)).cell? ⟨f, 0, none⟩ = some (.bool true) := (HF.out.1.set (.bool true)).cell
    have HT := Lib.hid (And.intro (k1.range HF.out.2.2.2.2.1 HQ.out.1) (there_setCell HF.out.2.2.2.2.2 f 0 (.bool true)))
    have HK := Lib.hid k1
    clear k1
    go_wp2_with (first
      | (refine wpList_load_sum rfl _ rfl q 0 rfl zeroSum HT.out.1 ?_)
      | (refine wpList_store_sum rfl _ _ rfl q 0 zeroSum rfl rfl HT.out.2 ?_))
    have k2 := keeps_setCells_ q (cellsOf zeroSum) 0 (W.setCell ⟨f, 0, none⟩ (.bool true))
    have k0 : Keeps (fun i => i = f ∨ i = c) w W := Keeps.of_below HF.out.2.2.2.1
    have hfin : LastP f c w true (.slice a L.length cap) L (.returned (sv zeroSum)) ((W.setCell ⟨f, 0, none⟩ (.bool true)).setCells q 0 (cellsOf zeroSum)) :=
      ⟨zeroSum, L, true, .slice a M cap, by unfold lastOf'; rw [if_pos (.inl rfl)], rfl, (HF.out.1.set (.bool true)).keep k2 (fun e => HQ.out.1 e.symm), (HF.out.2.1.keep HK.out (fun e => HQ.out.2.2.1 e.symm)).keep k2 (fun e => HQ.out.2.1 e.symm), HF.out.2.2.1, (fun g hg => by rw [HM.out.1] at hg; exact hg),
        (k0.trans (HK.out.mono fun i hi => .inl hi)).trans' k2 (fun i hi => .inr (by rw [hi]; exact HQ.out.2.2.2))⟩
    exact bodyPost_ret (results_sum Try.results66 _ _ _ _ rfl (World.there_setCells HT.out.2 _ _ _)) rfl hfin
  | false =>
    by_cases hM0 : M = 0
    · have hL0 : L = [] := List.length_eq_zero_iff.1 (by rw [← HM.out.1, hM0])
      have f1 : decide (M = 0) = true := by simpa using hM0
      have f2 : decide ((M : Int) = 0) = true := by simp; omega
      have f3 : ((M : Int) == 0) = true := by rw [beq_iff_eq]; omega
      have HL0 := Lib.hid (And.intro hL0 hM0)
      clear hL0 hM0
      have k1 := keeps_setCell f W (.bool true)
      have g3 : (W.setCell ⟨f, 0, none⟩ (.bool true)).cell? ⟨f, 0, none⟩ = some (.bool true) := (HF.out.1.set (.bool true)).cell
      have HT := Lib.hid (And.intro (k1.range HF.out.2.2.2.2.1 HQ.out.1) (there_setCell HF.out.2.2.2.2.2 f 0 (.bool true)))
      have HK := Lib.hid k1
      clear k1
      go_wp2_with (first
        | (refine wpList_load_sum rfl _ rfl q 0 rfl zeroSum HT.out.1 ?_)
        | (refine wpList_store_sum rfl _ _ rfl q 0 zeroSum rfl rfl HT.out.2 ?_))
      have k2 := keeps_setCells_ q (cellsOf zeroSum) 0 (W.setCell ⟨f, 0, none⟩ (.bool true))
      have k0 : Keeps (fun i => i = f ∨ i = c) w W := Keeps.of_below HF.out.2.2.2.1
      have hfin : LastP f c w false (.slice a L.length cap) L (.returned (sv zeroSum)) ((W.setCell ⟨f, 0, none⟩ (.bool true)).setCells q 0 (cellsOf zeroSum)) :=
        ⟨zeroSum, L, true, .slice a M cap, by unfold lastOf'; rw [if_pos (.inr HL0.out.1)], rfl, (HF.out.1.set (.bool true)).keep k2 (fun e => HQ.out.1 e.symm), (HF.out.2.1.keep HK.out (fun e => HQ.out.2.2.1 e.symm)).keep k2 (fun e => HQ.out.2.1 e.symm), HF.out.2.2.1, (fun g hg => by rw [HM.out.1] at hg; exact hg),
          (k0.trans (HK.out.mono fun i hi => .inl hi)).trans' k2 (fun i hi => .inr (by rw [hi]; exact HQ.out.2.2.2))⟩
      exact bodyPost_ret (results_sum Try.results66 _ _ _ _ rfl (World.there_setCells HT.out.2 _ _ _)) rfl hfin
    · have f1 : decide (M = 0) = false := by simpa using hM0
      have f2 : decide ((M : Int) = 0) = false := by simp; omega
      have f3 : ((M : Int) == 0) = false := by rw [beq_eq_false_iff_ne]; omega
      have hLne : L ≠ [] := fun e => hM0 (by rw [HM.out.1, e]; rfl)
      obtain ⟨b, o, rfl, hrl⟩ := h3.resolve_left hLne
      obtain ⟨m, hm⟩ : ∃ m, m = M - 1 := ⟨_, rfl⟩
      have hml : m < L.length := by rw [← HM.out.1]; omega
      have hrm := range_at hrl hml
      have hlast : L.getLast?.getD zeroSum = L[m] := by
        rw [List.getLast?_eq_getElem?, ← HM.out.1, ← hm, List.getElem?_eq_getElem hml]; rfl
      have hdl : L.dropLast = L.take m := by rw [List.dropLast_eq_take, ← HM.out.1, ← hm]
      have hdrop : SumsAt w (.slice (some ⟨b, o, none⟩) m cap) (L.take m) := sums_take hrl (Nat.le_of_lt hml) (by omega) HH2.out
      obtain ⟨s, hs⟩ : ∃ s, s = L[m] := ⟨_, rfl⟩
      rw [← hs] at hrm hlast
      have k1 := keeps_setCell f W (.bool false)
      have g3 : (W.setCell ⟨f, 0, none⟩ (.bool false)).cell? ⟨f, 0, none⟩ = some (.bool false) := (HF.out.1.set (.bool false)).cell
      have v1 := HF.out.1.set (.bool false)
      have v2 := HF.out.2.1.keep k1 (fun e => HQ.out.2.2.1 e.symm)
      have hrw := k1.range ((k0' HF.out.2.2.2.1).range hrm (fun h => h)) (hvb b rfl).1
      have HV := Lib.hid (And.intro v1 (And.intro v2 (And.intro (k1.range HF.out.2.2.2.2.1 HQ.out.1) (And.intro (there_setCell HF.out.2.2.2.2.2 f 0 (.bool false)) (And.intro hrw (And.intro hlast (And.intro hdl (And.intro hdrop k1))))))))
      have hw : IntKind.i64.wrap ((M : Int) - 1) = (m : Int) := by have := HM.out.2; rw [← HM.out.1] at this; rw [IntKind.wrap_i64]; omega
      have q1 : (0 : Int) ≤ (m : Int) := by omega
      have q2 : (m : Int) < (M : Int) := by omega
      have q3 : m < M := by omega
      have q4 : (m : Int) ≤ (cap : Int) := by omega
      have hrng := Lib.hid hrm
      have HLN := Lib.hid hLne
      clear hLne hrl hm hml hrm hlast hdl hdrop hs k1 v1 v2 hrw h3
      go_wp2_with fail
      refine wp_region_sched (fun V => V.cell? ⟨c, 0, none⟩ = some (.slice (some ⟨b, o, none⟩) M cap) ∧ V.rangeAt b (o + m * 32) (cellsOf s)) [.s 0, .s 1, .t 2, .t 3, .t 4, .s 5, .s 6, .s 7, .t 8, .t 9, .t 10, .e 11 true, .e 12 false] (by kernel_rfl) (by kernel_rfl) (by intro c a d v w h; cases d <;> exact h) ?_
      have hkd : Keeps (fun _ => False) (W.setCell ⟨f, 0, none⟩ (.bool false)) (W.setCell ⟨f, 0, none⟩ (.bool false)).drew := Keeps.of_below (Below.refl _ _).drew
      have kall : Keeps (fun i => i = f ∨ i = c) w (W.setCell ⟨f, 0, none⟩ (.bool false)).drew := (((k0' HF.out.2.2.2.1).mono (fun _ h => h.elim)).trans (HV.out.2.2.2.2.2.2.2.2.mono (fun i hi => .inl hi))).trans (hkd.mono (fun _ h => h.elim))
      have HD := Lib.hid (And.intro (HV.out.1.keep hkd (fun h => h)) (And.intro (HV.out.2.1.keep hkd (fun h => h)) (And.intro (hkd.range HV.out.2.2.1 (fun h => h)) (And.intro (hkd.there HV.out.2.2.2.1 (by decide) (fun h => h)) (And.intro (hkd.range HV.out.2.2.2.2.1 (fun h => h)) kall)))))
      clear kall
      have HL := Lib.hid (And.intro HV.out.2.2.2.2.2.1 (And.intro HV.out.2.2.2.2.2.2.1 HV.out.2.2.2.2.2.2.2.1))
      clear HV hkd g3 g1 g2 e1
      generalize (W.setCell ⟨f, 0, none⟩ (.bool false)).drew = V at *
      have hbq : b ≠ q := by
        have := range_lt hrng.out (cellsOf_ne s)
        have := HQ.out.2.2.2
        omega
      have HBQ := Lib.hid hbq
      clear hbq
      refine wpS_s (by exact ⟨HD.out.2.1.cell, HD.out.2.2.2.2.1⟩) rfl (v := ?_) (by rfl) (fun W hSW => ?_) ?_
      rotate_left
      · go_simp
        try rfl
      try simp only [Act.put, List.setIfInBounds_toArray, List.set_cons_zero, List.set_cons_succ]
      refine wpS_s (by exact ⟨HD.out.2.1.cell, HD.out.2.2.2.2.1⟩) rfl (v := ?_) (by rfl) (fun W hSW => ?_) ?_
      rotate_left
      · go_simp
        try rfl
      try simp only [Act.put, List.setIfInBounds_toArray, List.set_cons_zero, List.set_cons_succ]
      iterate 3
        refine wpS_t rfl (v := ?_) (by rfl) (fun W => ?_) ?_
        rotate_left
        · go_simp
          try rfl
        try simp only [Act.put, List.setIfInBounds_toArray, List.set_cons_zero, List.set_cons_succ]
      refine wpS_load_sum (by exact ⟨HD.out.2.1.cell, HD.out.2.2.2.2.1⟩) rfl (by rfl) _ (by rfl) b (o + m * 32) (by rfl) s (fun V hV => hV.2) ?_
      try simp only [Act.put, List.setIfInBounds_toArray, List.set_cons_zero, List.set_cons_succ]
      refine wpS_s (by exact ⟨HD.out.2.1.cell, HD.out.2.2.2.2.1⟩) rfl (v := ?_) (by rfl) (fun W hSW => ?_) ?_
      rotate_left
      · go_simp
        try rfl
      try simp only [Act.put, List.setIfInBounds_toArray, List.set_cons_zero, List.set_cons_succ]
      refine wpS_s (by exact ⟨HD.out.2.1.cell, HD.out.2.2.2.2.1⟩) rfl (v := ?_) (by rfl) (fun W hSW => ?_) ?_
      rotate_left
      · go_simp
        try rfl
      try simp only [Act.put, List.setIfInBounds_toArray, List.set_cons_zero, List.set_cons_succ]
      iterate 3
        refine wpS_t rfl (v := ?_) (by rfl) (fun W => ?_) ?_
        rotate_left
        · go_simp
          try rfl
        try simp only [Act.put, List.setIfInBounds_toArray, List.set_cons_zero, List.set_cons_succ]
      refine wpS_k rfl (by rfl) (fun K hK => ?_)
      refine wp_store_sum _ _ (by rfl) q 0 s (by rfl) (by rfl) HD.out.2.2.2.1 ?_
      have k2 := keeps_setCells_ q (cellsOf s) 0 V
      have ht2 := World.there_setCells HD.out.2.2.2.1 q 0 (cellsOf s)
      have HE := Lib.hid (And.intro (HD.out.1.keep k2 (fun e => HQ.out.1 e.symm)) (And.intro (HD.out.2.1.keep k2 (fun e => HQ.out.2.1 e.symm)) (And.intro (range_stored q (cellsOf s) 0 V (by rw [length_cellsOf]; exact ht2)) (And.intro ht2 (And.intro (k2.range HD.out.2.2.2.2.1 HBQ.out) (HD.out.2.2.2.2.2.trans' k2 (fun i hi => .inr (by rw [hi]; exact HQ.out.2.2.2))))))))
      clear k2 ht2 HD
      generalize V.setCells q 0 (cellsOf s) = V2 at *
      refine hK _ _ ⟨by exact ⟨HE.out.2.1.cell, HE.out.2.2.2.2.1⟩, ?_⟩; clear hK K
      try simp only [Act.put]
      have e2 := HE.out.2.1.free
      have g2 := HE.out.2.1.cell
      refine wpS_e rfl (by rfl) (fun K hK => ?_)
      go_simp
      refine hK _ _ ?_; clear hK K
      try simp only [Act.put, List.setIfInBounds_toArray, List.set_cons_zero, List.set_cons_succ]
      have k3 := keeps_setCell c V2 (.slice (some ⟨b, o, none⟩) m cap)
      have HG2 := Lib.hid (And.intro (HE.out.1.keep k3 HQ.out.2.2.1) (And.intro (HE.out.2.1.set (.slice (some ⟨b, o, none⟩) m cap)) (And.intro (k3.range HE.out.2.2.1 HQ.out.2.1) (And.intro (there_setCell HE.out.2.2.2.1 c 0 (.slice (some ⟨b, o, none⟩) m cap)) (HE.out.2.2.2.2.2.trans (k3.mono (Y := fun i => i = f ∨ i = c) (fun i hi => .inr hi)))))))
      clear k3 HE e2 g2
      generalize V2.setCell ⟨c, 0, none⟩ (.slice (some ⟨b, o, none⟩) m cap) = V3 at *
      refine wpS_done ?_
      go_wp2_with (first
        | (refine wpList_load_sum rfl _ rfl q 0 rfl s HG2.out.2.2.1 ?_)
        | (refine wpList_store_sum rfl _ _ rfl q 0 s rfl rfl HG2.out.2.2.2.1 ?_))
      have k4 := keeps_setCells_ q (cellsOf s) 0 V3
      have hfin : LastP f c w false (.slice (some ⟨b, o, none⟩) L.length cap) L (.returned (sv s)) (V3.setCells q 0 (cellsOf s)) :=
        ⟨s, L.take m, false, .slice (some ⟨b, o, none⟩) m cap, by
          unfold lastOf'
          rw [if_neg (by rintro (h | h); cases h; exact HLN.out h), HL.out.1, HL.out.2.1], rfl, HG2.out.1.keep k4 (fun e => HQ.out.1 e.symm), HG2.out.2.1.keep k4 (fun e => HQ.out.2.1 e.symm), HL.out.2.2, (fun g hg => hg),
          HG2.out.2.2.2.2.trans' k4 (fun i hi => .inr (by rw [hi]; exact HQ.out.2.2.2))⟩
      exact bodyPost_ret (results_sum Try.results66 _ _ _ _ rfl (World.there_setCells HG2.out.2.2.2.1 _ _ _)) rfl hfin
set_option maxRecDepth 100000 in
theorem last_any (f c : Nat) (w : World) (fb : Bool) (v : Value) (L : List Sum) (hf : VarAt w f (.bool fb)) (hc : VarAt w c v) (hs : SumsAt w v L) (hne : f ≠ c) (hvb : ∀ g, v.ownBlock = some g → g ≠ f ∧ g ≠ c) (hL : L.length < 1000000) :
    Calls Try.prog 66 #[.pointer (some ⟨f, 0, none⟩), .pointer (some ⟨c, 0, none⟩)] w fun e w' => LastP f c w fb v L e w' := by
  have hb0 := al (Below.refl _ w) (.cells (cells8 (List.replicate 32 0)).toArray 29)
  have ht0 := there_new w (cells8 (List.replicate 32 0)).toArray 29
  have hr0 : (w.alloc (.cells (cells8 (List.replicate 32 0)).toArray 29)).rangeAt w.heap.size 0 (cellsOf zeroSum) := range_new w (cells8 (List.replicate 32 0)).toArray 29 _ rfl
  have hlf := hf.lt
  have hlc := hc.lt
  have HX := Lib.hid (And.intro (hf.below hb0) (And.intro (hc.below hb0) (And.intro hs (And.intro hb0 (And.intro hr0 (And.intro ht0 (And.intro (show w.heap.size ≠ f by omega) (And.intro (show w.heap.size ≠ c by omega) (And.intro hne (And.intro hvb hL))))))))))
  clear hf hc hs hne hvb hL hb0 ht0 hr0 hlf hlc
  go_enter Try.func66, Try.ntmps66
  refine Alm.wp_cut 1 ?_
  intro T hT
  dsimp only [cutN]
  replace hT := Lib.hid hT
  go_wp2_with fail
  refine hT.out _ _ ?_
  exact last_tail w _ f c w.heap.size fb v L HX.out.1 HX.out.2.1 HX.out.2.2.1 HX.out.2.2.2.1 HX.out.2.2.2.2.1 HX.out.2.2.2.2.2.1 HX.out.2.2.2.2.2.2.1 HX.out.2.2.2.2.2.2.2.1 HX.out.2.2.2.2.2.2.2.2.1 HX.out.2.2.2.2.2.2.2.2.2.1 (Nat.le_refl _) HX.out.2.2.2.2.2.2.2.2.2.2
end Go.Proofs.Ytfmgoehnbaiamaa
-- Walk: shows.Check.
namespace Go.Proofs.Ytfmgoehnbaiamaa
theorem enters_last : ∀ args w, (callFunc 66 args).run Try.prog w = .ok (.enter 66 args) w := enters_of Try.func66 (by kernel_rfl) rfl
/-- What Check has in hand. -/
structure CW (w W : World) (z4 z5 z7 z9 z10 z12 z13 : Nat) (root k which : Sum) (fb : Bool) (vL : Value) (L : List Sum) (x e : Sum) : Prop where
  bw : Below w.heap.size w W
  r4 : W.rangeAt z4 0 (cellsOf root)
  r5 : W.rangeAt z5 0 (cellsOf k)
  r7 : W.rangeAt z7 0 (cellsOf which)
  f10 : VarAt W z10 (.bool fb)
  c9 : VarAt W z9 vL
  sL : SumsAt W vL L
  own : ∀ g, vL.ownBlock = some g → z7 < g ∧ g < z9
  r12 : W.rangeAt z12 0 (cellsOf x)
  t12 : W.there z12 0 32
  r13 : W.rangeAt z13 0 (cellsOf e)
  t13 : W.there z13 0 32
  ord : w.heap.size ≤ z4 ∧ z4 < z5 ∧ z5 < z7 ∧ z7 < z9 ∧ z9 < z10 ∧ z10 < z12 ∧ z12 < z13
theorem CW.below {w W W' : World} {z4 z5 z7 z9 z10 z12 z13 : Nat} {root k which : Sum} {fb : Bool} {vL : Value} {L : List Sum} {x e : Sum} (h : CW w W z4 z5 z7 z9 z10 z12 z13 root k which fb vL L x e) (hb : Below W.heap.size W W') : CW w W' z4 z5 z7 z9 z10 z12 z13 root k which fb vL L x e :=
  have kk := Keeps.of_below (X := fun _ => False) hb
  ⟨h.bw.trans (hb.mono h.bw.size), kk.range h.r4 (fun h => h), kk.range h.r5 (fun h => h), kk.range h.r7 (fun h => h), h.f10.below hb, h.c9.below hb, h.sL.below hb (Nat.le_refl _), h.own, kk.range h.r12 (fun h => h), kk.there h.t12 (by decide) (fun h => h), kk.range h.r13 (fun h => h), kk.there h.t13 (by decide) (fun h => h), h.ord⟩
theorem CW.last {w W W' : World} {z4 z5 z7 z9 z10 z12 z13 : Nat} {root k which : Sum} {fb fb' : Bool} {vL vL' : Value} {L L' : List Sum} {x e : Sum} (h : CW w W z4 z5 z7 z9 z10 z12 z13 root k which fb vL L x e)
    (h1 : VarAt W' z10 (.bool fb')) (h2 : VarAt W' z9 vL') (h3 : SumsAt W vL' L') (ho : ∀ g, vL'.ownBlock = some g → z7 < g ∧ g < z9) (hk : Keeps (fun i => i = z10 ∨ i = z9) W W') : CW w W' z4 z5 z7 z9 z10 z12 z13 root k which fb' vL' L' x e := by
  have o := h.ord
  exact ⟨h.bw.trans (hk.below h.bw.size (fun i hi => by omega)), hk.range h.r4 (by omega), hk.range h.r5 (by omega), hk.range h.r7 (by omega), h1, h2, hk.sums h3 (fun g hg hx => by have := ho g hg; omega), ho, hk.range h.r12 (by omega), hk.there h.t12 (by decide) (by omega), hk.range h.r13 (by omega), hk.there h.t13 (by decide) (by omega), o⟩
theorem CW.sides {w W : World} {z4 z5 z7 z9 z10 z12 z13 : Nat} {root k which : Sum} {fb : Bool} {vL : Value} {L : List Sum} {x e : Sum} (h : CW w W z4 z5 z7 z9 z10 z12 z13 root k which fb vL L x e) (x' e' : Sum) :
    CW w ((W.setCells z12 0 (cellsOf x')).setCells z13 0 (cellsOf e')) z4 z5 z7 z9 z10 z12 z13 root k which fb vL L x' e' := by
  have o := h.ord
  have k1 := keeps_setCells_ z12 (cellsOf x') 0 W
  have k2 := keeps_setCells_ z13 (cellsOf e') 0 (W.setCells z12 0 (cellsOf x'))
  have kk : Keeps (fun i => i = z12 ∨ i = z13) W ((W.setCells z12 0 (cellsOf x')).setCells z13 0 (cellsOf e')) := (k1.mono fun i hi => .inl hi).trans (k2.mono fun i hi => .inr hi)
  have t12 := World.there_setCells h.t12 z12 0 (cellsOf x')
  have t13 := World.there_setCells (k1.there h.t13 (by decide) (by omega)) z13 0 (cellsOf e')
  exact ⟨h.bw.trans (kk.below h.bw.size (fun i hi => by omega)), kk.range h.r4 (by omega), kk.range h.r5 (by omega), kk.range h.r7 (by omega), h.f10.keep kk (by omega), h.c9.keep kk (by omega), kk.sums h.sL (fun g hg hx => by have := h.own g hg; omega), h.own,
    k2.range (range_stored _ _ _ _ (by rw [length_cellsOf]; exact t12)) (by omega), k2.there t12 (by decide) (by omega), range_stored _ _ _ _ (by rw [length_cellsOf]; exact t13), t13, o⟩
theorem step_bit {k which : Sum} {n : Nat} {s : Sum × List Sum × Bool} (h : (Keys.kn which).testBit n = true) {t : Sum} {L' : List Sum} {fb' : Bool} (hl : lastOf' s.2.2 s.2.1 = (t, L', fb')) : stepC k which n s = (join k n t s.1, L', fb') := by
  unfold stepC
  unfold lastOf' at hl
  rw [if_pos h]
  by_cases hc : s.2.2 = true ∨ s.2.1 = []
  · rw [if_pos hc] at hl ⊢
    simp only [Prod.mk.injEq] at hl
    obtain ⟨rfl, rfl, rfl⟩ := hl
    rfl
  · rw [if_neg hc] at hl ⊢
    simp only [Prod.mk.injEq] at hl
    obtain ⟨rfl, rfl, rfl⟩ := hl
    rfl
theorem step_none {k which : Sum} {n : Nat} {s : Sum × List Sum × Bool} (h : (Keys.kn which).testBit n = false) : stepC k which n s = (join k n (em n) s.1, s.2.1, s.2.2) := by
  unfold stepC
  rw [if_neg (by rw [h]; simp)]
theorem last_less {fb fb' : Bool} {L L' : List Sum} {t : Sum} (h : lastOf' fb L = (t, L', fb')) : L'.length ≤ L.length := by
  unfold lastOf' at h
  split at h
  · simp only [Prod.mk.injEq] at h
    rw [← h.2.1]; exact Nat.le_refl _
  · simp only [Prod.mk.injEq] at h
    rw [← h.2.1, List.length_dropLast]; omega
theorem wpList_want {P : Program} {ops : Array Oper} {rest : List Oper} {o : Oper} {a : Act} {w : World} {Q : Exit → Act → World → Prop} (hw : Region.wanted o (yielded ops a.tmps) = true) (h : ∀ K : Act → World → Prop, (∀ a' w', wpList P ops Q rest a' w' → K a' w') → o.wp P a w K Q) : wpList P ops Q (o :: rest) a w := by
  unfold wpList
  rw [if_pos hw]
  exact .inl (h _ fun _ _ h => h)
theorem wpList_load_sum_g {ops : Array Oper} {rest : List Oper} {op : Oper} {a : Act} {w : World} {Q : Exit → Act → World → Prop} (hw : Region.wanted op (yielded ops a.tmps) = true) (x : Operand) (ho : op.op = .load 29 x)
    (b o : Nat) (hx : a.eval x = .pointer (some ⟨b, o, none⟩)) (s : Sum) (hc : w.rangeAt b o (cellsOf s)) (h : wpList Try.prog ops Q rest (a.put op.dst (sv s)) w) : wpList Try.prog ops Q (op :: rest) a w :=
  wpList_want hw fun K hK => wp_load_mid _ x ho b o hx (cellsOf s) _ hc Try.underlying29 rfl (by rw [length_cellsOf]; exact infoSum) (hK _ _ h)
theorem CW.apart {w W W' : World} {z4 z5 z7 z9 z10 z12 z13 z : Nat} {root k which : Sum} {fb : Bool} {vL : Value} {L : List Sum} {x e : Sum} (h : CW w W z4 z5 z7 z9 z10 z12 z13 root k which fb vL L x e) (hk : Keeps (· = z) W W') (hz : z13 < z) : CW w W' z4 z5 z7 z9 z10 z12 z13 root k which fb vL L x e := by
  have o := h.ord
  exact ⟨h.bw.trans (hk.below h.bw.size (fun i hi => by omega)), hk.range h.r4 (by omega), hk.range h.r5 (by omega), hk.range h.r7 (by omega), h.f10.keep hk (by omega), h.c9.keep hk (by omega), hk.sums h.sL (fun g hg hx => by have := h.own g hg; omega), h.own, hk.range h.r12 (by omega), hk.there h.t12 (by decide) (by omega), hk.range h.r13 (by omega), hk.there h.t13 (by decide) (by omega), o⟩
noncomputable def checkCode : Code := (Try.f39.body).getD .skip
set_option maxRecDepth 100000 in
set_option maxHeartbeats 4000000 in
theorem check_loop {u6 u14 u15 u16 u17 u18 u19 u20 u21 u22 u23 u24 u25 u26 u27 u28 u29 u30 u31 u32 u33 u34 u35 u36 u37 u38 u39 u40 u41 u42 u43 u44 u45 u46 u47 u48 u49 u50 u51 u52 u53 u54 u55 u56 u57 u58 u59 u60 u61 u62 u63 u64 u65 u66 u67 u68 u69 u70 u71 : Value} (w W : World) (z4 z5 z7 z9 z10 z12 z13 : Nat) (root k which : Sum) (v0 v3 vL : Value) (S : List Sum) (X0 : Sum) (R : Bool) (hR : R = decide ((runC k which 256 (X0, S, false)).2.2 = false ∧ (runC k which 256 (X0, S, false)).2.1 = [] ∧ (runC k which 256 (X0, S, false)).1 = root))
    (h0 : CW w W z4 z5 z7 z9 z10 z12 z13 root k which false vL S X0 (em 0)) (hS : S.length < 100000) : Code.wp Try.prog (dropN 6 checkCode) (bodyPost Try.prog Try.f39 fun e w' => e = .returned (.bool R) ∧ Below w.heap.size w w') ⟨#[sv root, sv k, v0, v3, .pointer (some ⟨z4, 0, none⟩), .pointer (some ⟨z5, 0, none⟩), u6, .pointer (some ⟨z7, 0, none⟩), .bool false, .pointer (some ⟨z9, 0, none⟩), .pointer (some ⟨z10, 0, none⟩), .func (.func 66) #[] #[.pointer (some ⟨z10, 0, none⟩), .pointer (some ⟨z9, 0, none⟩)], .pointer (some ⟨z12, 0, none⟩), .pointer (some ⟨z13, 0, none⟩), u14, u15, u16, u17, u18, u19, u20, u21, u22, u23, u24, u25, u26, u27, u28, u29, u30, u31, u32, u33, u34, u35, u36, u37, u38, u39, u40, u41, u42, u43, u44, u45, u46, u47, u48, u49, u50, u51, u52, u53, u54, u55, u56, u57, u58, u59, u60, u61, u62, u63, u64, u65, u66, u67, u68, u69, u70, u71], []⟩ W := by
  have H0 := Lib.hid h0
  have HR := Lib.hid hR
  have HS := Lib.hid hS
  have eg := enters_last
  clear h0 hR hS
  conv => arg 2; whnf
  go_wp2_with fail
  go_loopw [14] (fun d W => ∃ (h : Nat) (x : Sum) (L : List Sum) (fb : Bool) (vL : Value), h ≤ 256 ∧ d = .int .i64 (255 - (h : Int)) ∧ runC k which h (X0, S, false) = (x, L, fb) ∧ CW w W z4 z5 z7 z9 z10 z12 z13 root k which fb vL L x (em h) ∧ L.length < 100000) (fun d _ => (intOf d + 1).toNat)
  case atStart => exact ⟨0, X0, S, false, vL, by omega, rfl, rfl, H0.out, HS.out⟩
  case round =>
    clear H0
    obtain ⟨h, x, L, fb, vL, hh, rfl, hrun, hC, hlen⟩ := hrel
    have HC := Lib.hid hC
    have HRUN := Lib.hid hrun
    have HLEN := Lib.hid hlen
    clear hC hrun hlen
    by_cases hlt : h < 256
    · obtain ⟨D, hD⟩ : ∃ D, D = 255 - h := ⟨_, rfl⟩
      have hd : (255 : Int) - (h : Int) = (D : Int) := by omega
      rw [hd]
      have c1 : decide ((0 : Int) ≤ (D : Int)) = true := by simp
      have HD := Lib.hid (show 255 - D = h ∧ (255 : Int) - (h : Int) = (D : Int) ∧ D < 256 from ⟨by omega, hd, by omega⟩)
      obtain ⟨qb, hqb⟩ : ∃ q, q = (Keys.kn which >>> h) % 2 := ⟨_, rfl⟩
      have hqb2 : qb < 2 := by rw [hqb]; exact Nat.mod_lt _ (by decide)
      have hbb : (Keys.kn which).testBit h = decide (qb = 1) := by rw [Keys.bit_odd, hqb]
      have HBW := Lib.hid (fun W => bit_any which D W HD.out.2.2)
      rw [HD.out.1, ← hqb] at HBW
      have HQB := Lib.hid (And.intro hqb2 hbb)
      obtain ⟨e, he⟩ : ∃ e, e = em h := ⟨_, rfl⟩
      rw [← he] at HC
      have HE := Lib.hid he
      clear hD hd hqb hqb2 hbb hlt hh he
      have HG := Lib.hid trivial
      go_wp2_with (first
        | (have _ := HG; refine wpList_load_sum rfl _ rfl z13 0 rfl e HC.out.r13 ?_)
        | (have _ := HG; refine wpList_build_both rfl _ rfl e e rfl ?_)
        | (have _ := HG; refine wpList_var_both (by rfl) rfl _ _ rfl e e rfl rfl ?_; intro W5 hb hr ht; obtain ⟨z15, hz15⟩ : ∃ x, x = wr.heap.size := ⟨_, rfl⟩; rw [← hz15] at hr ht ⊢; have hap : z13 < z15 := (by rw [hz15]; exact there_lt HC.out.t13 (by decide)); have H1 := Lib.hid (And.intro (HC.out.below hb) (And.intro hr (And.intro ht hap))); clear HG hb hr ht hz15 hap HC)
        | (refine wpList_load_sum rfl _ rfl z7 0 rfl which H1.out.1.r7 ?_))
      refine (HBW.out W5).mono ?_
      rintro e9 W6 ⟨rfl, hb⟩
      have kk := Keeps.of_below (X := fun _ => False) hb
      have H2 := Lib.hid (And.intro (H1.out.1.below hb) (And.intro (kk.range H1.out.2.1 (fun h => h)) (And.intro (kk.there H1.out.2.2.1 (by decide) (fun h => h)) H1.out.2.2.2)))
      clear kk hb H1 HBW
      by_cases hq1 : qb = 1
      · subst hq1
        have HB1 := Lib.hid (show (Keys.kn which).testBit h = true from HQB.out.2)
        go_wp2_with fail
        refine (last_any z10 z9 W6 fb vL L H2.out.1.f10 H2.out.1.c9 H2.out.1.sL (by have := H2.out.1.ord; omega) (fun g hg => by have := H2.out.1.own g hg; have := H2.out.1.ord; omega) (by have := HLEN.out; omega)).mono ?_
        rintro e9 W7 ⟨t, L', fb', vL', hla, rfl, g1, g2, g3, g4, g5⟩
        have HLAST := Lib.hid hla
        have hless := last_less hla
        have HB2 := Lib.hid (Nat.le_trans hless (Nat.le_of_lt HLEN.out))
        have hC2 := H2.out.1.last g1 g2 g3 (fun g hg => H2.out.1.own g (g4 g hg)) g5
        have hap := H2.out.2.2.2
        have hz := H2.out.1.ord
        have H3 := Lib.hid (And.intro hC2 (And.intro (g5.range H2.out.2.1 (by omega)) (And.intro (g5.there H2.out.2.2.1 (by decide) (by omega)) hap)))
        have HLEN2 := Lib.hid (show L'.length < 100000 by have := HLEN.out; omega)
        clear hla hless hC2 hap hz g1 g2 g3 g4 g5 H2
        have HG := Lib.hid trivial
        go_wp2_with (first
          | (have _ := HG; refine wpList_var_sum (by rfl) rfl _ _ rfl t rfl rfl ?_; intro W8 hb hr _; obtain ⟨z16, hz16⟩ : ∃ x, x = W7.heap.size := ⟨_, rfl⟩; rw [← hz16] at hr ⊢; have kk := Keeps.of_below (X := fun _ => False) hb; have H4 := Lib.hid (And.intro (H3.out.1.below hb) (And.intro (kk.range H3.out.2.1 (fun h => h)) (And.intro (kk.there H3.out.2.2.1 (by decide) (fun h => h)) (And.intro H3.out.2.2.2 hr)))); clear HG hb hr hz16 kk H3)
          | (refine wpList_load_sum rfl _ rfl z16 0 rfl t H4.out.2.2.2.2 ?_)
          | (refine wpList_build_both rfl _ rfl t t rfl ?_)
          | (refine wpList_store_both rfl _ _ rfl z15 0 t t rfl rfl H4.out.2.2.1 ?_))
        have hs5 := range_stored z15 (cells2 t t) 0 W8 (by rw [length_cells2]; exact World.there_setCells H4.out.2.2.1 _ _ _)
        have ht5 := World.there_setCells H4.out.2.2.1 z15 0 (cells2 t t)
        have H5 := Lib.hid (And.intro (H4.out.1.apart (keeps_setCells_ z15 (cells2 t t) 0 W8) H4.out.2.2.2.1) (And.intro hs5 (And.intro ht5 H4.out.2.2.2.1)))
        clear hs5 ht5 H4
        generalize W8.setCells z15 0 (cells2 t t) = W9 at *
        obtain ⟨qk, hqk⟩ : ∃ q, q = (Keys.kn k >>> h) % 2 := ⟨_, rfl⟩
        have hqk2 : qk < 2 := by rw [hqk]; exact Nat.mod_lt _ (by decide)
        have hjoin : ∀ T, join k h T x = sd (if qk = 0 then x else T) (if qk = 0 then T else x) := fun T => by
          unfold join
          have hb : (Keys.kn k).testBit h = decide (qk = 1) := by rw [Keys.bit_odd, hqk]
          rw [hb]
          by_cases h0 : qk = 0
          · subst h0; rfl
          · have h1 : qk = 1 := by omega
            subst h1; rfl
        have HJ := Lib.hid (And.intro hjoin hqk2)
        have HBK := Lib.hid (fun W => bit_any k D W HD.out.2.2)
        rw [HD.out.1, ← hqk] at HBK
        have c0 : (0 : Int) ≤ (qk : Int) := by omega
        have c2 : (qk : Int) < 2 := by omega
        have c3 : qk < 2 := hqk2
        clear hqk hjoin hqk2
        refine wp_region_sched (fun V => V.rangeAt z5 0 (cellsOf k) ∧ V.rangeAt z12 0 (cellsOf x)) [.t 1, .s 0, .s 3, .e 2 true, .t 4, .e 5 false] (by kernel_rfl) (by kernel_rfl) (by intro c a d v w h; cases d <;> exact h) ?_
        have HA1 := Lib.hid (And.intro (H5.out.1.below (Below.refl _ _).drew) (And.intro (show (World.drew _).rangeAt z15 0 (cells2 t t) from H5.out.2.1) (And.intro (show (World.drew _).there z15 0 64 from H5.out.2.2.1) H5.out.2.2.2)))
        clear H5
        generalize World.drew _ = V at *
        iterate 1
          refine wpS_t rfl (v := ?_) (by rfl) (fun W => ?_) ?_
          rotate_left
          · go_simp
            try rfl
          try simp only [Act.put, List.setIfInBounds_toArray, List.set_cons_zero, List.set_cons_succ]
        refine wpS_load_sum (by exact ⟨HA1.out.1.r5, HA1.out.1.r12⟩) rfl (by rfl) _ (by rfl) z5 0 (by rfl) k (fun V hV => hV.1) ?_
        try simp only [Act.put, List.setIfInBounds_toArray, List.set_cons_zero, List.set_cons_succ]
        refine wpS_load_sum (by exact ⟨HA1.out.1.r5, HA1.out.1.r12⟩) rfl (by rfl) _ (by rfl) z12 0 (by rfl) x (fun V hV => hV.2) ?_
        try simp only [Act.put, List.setIfInBounds_toArray, List.set_cons_zero, List.set_cons_succ]
        refine wpS_k rfl (by rfl) (fun K hK => ?_)
        go_simp
        refine (HBK.out V).mono ?_
        rintro e9 V1 ⟨rfl, hb⟩
        have HA2 := Lib.hid (And.intro (HA1.out.1.below hb) (And.intro ((Keeps.of_below (X := fun _ => False) hb).range HA1.out.2.1 (fun h => h)) (And.intro ((Keeps.of_below (X := fun _ => False) hb).there HA1.out.2.2.1 (by decide) (fun h => h)) HA1.out.2.2.2)))
        clear hb HA1
        refine hK _ _ ⟨by exact ⟨HA2.out.1.r5, HA2.out.1.r12⟩, ?_⟩; clear hK K
        try simp only [Act.put, List.setIfInBounds_toArray, List.set_cons_zero, List.set_cons_succ]
        iterate 1
          refine wpS_t rfl (v := ?_) (by rfl) (fun W => ?_) ?_
          rotate_left
          · go_simp
            try rfl
          try simp only [Act.put, List.setIfInBounds_toArray, List.set_cons_zero, List.set_cons_succ]
        refine wpS_e rfl (by rfl) (fun K hK => ?_)
        refine wp_store_sum _ _ (by rfl) z15 (qk * 32) x (by rfl) (by rfl) (fun j hj => by have := HA2.out.2.2.1 (qk * 32 + j) (by omega); rw [Nat.zero_add] at this; exact this) ?_
        refine hK _ _ ?_; clear hK K
        try simp only [Act.put]
        obtain ⟨hset, htset⟩ := both_set (s := x) HA2.out.2.1 HA2.out.2.2.1 HJ.out.2
        have k3 : Keeps (· = z15) V1 (V1.setCells z15 (qk * 32) (cellsOf x)) := keeps_setCells_ z15 (cellsOf x) (qk * 32) V1
        have HA3 := Lib.hid (And.intro (HA2.out.1.apart k3 HA2.out.2.2.2) hset)
        clear k3 hset htset HA2 c0 c2 c3
        generalize V1.setCells z15 (qk * 32) (cellsOf x) = V2 at *
        refine wpS_done ?_
        obtain ⟨A, hA⟩ : ∃ A, A = if qk = 0 then x else t := ⟨_, rfl⟩
        obtain ⟨B, hB⟩ : ∃ B, B = if qk = 0 then t else x := ⟨_, rfl⟩
        rw [← hA, ← hB] at HA3
        have hjn := HJ.out.1 t
        rw [← hA, ← hB] at hjn
        have HJN := Lib.hid hjn
        clear hA hB hjn
        have hr2 : ∀ W : World, W.rangeAt z15 0 (cells2 A B) → W.rangeAt z15 0 (cellsOf A) ∧ W.rangeAt z15 32 (cellsOf B) := fun W h => ⟨range_left_ h, by have := range_right_ h; rw [length_cellsOf, Nat.zero_add] at this; exact this⟩
        have HR2 := Lib.hid hr2
        clear hr2
        go_wp2_with fail
        refine wp_region_sched (fun V => (V.rangeAt z15 0 (cellsOf A) ∧ V.rangeAt z15 32 (cellsOf B)) ∧ V.rangeAt z13 0 (cellsOf e)) [.t 0, .t 2, .s 1, .s 3, .s 5, .s 6, .e 4 true, .e 7 false, .e 8 false, .e 9 false] (by kernel_rfl) (by kernel_rfl) (by intro c a d v w h; cases d <;> exact h) ?_
        have HA4 := Lib.hid (And.intro (HA3.out.1.below (Below.refl _ _).drew) (HR2.out V2.drew HA3.out.2))
        clear HA3
        generalize V2.drew = V3 at *
        iterate 2
          refine wpS_t rfl (v := ?_) (by rfl) (fun W => ?_) ?_
          rotate_left
          · go_simp
            try rfl
          try simp only [Act.put, List.setIfInBounds_toArray, List.set_cons_zero, List.set_cons_succ]
        refine wpS_load_sum (by exact ⟨HA4.out.2, HA4.out.1.r13⟩) rfl (by rfl) _ (by rfl) z15 0 (by rfl) A (fun V hV => hV.1.1) ?_
        try simp only [Act.put, List.setIfInBounds_toArray, List.set_cons_zero, List.set_cons_succ]
        refine wpS_load_sum (by exact ⟨HA4.out.2, HA4.out.1.r13⟩) rfl (by rfl) _ (by rfl) z15 32 (by rfl) B (fun V hV => hV.1.2) ?_
        try simp only [Act.put, List.setIfInBounds_toArray, List.set_cons_zero, List.set_cons_succ]
        refine wpS_load_sum (by exact ⟨HA4.out.2, HA4.out.1.r13⟩) rfl (by rfl) _ (by rfl) z13 0 (by rfl) e (fun V hV => hV.2) ?_
        try simp only [Act.put, List.setIfInBounds_toArray, List.set_cons_zero, List.set_cons_succ]
        refine wpS_load_sum (by exact ⟨HA4.out.2, HA4.out.1.r13⟩) rfl (by rfl) _ (by rfl) z13 0 (by rfl) e (fun V hV => hV.2) ?_
        try simp only [Act.put, List.setIfInBounds_toArray, List.set_cons_zero, List.set_cons_succ]
        refine wpS_k rfl (by rfl) (fun K hK => ?_)
        go_simp
        refine (sd_any A B V3).mono ?_
        rintro e9 V4 ⟨rfl, hb⟩
        have kk := Keeps.of_below (X := fun _ => False) hb
        have HA5 := Lib.hid (And.intro (HA4.out.1.below hb) (And.intro (kk.range HA4.out.2.1 (fun h => h)) (kk.range HA4.out.2.2 (fun h => h))))
        clear kk hb HA4
        refine hK _ _ ⟨by exact ⟨HA5.out.2, HA5.out.1.r13⟩, ?_⟩; clear hK K
        try simp only [Act.put, List.setIfInBounds_toArray, List.set_cons_zero, List.set_cons_succ]
        refine wpS_e rfl (by rfl) (fun K hK => ?_)
        go_simp
        refine (sd_any e e V4).mono ?_
        rintro e9 V5 ⟨rfl, hb⟩
        have HA6 := Lib.hid (HA5.out.1.below hb)
        clear hb HA5
        refine hK _ _ ?_; clear hK K
        try simp only [Act.put, List.setIfInBounds_toArray, List.set_cons_zero, List.set_cons_succ]
        refine wpS_e rfl (by rfl) (fun K hK => ?_)
        refine wp_store_sum _ _ (by rfl) z12 0 (sd A B) (by rfl) (by rfl) HA6.out.t12 ?_
        refine hK _ _ ?_; clear hK K
        try simp only [Act.put]
        refine wpS_e rfl (by rfl) (fun K hK => ?_)
        refine wp_store_sum _ _ (by rfl) z13 0 (sd e e) (by rfl) (by rfl) ((keeps_setCells_ z12 (cellsOf (sd A B)) 0 V5).there HA6.out.t13 (by decide) (by have := HA6.out.ord; omega)) ?_
        refine hK _ _ ?_; clear hK K
        try simp only [Act.put]
        refine wpS_done ?_
        have hfin := HA6.out.sides (sd A B) (sd e e)
        have HFIN := Lib.hid hfin
        clear hfin HA6
        have hwj : wrap64 ((D : Int) - 1) = (D : Int) - 1 := by have := HD.out; unfold wrap64; omega
        go_wp2_with fail
        try rw [hwj]
        clear hwj
        refine ⟨⟨h + 1, sd A B, L', fb', vL', by have := HD.out; omega, congrArg _ (by have := HD.out; omega), ?_, by rw [em_succ, ← HE.out]; exact HFIN.out, by have := HLEN2.out; omega⟩, ?_⟩
        · rw [runC, HRUN.out, step_bit HB1.out HLAST.out]
          rw [← HJN.out]
        · simp only [intOf]
          have := HD.out
          omega

      · have hq0 : qb = 0 := by have := HQB.out.1; omega
        subst hq0
        have HB0 := Lib.hid (show (Keys.kn which).testBit h = false from HQB.out.2)
        clear hq1
        go_wp2_with fail
        obtain ⟨qk, hqk⟩ : ∃ q, q = (Keys.kn k >>> h) % 2 := ⟨_, rfl⟩
        have hqk2 : qk < 2 := by rw [hqk]; exact Nat.mod_lt _ (by decide)
        have hjoin : ∀ T, join k h T x = sd (if qk = 0 then x else T) (if qk = 0 then T else x) := fun T => by
          unfold join
          have hb : (Keys.kn k).testBit h = decide (qk = 1) := by rw [Keys.bit_odd, hqk]
          rw [hb]
          by_cases h0 : qk = 0
          · subst h0; rfl
          · have h1 : qk = 1 := by omega
            subst h1; rfl
        have HJ := Lib.hid (And.intro hjoin hqk2)
        have HBK := Lib.hid (fun W => bit_any k D W HD.out.2.2)
        rw [HD.out.1, ← hqk] at HBK
        have c0 : (0 : Int) ≤ (qk : Int) := by omega
        have c2 : (qk : Int) < 2 := by omega
        have c3 : qk < 2 := hqk2
        clear hqk hjoin hqk2
        refine wp_region_sched (fun V => V.rangeAt z5 0 (cellsOf k) ∧ V.rangeAt z12 0 (cellsOf x)) [.t 1, .s 0, .s 3, .e 2 true, .t 4, .e 5 false] (by kernel_rfl) (by kernel_rfl) (by intro c a d v w h; cases d <;> exact h) ?_
        have HA1 := Lib.hid (And.intro (H2.out.1.below (Below.refl _ _).drew) (And.intro (show (World.drew _).rangeAt z15 0 (cells2 e e) from H2.out.2.1) (And.intro (show (World.drew _).there z15 0 64 from H2.out.2.2.1) H2.out.2.2.2)))
        clear H2
        generalize World.drew _ = V at *
        iterate 1
          refine wpS_t rfl (v := ?_) (by rfl) (fun W => ?_) ?_
          rotate_left
          · go_simp
            try rfl
          try simp only [Act.put, List.setIfInBounds_toArray, List.set_cons_zero, List.set_cons_succ]
        refine wpS_load_sum (by exact ⟨HA1.out.1.r5, HA1.out.1.r12⟩) rfl (by rfl) _ (by rfl) z5 0 (by rfl) k (fun V hV => hV.1) ?_
        try simp only [Act.put, List.setIfInBounds_toArray, List.set_cons_zero, List.set_cons_succ]
        refine wpS_load_sum (by exact ⟨HA1.out.1.r5, HA1.out.1.r12⟩) rfl (by rfl) _ (by rfl) z12 0 (by rfl) x (fun V hV => hV.2) ?_
        try simp only [Act.put, List.setIfInBounds_toArray, List.set_cons_zero, List.set_cons_succ]
        refine wpS_k rfl (by rfl) (fun K hK => ?_)
        go_simp
        refine (HBK.out V).mono ?_
        rintro e9 V1 ⟨rfl, hb⟩
        have HA2 := Lib.hid (And.intro (HA1.out.1.below hb) (And.intro ((Keeps.of_below (X := fun _ => False) hb).range HA1.out.2.1 (fun h => h)) (And.intro ((Keeps.of_below (X := fun _ => False) hb).there HA1.out.2.2.1 (by decide) (fun h => h)) HA1.out.2.2.2)))
        clear hb HA1
        refine hK _ _ ⟨by exact ⟨HA2.out.1.r5, HA2.out.1.r12⟩, ?_⟩; clear hK K
        try simp only [Act.put, List.setIfInBounds_toArray, List.set_cons_zero, List.set_cons_succ]
        iterate 1
          refine wpS_t rfl (v := ?_) (by rfl) (fun W => ?_) ?_
          rotate_left
          · go_simp
            try rfl
          try simp only [Act.put, List.setIfInBounds_toArray, List.set_cons_zero, List.set_cons_succ]
        refine wpS_e rfl (by rfl) (fun K hK => ?_)
        refine wp_store_sum _ _ (by rfl) z15 (qk * 32) x (by rfl) (by rfl) (fun j hj => by have := HA2.out.2.2.1 (qk * 32 + j) (by omega); rw [Nat.zero_add] at this; exact this) ?_
        refine hK _ _ ?_; clear hK K
        try simp only [Act.put]
        obtain ⟨hset, htset⟩ := both_set (s := x) HA2.out.2.1 HA2.out.2.2.1 HJ.out.2
        have k3 : Keeps (· = z15) V1 (V1.setCells z15 (qk * 32) (cellsOf x)) := keeps_setCells_ z15 (cellsOf x) (qk * 32) V1
        have HA3 := Lib.hid (And.intro (HA2.out.1.apart k3 HA2.out.2.2.2) hset)
        clear k3 hset htset HA2 c0 c2 c3
        generalize V1.setCells z15 (qk * 32) (cellsOf x) = V2 at *
        refine wpS_done ?_
        obtain ⟨A, hA⟩ : ∃ A, A = if qk = 0 then x else e := ⟨_, rfl⟩
        obtain ⟨B, hB⟩ : ∃ B, B = if qk = 0 then e else x := ⟨_, rfl⟩
        rw [← hA, ← hB] at HA3
        have hjn := HJ.out.1 e
        rw [← hA, ← hB] at hjn
        have HJN := Lib.hid hjn
        clear hA hB hjn
        have hr2 : ∀ W : World, W.rangeAt z15 0 (cells2 A B) → W.rangeAt z15 0 (cellsOf A) ∧ W.rangeAt z15 32 (cellsOf B) := fun W h => ⟨range_left_ h, by have := range_right_ h; rw [length_cellsOf, Nat.zero_add] at this; exact this⟩
        have HR2 := Lib.hid hr2
        clear hr2
        go_wp2_with fail
        refine wp_region_sched (fun V => (V.rangeAt z15 0 (cellsOf A) ∧ V.rangeAt z15 32 (cellsOf B)) ∧ V.rangeAt z13 0 (cellsOf e)) [.t 0, .t 2, .s 1, .s 3, .s 5, .s 6, .e 4 true, .e 7 false, .e 8 false, .e 9 false] (by kernel_rfl) (by kernel_rfl) (by intro c a d v w h; cases d <;> exact h) ?_
        have HA4 := Lib.hid (And.intro (HA3.out.1.below (Below.refl _ _).drew) (HR2.out V2.drew HA3.out.2))
        clear HA3
        generalize V2.drew = V3 at *
        iterate 2
          refine wpS_t rfl (v := ?_) (by rfl) (fun W => ?_) ?_
          rotate_left
          · go_simp
            try rfl
          try simp only [Act.put, List.setIfInBounds_toArray, List.set_cons_zero, List.set_cons_succ]
        refine wpS_load_sum (by exact ⟨HA4.out.2, HA4.out.1.r13⟩) rfl (by rfl) _ (by rfl) z15 0 (by rfl) A (fun V hV => hV.1.1) ?_
        try simp only [Act.put, List.setIfInBounds_toArray, List.set_cons_zero, List.set_cons_succ]
        refine wpS_load_sum (by exact ⟨HA4.out.2, HA4.out.1.r13⟩) rfl (by rfl) _ (by rfl) z15 32 (by rfl) B (fun V hV => hV.1.2) ?_
        try simp only [Act.put, List.setIfInBounds_toArray, List.set_cons_zero, List.set_cons_succ]
        refine wpS_load_sum (by exact ⟨HA4.out.2, HA4.out.1.r13⟩) rfl (by rfl) _ (by rfl) z13 0 (by rfl) e (fun V hV => hV.2) ?_
        try simp only [Act.put, List.setIfInBounds_toArray, List.set_cons_zero, List.set_cons_succ]
        refine wpS_load_sum (by exact ⟨HA4.out.2, HA4.out.1.r13⟩) rfl (by rfl) _ (by rfl) z13 0 (by rfl) e (fun V hV => hV.2) ?_
        try simp only [Act.put, List.setIfInBounds_toArray, List.set_cons_zero, List.set_cons_succ]
        refine wpS_k rfl (by rfl) (fun K hK => ?_)
        go_simp
        refine (sd_any A B V3).mono ?_
        rintro e9 V4 ⟨rfl, hb⟩
        have kk := Keeps.of_below (X := fun _ => False) hb
        have HA5 := Lib.hid (And.intro (HA4.out.1.below hb) (And.intro (kk.range HA4.out.2.1 (fun h => h)) (kk.range HA4.out.2.2 (fun h => h))))
        clear kk hb HA4
        refine hK _ _ ⟨by exact ⟨HA5.out.2, HA5.out.1.r13⟩, ?_⟩; clear hK K
        try simp only [Act.put, List.setIfInBounds_toArray, List.set_cons_zero, List.set_cons_succ]
        refine wpS_e rfl (by rfl) (fun K hK => ?_)
        go_simp
        refine (sd_any e e V4).mono ?_
        rintro e9 V5 ⟨rfl, hb⟩
        have HA6 := Lib.hid (HA5.out.1.below hb)
        clear hb HA5
        refine hK _ _ ?_; clear hK K
        try simp only [Act.put, List.setIfInBounds_toArray, List.set_cons_zero, List.set_cons_succ]
        refine wpS_e rfl (by rfl) (fun K hK => ?_)
        refine wp_store_sum _ _ (by rfl) z12 0 (sd A B) (by rfl) (by rfl) HA6.out.t12 ?_
        refine hK _ _ ?_; clear hK K
        try simp only [Act.put]
        refine wpS_e rfl (by rfl) (fun K hK => ?_)
        refine wp_store_sum _ _ (by rfl) z13 0 (sd e e) (by rfl) (by rfl) ((keeps_setCells_ z12 (cellsOf (sd A B)) 0 V5).there HA6.out.t13 (by decide) (by have := HA6.out.ord; omega)) ?_
        refine hK _ _ ?_; clear hK K
        try simp only [Act.put]
        refine wpS_done ?_
        have hfin := HA6.out.sides (sd A B) (sd e e)
        have HFIN := Lib.hid hfin
        clear hfin HA6
        have hwj : wrap64 ((D : Int) - 1) = (D : Int) - 1 := by have := HD.out; unfold wrap64; omega
        go_wp2_with fail
        try rw [hwj]
        clear hwj
        refine ⟨⟨h + 1, sd A B, L, fb, vL, by have := HD.out; omega, congrArg _ (by have := HD.out; omega), ?_, by rw [em_succ, ← HE.out]; exact HFIN.out, by have := HLEN.out; omega⟩, ?_⟩
        · rw [runC, HRUN.out, step_none HB0.out]
          rw [← HJN.out, HE.out]
        · simp only [intOf]
          have := HD.out
          omega

    · have e6 : h = 256 := by omega
      subst e6
      clear hlt hh
      have c1 : decide ((0 : Int) ≤ (255 : Int) - ((256 : Nat) : Int)) = false := by decide
      rw [HRUN.out] at HR
      have f1 := HC.out.f10.cell
      have f2 := HC.out.c9.cell
      obtain ⟨aL, cL, rfl, _, _, _⟩ := id HC.out.sL
      have heq := eq_sums x root
      obtain ⟨N, hN⟩ : ∃ N, N = L.length := ⟨_, rfl⟩
      rw [← hN] at f2
      have HN := Lib.hid hN
      clear hN
      cases fb with
      | true =>
        have hR : R = false := by rw [HR.out]; simp
        subst hR
        go_wp2_with fail
        exact bodyPost_ret (results_tmp rfl _ _ _) rfl ⟨rfl, HC.out.bw⟩
      | false =>
        by_cases hN0 : N = 0
        · have hL0 : L = [] := List.length_eq_zero_iff.1 (by rw [← HN.out, hN0])
          have n1 : decide (N = 0) = true := by simpa using hN0
          have n2 : decide ((N : Int) = 0) = true := by simp; omega
          have n3 : ((N : Int) == 0) = true := by rw [beq_iff_eq]; omega
          have hR : R = decide (x = root) := by rw [HR.out, hL0]; simp
          have HRR := Lib.hid hR
          rw [← hR] at heq
          clear hL0 hR
          go_wp2_with (first
            | (refine wpList_load_sum_g (by rfl) _ rfl z12 0 rfl x HC.out.r12 ?_)
            | (refine wpList_load_sum_g (by rfl) _ rfl z4 0 rfl root HC.out.r4 ?_))
          exact bodyPost_ret (results_tmp rfl _ _ _) rfl ⟨rfl, HC.out.bw⟩
        · have hL0 : L ≠ [] := fun e => hN0 (by rw [HN.out, e]; rfl)
          have n1 : decide (N = 0) = false := by simpa using hN0
          have n2 : decide ((N : Int) = 0) = false := by simp; omega
          have n3 : ((N : Int) == 0) = false := by rw [beq_eq_false_iff_ne]; omega
          have hR : R = false := by rw [HR.out]; simp [hL0]
          subst hR
          clear hL0
          go_wp2_with fail
          exact bodyPost_ret (results_tmp rfl _ _ _) rfl ⟨rfl, HC.out.bw⟩
end Go.Proofs.Ytfmgoehnbaiamaa
-- Walk: shows.Check.
namespace Go.Proofs.Ytfmgoehnbaiamaa
theorem infoSumSize : ∃ i, Try.prog.info? 29 = some i ∧ i.size = 32 := by
  obtain ⟨i, z, hi, _, h1, _⟩ := info_sum
  exact ⟨i, hi, h1⟩
theorem wpList_copy_sums {w : World} {ops : Array Oper} {rest : List Oper} {o : Oper} {a : Act} {Q : Exit → Act → World → Prop} (hgd : o.guard = none) (d s : Operand)
    (ho : o.op = .call { callee := .builtin .copy, args := #[d, s], argTypes := #[57, 57] }) (g N cS : Nat) (aS : Option Addr) (l : List Sum) (hd : a.eval d = .slice (some ⟨g, 0, none⟩) N N) (hs : a.eval s = .slice aS N cS)
    (hS : SumsAt w (.slice aS N cS) l) (hN : N = l.length) (cur : Array Value) (t : TypeId) (hg : w.heap[g]? = some (.cells cur t (0, 0))) (hcur : cur.size = N * 32)
    (h : ∀ w', w'.rangeAt g 0 (cellsAll l) → Keeps (· = g) w w' → wpList Try.prog ops Q rest (a.put o.dst (.int .i64 (N : Int))) w') : wpList Try.prog ops Q (o :: rest) a w := by
  obtain ⟨i, hi, hsz⟩ := infoSumSize
  by_cases h0 : N = 0
  · subst h0
    have hl : l = [] := List.length_eq_zero_iff.1 hN.symm
    subst hl
    have hl : ∀ (x : Addr), (loadCells x 0).run Try.prog w = .ok #[] w := fun x => by simpa using run_loadCells_list (P := Try.prog) w x [] (by simp)
    have hr : (Builtin.copy_ #[57, 57] o.type #[.slice (some ⟨g, 0, none⟩) 0 0, .slice aS 0 cS]).run Try.prog w = .ok (goInt 0) w := by
      cases aS <;> simp [Builtin.copy_, run_underlying Try.underlying57, Builtin.lenOf, Builtin.firstCells, sizeOf, typeInfo, hi, storeCells, hl]
    refine wpList_plain hgd fun K hK => ?_
    unfold Oper.wp
    simp [execOp, ho, resolve, invoke, builtin, hd, hs, hr, Result.andThen]
    exact hK _ _ (h w (range_nil _ _ _) (Keeps.refl _ _))
  · obtain ⟨a9, c9, he, h1, h2, h3⟩ := hS
    simp only [Value.slice.injEq] at he
    obtain ⟨rfl, -, rfl⟩ := he
    obtain ⟨b, off, rfl, hr⟩ := h3.resolve_left (fun e => h0 (by rw [hN, e]; rfl))
    have hlen : (cellsAll l).length = N * 32 := by rw [length_cellsAll, hN, Nat.mul_comm]
    have hl := run_loadCells_list (P := Try.prog) w ⟨b, off, none⟩ (cellsAll l) (fun j v hj => by rw [Addr.add_mid]; exact hr j v hj)
    have hst := run_storeCells_at Try.prog g 0 t (cellsAll l) 0 cur w hg (by rw [hlen, hcur]; omega) (oneCell_cellsAll l)
    have hall : (cur.toList.take (0 + 0) ++ cellsAll l ++ cur.toList.drop (0 + 0 + (cellsAll l).length)) = cellsAll l := by
      rw [List.drop_eq_nil_of_le (by rw [hlen, Array.length_toList, hcur]; omega)]; simp
    rw [hall] at hst
    rw [hlen] at hl
    have hrun : (Builtin.copy_ #[57, 57] o.type #[.slice (some ⟨g, 0, none⟩) N N, .slice (some ⟨b, off, none⟩) N cS]).run Try.prog w = .ok (goInt N) (w.setRow g (cellsAll l).toArray) := by
      simp [Builtin.copy_, run_underlying Try.underlying57, Builtin.lenOf, Builtin.firstCells, sizeOf, typeInfo, hi, hsz, hl, hst]
    refine wpList_plain hgd fun K hK => ?_
    unfold Oper.wp
    simp [execOp, ho, resolve, invoke, builtin, hd, hs, hrun, Result.andThen]
    refine hK _ _ (h _ ?_ ?_)
    · have hh := setRow_heap w g cur (cellsAll l).toArray t (0, 0) hg
      intro j v hj
      rw [cell_of_row _ _ _ _ t (0, 0) hh, Nat.zero_add]
      simpa using hj
    · exact ⟨rfl, rfl, rfl, by simp [World.setRow], fun k _ hk => setRow_other w g k _ hk⟩
end Go.Proofs.Ytfmgoehnbaiamaa
-- Walk: shows.Check, whole.
namespace Go.Proofs.Ytfmgoehnbaiamaa
/-- What Check has in hand ahead of its loop. -/
structure CV (w W : World) (z4 z5 z7 z9 : Nat) (root k which : Sum) (v0 : Value) (bs : List UInt8) (vL : Value) (L : List Sum) : Prop where
  bw : Below w.heap.size w W
  r4 : W.rangeAt z4 0 (cellsOf root)
  r5 : W.rangeAt z5 0 (cellsOf k)
  r7 : W.rangeAt z7 0 (cellsOf which)
  c9 : VarAt W z9 vL
  sL : SumsAt W vL L
  val : BytesAt W v0 bs
  own : ∀ g, vL.ownBlock = some g → z7 < g ∧ g < z9
  ord : w.heap.size ≤ z4 ∧ z4 < z5 ∧ z5 < z7 ∧ z7 < z9
theorem CV.below {w W W' : World} {z4 z5 z7 z9 : Nat} {root k which : Sum} {v0 : Value} {bs : List UInt8} {vL : Value} {L : List Sum} (h : CV w W z4 z5 z7 z9 root k which v0 bs vL L) (hb : Below W.heap.size W W') : CV w W' z4 z5 z7 z9 root k which v0 bs vL L :=
  have kk := Keeps.of_below (X := fun _ => False) hb
  ⟨h.bw.trans (hb.mono h.bw.size), kk.range h.r4 (fun h => h), kk.range h.r5 (fun h => h), kk.range h.r7 (fun h => h), h.c9.below hb, h.sL.below hb (Nat.le_refl _), bytes_below h.val hb (Nat.le_refl _), h.own, h.ord⟩
set_option maxRecDepth 100000 in
set_option maxHeartbeats 4000000 in
theorem check_mid {u6 u10 u11 u12 u13 u14 u15 u16 u17 u18 u19 u20 u21 u22 u23 u24 u25 u26 u27 u28 u29 u30 u31 u32 u33 u34 u35 u36 u37 u38 u39 u40 u41 u42 u43 u44 u45 u46 u47 u48 u49 u50 u51 u52 u53 u54 u55 u56 u57 u58 u59 u60 u61 u62 u63 u64 u65 u66 u67 u68 u69 u70 u71 : Value} (w W : World) (z4 z5 z7 z9 : Nat) (root k which : Sum) (a0 : Option Addr) (n0 c0 : Nat) (v3 vL : Value) (bs : List UInt8) (S : List Sum) (R : Bool) (hR : R = checkOf root k bs which S)
    (h0 : CV w W z4 z5 z7 z9 root k which (.slice a0 n0 c0) bs vL S) (hS : S.length < 100000) (hbs : bs.length < 140737488355000) : Code.wp Try.prog (dropN 3 checkCode) (bodyPost Try.prog Try.f39 fun e w' => e = .returned (.bool R) ∧ Below w.heap.size w w') ⟨#[sv root, sv k, .slice a0 n0 c0, v3, .pointer (some ⟨z4, 0, none⟩), .pointer (some ⟨z5, 0, none⟩), u6, .pointer (some ⟨z7, 0, none⟩), .bool false, .pointer (some ⟨z9, 0, none⟩), u10, u11, u12, u13, u14, u15, u16, u17, u18, u19, u20, u21, u22, u23, u24, u25, u26, u27, u28, u29, u30, u31, u32, u33, u34, u35, u36, u37, u38, u39, u40, u41, u42, u43, u44, u45, u46, u47, u48, u49, u50, u51, u52, u53, u54, u55, u56, u57, u58, u59, u60, u61, u62, u63, u64, u65, u66, u67, u68, u69, u70, u71], []⟩ W := by
  have H0 := Lib.hid h0
  have HS := Lib.hid (And.intro hS hbs)
  have HR := Lib.hid hR
  have hmf : ∀ (fn : Fn) (first cap : Array Value) (w : World), (Instr.makeFunc fn first cap).run Try.prog w = .ok (.func fn first cap) w := fun _ _ _ _ => rfl
  have hb1 := al (Below.refl W.heap.size W) (.cells #[.bool false] 4)
  have hv1 := var_new W (.bool false) 4
  have H1 := Lib.hid (And.intro (h0.below hb1) hv1)
  obtain ⟨z10, hz10⟩ : ∃ z, z = W.heap.size := ⟨_, rfl⟩
  have hlt : z9 < z10 := by rw [hz10]; exact h0.c9.lt
  have HZ := Lib.hid (And.intro hz10 hlt)
  have HZ2 := Lib.hid hz10
  have HV := Lib.hid (vl_any k bs (.slice a0 n0 c0) (W.alloc (.cells #[.bool false] 4)) H1.out.1.val hbs)
  obtain ⟨X0, hX0⟩ : ∃ x, x = vl k bs := ⟨_, rfl⟩
  rw [← hX0] at HV
  have HX := Lib.hid hX0
  have HE := Lib.hid (fun W => empty_any 0 W (by omega))
  clear h0 hS hR hb1 hv1 hlt hz10 hbs hX0 H0
  conv => arg 2; whnf
  refine Alm.wp_cut 3 ?_
  intro T hT
  dsimp only [cutN]
  replace hT := Lib.hid hT
  go_wp2_with (refine wpList_load_sum rfl _ rfl z5 0 rfl k H1.out.1.r5 ?_)
  refine HV.out.mono ?_
  rintro e9 W2 ⟨rfl, hb⟩
  have H2 := Lib.hid (And.intro (H1.out.1.below hb) (H1.out.2.below hb))
  rw [← HZ2.out] at H2 ⊢
  clear hb H1 HV HZ2
  go_wp2_with fail
  refine (HE.out W2).mono ?_
  rintro e9 W3 ⟨rfl, hb⟩
  have H3 := Lib.hid (And.intro (H2.out.1.below hb) (H2.out.2.below hb))
  clear hb H2 HE
  have hb4 := al (Below.refl W3.heap.size W3) (.cells (cells8 (List.replicate 32 0)).toArray 29)
  have hs4 : (W3.alloc (.cells (cells8 (List.replicate 32 0)).toArray 29)).heap.size = W3.heap.size + 1 := Array.size_push _
  have hb5 := al hb4 (.cells (cells8 (List.replicate 32 0)).toArray 29)
  have t12 := World.there_alloc (there_new W3 (cells8 (List.replicate 32 0)).toArray 29) (.cells (cells8 (List.replicate 32 0)).toArray 29)
  have t13 := there_new (W3.alloc (.cells (cells8 (List.replicate 32 0)).toArray 29)) (cells8 (List.replicate 32 0)).toArray 29
  have r12 : ((W3.alloc (.cells (cells8 (List.replicate 32 0)).toArray 29)).alloc (.cells (cells8 (List.replicate 32 0)).toArray 29)).rangeAt W3.heap.size 0 (cellsOf zeroSum) := World.rangeAt_alloc (range_new W3 (cells8 (List.replicate 32 0)).toArray 29 (cellsOf zeroSum) rfl) _
  have r13 : ((W3.alloc (.cells (cells8 (List.replicate 32 0)).toArray 29)).alloc (.cells (cells8 (List.replicate 32 0)).toArray 29)).rangeAt (W3.heap.size + 1) 0 (cellsOf zeroSum) := by
    have := range_new (W3.alloc (.cells (cells8 (List.replicate 32 0)).toArray 29)) (cells8 (List.replicate 32 0)).toArray 29 (cellsOf zeroSum) rfl
    rw [hs4] at this
    exact this
  rw [hs4] at t13
  have h3 := H3.out.1.below hb5
  have h10 := H3.out.2.below hb5
  have hCW : CW w ((W3.alloc (.cells (cells8 (List.replicate 32 0)).toArray 29)).alloc (.cells (cells8 (List.replicate 32 0)).toArray 29)) z4 z5 z7 z9 z10 W3.heap.size (W3.heap.size + 1) root k which false vL S zeroSum zeroSum := by
    have o := h3.ord
    have hl := H3.out.2.lt
    exact ⟨h3.bw, h3.r4, h3.r5, h3.r7, h10, h3.c9, h3.sL, h3.own, r12, t12, r13, t13, by have := HZ.out.2; omega⟩
  have HCW := Lib.hid (And.intro (hCW.sides X0 (em 0)) (And.intro t12 (World.there_setCells t13 W3.heap.size 0 (cellsOf X0))))
  clear hb4 hs4 hb5 t12 t13 r12 r13 h3 h10 hCW
  go_wp2_with (first
    | (refine wpList_store_sum rfl _ _ rfl W3.heap.size 0 X0 rfl rfl HCW.out.2.1 ?_)
    | (refine wpList_store_sum rfl _ _ rfl (W3.heap.size + 1) 0 (em 0) rfl rfl HCW.out.2.2 ?_))
  refine hT.out _ _ ?_
  exact check_loop w _ z4 z5 z7 z9 z10 W3.heap.size (W3.heap.size + 1) root k which _ _ vL S X0 R (by rw [HR.out, HX.out]; rfl) HCW.out.1 HS.out.1
theorem row_of {w : World} {base : Nat} {e : TypeId} {g n size : Nat} {xs : List Value} (h : w.ownsRow base e size (.slice (some ⟨g, 0, none⟩) n n) n xs) : ∃ cur, w.heap[g]? = some (.cells cur e (0, 0)) ∧ cur.size = n * size := by
  rcases h.2 with ⟨h1, _⟩ | ⟨g', cap, cur, h1, _, h2, _, _, h3, _⟩
  · cases h1
  · simp only [Value.slice.injEq, Option.some.injEq, Addr.mk.injEq, and_true, true_and] at h1
    obtain ⟨rfl, rfl⟩ := h1
    exact ⟨cur, h2, h3⟩
set_option maxRecDepth 100000 in
set_option maxHeartbeats 4000000 in
theorem check_start {u6 u9 u10 u11 u12 u13 u14 u15 u16 u17 u18 u19 u20 u21 u22 u23 u24 u25 u26 u27 u28 u29 u30 u31 u32 u33 u34 u35 u36 u37 u38 u39 u40 u41 u42 u43 u44 u45 u46 u47 u48 u49 u50 u51 u52 u53 u54 u55 u56 u57 u58 u59 u60 u61 u62 u63 u64 u65 u66 u67 u68 u69 u70 u71 : Value} (w W : World) (z4 z5 z7 : Nat) (root k which : Sum) (a0 : Option Addr) (n0 c0 : Nat) (v3 vS : Value) (bs : List UInt8) (S : List Sum) (R : Bool) (hR : R = checkOf root k bs which S)
    (hbw : Below w.heap.size w W) (r4 : W.rangeAt z4 0 (cellsOf root)) (r5 : W.rangeAt z5 0 (cellsOf k)) (r7 : W.rangeAt z7 0 (cellsShow which vS)) (hv : BytesAt W (.slice a0 n0 c0) bs) (hs : SumsAt W vS S) (ord : w.heap.size ≤ z4 ∧ z4 < z5 ∧ z5 < z7 ∧ z7 < W.heap.size)
    (hS : S.length < 100000) (hbs : bs.length < 140737488355000) : Code.wp Try.prog (dropN 1 checkCode) (bodyPost Try.prog Try.f39 fun e w' => e = .returned (.bool R) ∧ Below w.heap.size w w') ⟨#[sv root, sv k, .slice a0 n0 c0, v3, .pointer (some ⟨z4, 0, none⟩), .pointer (some ⟨z5, 0, none⟩), u6, .pointer (some ⟨z7, 0, none⟩), .bool false, u9, u10, u11, u12, u13, u14, u15, u16, u17, u18, u19, u20, u21, u22, u23, u24, u25, u26, u27, u28, u29, u30, u31, u32, u33, u34, u35, u36, u37, u38, u39, u40, u41, u42, u43, u44, u45, u46, u47, u48, u49, u50, u51, u52, u53, u54, u55, u56, u57, u58, u59, u60, u61, u62, u63, u64, u65, u66, u67, u68, u69, u70, u71], []⟩ W := by
  obtain ⟨i0, z0', hi0, hz0, hsz0, hby0, hzs0⟩ := info_sum
  have HI := Lib.hid (And.intro hi0 (And.intro hz0 (And.intro hsz0 (And.intro hby0 hzs0))))
  obtain ⟨aS, cS, rfl, _, _, _⟩ := id hs
  obtain ⟨N, hN⟩ : ∃ N, N = S.length := ⟨_, rfl⟩
  rw [← hN] at r7 hs
  have g1 : W.cell? ⟨z7, 32, none⟩ = some (.slice aS N cS) := by
    have := r7 32 (.slice aS N cS) (by rw [cellsShow, List.getElem?_append_right (by rw [length_cellsOf]; omega), length_cellsOf]; rfl)
    rwa [Nat.zero_add] at this
  have H0 := Lib.hid (And.intro hbw (And.intro r4 (And.intro r5 (And.intro r7 (And.intro hv (And.intro hs ord))))))
  have HR := Lib.hid (And.intro hR (And.intro hS (And.intro hbs hN)))
  have hN5 : N < 100000 := by omega
  have HN5 := Lib.hid hN5
  clear hi0 hz0 hsz0 hby0 hzs0 hbw r4 r5 r7 hv hs ord hR hS hbs hN hN5
  conv => arg 2; whnf
  refine Alm.wp_cut 2 ?_
  intro T hT
  dsimp only [cutN]
  replace hT := Lib.hid hT
  have HG := Lib.hid trivial
  go_wp2_with (first
    | (have _ := HG; at_make; refine wpList_make_full W rfl _ _ _ rfl W.heap.size 29 i0 z0' 32 Try.underlying57 HI.out.1 HI.out.2.1 HI.out.2.2.1 .i64 .i64 (N : Int) (N : Int) N rfl rfl rfl rfl (by rw [HI.out.2.2.2.1]; have := HN5.out; omega) (by unfold maxLen; have := HN5.out; omega) (Nat.le_refl _) ?_; intro W2 ho hg; have H2 := Lib.hid (And.intro (Keeps.below (B := W.heap.size) (Keeps.of_grown (X := fun _ => False) hg (fun k hk => by cases hk)) (Nat.le_refl _) (fun _ h => h.elim)) ho); have hb3 := al (Below.refl W2.heap.size W2) (.cells #[.slice (some ⟨W.heap.size, 0, none⟩) N N] 57); have hb23 := H2.out.1.trans (hb3.mono H2.out.1.size); have g3 := (Keeps.of_below (X := fun _ => False) hb23).cell g1 (fun h => h); have hv3 := var_new W2 (.slice (some ⟨W.heap.size, 0, none⟩) N N) 57; have g4 := hv3.cell; obtain ⟨cur, hc1, hc2⟩ := row_of H2.out.2; have H3 := Lib.hid (And.intro hb23 (And.intro hv3 (And.intro ((Keeps.of_below (X := fun _ => False) hb3).heap hc1 (fun h => h)) (And.intro hc2 (And.intro (H0.out.2.2.2.2.2.1.below hb23 (Nat.le_refl _)) (own_lt H2.out.2 rfl)))))); clear HG ho hg hb3 hb23 hv3 hc1 hc2)
    | (have _ := H3; refine wpList_copy_sums rfl _ _ rfl W.heap.size N cS aS S rfl rfl H3.out.2.2.2.2.1 HR.out.2.2.2 cur 29 H3.out.2.2.1 H3.out.2.2.2.1 ?_; intro W4 hr4 hk4; have H4 := Lib.hid (And.intro hr4 hk4); clear hr4 hk4))
  have hball : Below W.heap.size W W4 := H3.out.1.trans (H4.out.2.below H3.out.1.size (fun k hk => by rw [hk]; exact Nat.le_refl _))
  have kk := Keeps.of_below (X := fun _ => False) hball
  have o := H0.out.2.2.2.2.2.2
  have hlt := H3.out.2.2.2.2.2
  refine hT.out _ _ ?_
  exact check_mid w W4 z4 z5 z7 W2.heap.size root k which a0 n0 c0 v3 (.slice (some ⟨W.heap.size, 0, none⟩) N N) bs S R HR.out.1
    ⟨H0.out.1.trans (hball.mono H0.out.1.size), kk.range H0.out.2.1 (fun h => h), kk.range H0.out.2.2.1 (fun h => h), kk.range (range_left_ H0.out.2.2.2.1) (fun h => h), H3.out.2.1.keep H4.out.2 (by omega),
      ⟨_, N, by rw [HR.out.2.2.2], by rw [HR.out.2.2.2]; exact Nat.le_refl _, by unfold maxLen; have := HN5.out; omega, .inr ⟨_, 0, rfl, H4.out.1⟩⟩, bytes_below H0.out.2.2.2.2.1 hball (Nat.le_refl _), fun g hg => by
        simp only [Value.ownBlock, Option.some.injEq] at hg
        omega, by omega⟩ HR.out.2.1 HR.out.2.2.1
set_option maxRecDepth 100000 in
theorem scheck_any (root k which : Sum) (v vS : Value) (bs : List UInt8) (S : List Sum) (w : World) (hv : BytesAt w v bs) (hs : SumsAt w vS S) (hS : S.length < 100000) (hbs : bs.length < 140737488355000) :
    Calls Try.prog 39 #[sv root, sv k, v, shV which vS] w fun e w' => e = .returned (.bool (checkOf root k bs which S)) ∧ Below w.heap.size w w' := by
  obtain ⟨a0, c0, rfl, _, _, _⟩ := id hv
  obtain ⟨n0, hn0⟩ : ∃ n, n = bs.length := ⟨_, rfl⟩
  rw [← hn0] at hv ⊢
  obtain ⟨R, hR⟩ : ∃ R, R = checkOf root k bs which S := ⟨_, rfl⟩
  rw [← hR]
  have hs1 : (w.alloc (.cells (cellsOf root).toArray 29)).heap.size = w.heap.size + 1 := Array.size_push _
  have hs2 : ((w.alloc (.cells (cellsOf root).toArray 29)).alloc (.cells (cellsOf k).toArray 29)).heap.size = w.heap.size + 1 + 1 := by rw [World.size_alloc, hs1]
  have hs3 : (((w.alloc (.cells (cellsOf root).toArray 29)).alloc (.cells (cellsOf k).toArray 29)).alloc (.cells (cellsShow which vS).toArray 59)).heap.size = w.heap.size + 1 + 1 + 1 := by rw [World.size_alloc, hs2]
  have hB := al (al (al (Below.refl w.heap.size w) (.cells (cellsOf root).toArray 29)) (.cells (cellsOf k).toArray 29)) (.cells (cellsShow which vS).toArray 59)
  have r1 := World.rangeAt_alloc (World.rangeAt_alloc (range_new w (cellsOf root).toArray 29 _ rfl) (.cells (cellsOf k).toArray 29)) (.cells (cellsShow which vS).toArray 59)
  have r2 := range_new (w.alloc (.cells (cellsOf root).toArray 29)) (cellsOf k).toArray 29 _ rfl
  rw [hs1] at r2
  have r2' := World.rangeAt_alloc r2 (.cells (cellsShow which vS).toArray 59)
  have r3 := range_new ((w.alloc (.cells (cellsOf root).toArray 29)).alloc (.cells (cellsOf k).toArray 29)) (cellsShow which vS).toArray 59 _ rfl
  rw [hs2] at r3
  have HX := Lib.hid (And.intro hR (And.intro hB (And.intro r1 (And.intro r2' (And.intro r3 (And.intro (bytes_below hv hB (Nat.le_refl _)) (And.intro (hs.below hB (Nat.le_refl _)) (And.intro hs3 (And.intro hS hbs)))))))))
  clear hR hB r1 r2 r2' r3 hv hs hs1 hs2 hs3 hS hbs hn0
  unfold shV
  go_enter Try.func39, Try.ntmps39
  refine Alm.wp_cut 1 ?_
  intro T hT
  dsimp only [cutN]
  replace hT := Lib.hid hT
  go_wp2_with fail
  refine hT.out _ _ ?_
  exact check_start w _ w.heap.size (w.heap.size + 1) (w.heap.size + 1 + 1) root k which a0 n0 c0 _ vS bs S R HX.out.1 HX.out.2.1 HX.out.2.2.1 HX.out.2.2.2.1 HX.out.2.2.2.2.1 HX.out.2.2.2.2.2.1 HX.out.2.2.2.2.2.2.1 (by have := HX.out.2.2.2.2.2.2.2.1; omega) HX.out.2.2.2.2.2.2.2.2.1 HX.out.2.2.2.2.2.2.2.2.2
end Go.Proofs.Ytfmgoehnbaiamaa
-- Walks: almonerref15.less, Put (that it comes to an end, with one pair more at most).
namespace Go.Proofs.Ytfmgoehnbaiamaa
theorem less_bytes : ∀ x y : List UInt8, Op.bytesLess x y = Go.bytesBefore x y
  | [], [] => rfl
  | _ :: _, [] => rfl
  | [], _ :: _ => rfl
  | a :: x, b :: y => by rw [Op.bytesLess, Go.bytesBefore, less_bytes x y]
def strOf (k : Sum) : ByteArray := ⟨k.toList.toArray⟩
theorem size_strOf (k : Sum) : (strOf k).size = 32 := by show k.toList.toArray.size = 32; simp
theorem conv_key {w : World} {b o : Nat} {k : Sum} (h : w.rangeAt b o (cellsOf k)) : (convert 34 9 (.slice (some ⟨b, o, none⟩) 32 32)).run Try.prog w = .ok (.string (strOf k)) w := by
  have h2 := Lib.run_convert_whole (P := Try.prog) w 34 5 9 Try.underlying34 Try.underlying5 Try.underlying9 b o (strOf k) (fun i hi => by
    have hi' : i < 32 := by rw [size_strOf] at hi; exact hi
    have := h i _ (cell_key k hi')
    rw [this]
    congr 2
    show k.toList.getD i 0 = (k.toList.toArray)[i]'_
    simp [List.getD_eq_getElem?_getD, hi']
    rfl) 32
  rw [size_strOf] at h2
  exact h2
theorem lss_keys (a b : Sum) (w : World) : (binOp .lss 9 (.string (strOf a)) (.string (strOf b))).run Try.prog w = .ok (.bool (decide (Keys.kn a < Keys.kn b))) w := by
  have e : ∀ k : Sum, (strOf k).toList = k.toList := fun k => by rw [Lib.toList_data]; show k.toList.toArray.toList = _; simp
  have hb : Op.bytesLess (strOf a).toList (strOf b).toList = decide (Keys.kn a < Keys.kn b) := by
    rw [e, e, less_bytes, Keys.before_kn]
  simp [binOp, Op.stringOp, hb]
theorem less_strs (a b : Sum) : Op.bytesLess (strOf a).toList (strOf b).toList = decide (Keys.kn a < Keys.kn b) := by
  have e : ∀ k : Sum, (strOf k).toList = k.toList := fun k => by rw [Lib.toList_data]; show k.toList.toArray.toList = _; simp
  rw [e, e, less_bytes, Keys.before_kn]
set_option maxRecDepth 100000 in
theorem less_any (a b : Sum) (w : World) : Calls Try.prog 84 #[sv a, sv b] w fun e w' => e = .returned (.bool (decide (Keys.kn a < Keys.kn b))) ∧ Below w.heap.size w w' := by
  have hs1 : (w.alloc (.cells (cellsOf a).toArray 29)).heap.size = w.heap.size + 1 := Array.size_push _
  have hb0 := al (al (Below.refl _ w) (.cells (cellsOf a).toArray 29)) (.cells (cellsOf b).toArray 29)
  have r1 := World.rangeAt_alloc (range_new w (cellsOf a).toArray 29 _ rfl) (.cells (cellsOf b).toArray 29)
  have r2 := range_new (w.alloc (.cells (cellsOf a).toArray 29)) (cellsOf b).toArray 29 _ rfl
  rw [hs1] at r2
  have H0 := Lib.hid (And.intro hb0 (And.intro r1 r2))
  have hlt := lss_keys a b
  obtain ⟨s1, hs1'⟩ : ∃ s, s = strOf a := ⟨_, rfl⟩
  obtain ⟨s2, hs2'⟩ : ∃ s, s = strOf b := ⟨_, rfl⟩
  obtain ⟨r, hr⟩ : ∃ r, r = decide (Keys.kn a < Keys.kn b) := ⟨_, rfl⟩
  rw [← hs1', ← hs2', ← hr] at hlt
  rw [← hr]
  have HR := Lib.hid (show Op.bytesLess s1.toList s2.toList = r by rw [hs1', hs2', hr]; exact less_strs a b)
  have HS := Lib.hid (And.intro hs1' hs2')
  clear hs1 hb0 r1 r2 hs1' hs2' hr
  go_enter Try.func84, Try.ntmps84
  go_wp2_with fail
  have HD := Lib.hid (show ((w.alloc (.cells (cellsOf a).toArray 29)).alloc (.cells (cellsOf b).toArray 29)).drew.rangeAt w.heap.size 0 (cellsOf a) ∧ ((w.alloc (.cells (cellsOf a).toArray 29)).alloc (.cells (cellsOf b).toArray 29)).drew.rangeAt (w.heap.size + 1) 0 (cellsOf b) from ⟨H0.out.2.1, H0.out.2.2⟩)
  refine wp_region_sched (fun V => V.rangeAt w.heap.size 0 (cellsOf a) ∧ V.rangeAt (w.heap.size + 1) 0 (cellsOf b)) [.t 0, .s 1, .t 2, .s 3, .t 4, .t 5] (by kernel_rfl) (by kernel_rfl) (by intro c a d v w h; cases d <;> exact h) ?_
  have HBD := Lib.hid H0.out.1.drew
  clear H0
  generalize World.drew _ = V at *
  iterate 1
    refine wpS_t rfl (v := ?_) (by rfl) (fun W => ?_) ?_
    rotate_left
    · go_simp
      try rfl
    try simp only [Act.put, List.setIfInBounds_toArray, List.set_cons_zero, List.set_cons_succ]
  refine wpS_s (by exact HD.out) rfl (v := .string s1) (by rfl) (fun W hW => ?_) ?_
  · have hk := conv_key hW.1
    rw [← HS.out.1] at hk
    go_simp
  try simp only [Act.put, List.setIfInBounds_toArray, List.set_cons_zero, List.set_cons_succ]
  iterate 1
    refine wpS_t rfl (v := ?_) (by rfl) (fun W => ?_) ?_
    rotate_left
    · go_simp
      try rfl
    try simp only [Act.put, List.setIfInBounds_toArray, List.set_cons_zero, List.set_cons_succ]
  refine wpS_s (by exact HD.out) rfl (v := .string s2) (by rfl) (fun W hW => ?_) ?_
  · have hk := conv_key hW.2
    rw [← HS.out.2] at hk
    go_simp
  try simp only [Act.put, List.setIfInBounds_toArray, List.set_cons_zero, List.set_cons_succ]
  iterate 2
    refine wpS_t rfl (v := ?_) (by rfl) (fun W => ?_) ?_
    rotate_left
    · go_simp
      try rfl
    try simp only [Act.put, List.setIfInBounds_toArray, List.set_cons_zero, List.set_cons_succ]
  refine wpS_done ?_
  go_wp2_with fail
  refine bodyPost_ret (results_tmp rfl _ _ _) rfl ⟨?_, HBD.out⟩
  exact congrArg (fun x => Ending.returned (.bool x)) HR.out
/-- append(nil, v...) of bytes. -/
theorem wp_append_nil_bytes {w : World} {o : Oper} {a : Act} {K : Act → World → Prop} {Q : Exit → Act → World → Prop} (s x : Operand)
    (ho : o.op = .call { callee := .builtin .append, args := #[s, x], argTypes := #[34, 34] }) (hs : a.eval s = .slice none 0 0) (v : Value) (bs : List UInt8) (hx : a.eval x = v) (hv : BytesAt w v bs) (hl : bs.length < 4000000000)
    (h : ∀ (a' : Option Addr) (c' : Nat) (w' : World), Below w.heap.size w w' → K (a.put o.dst (.slice a' bs.length c')) w') : o.wp Try.prog a w K Q := by
  obtain ⟨i0, hi0, hz0⟩ := Option.map_eq_some_iff.1 infoByteZ
  simp only [Prod.mk.injEq] at hz0
  obtain ⟨ad, cap, rfl, h1, h2, h3⟩ := hv
  by_cases hb : bs = []
  · subst hb
    have hrun : (Builtin.append_ #[34, 34] o.type #[.slice none 0 0, .slice ad 0 cap]).run Try.prog w = .ok (.slice none 0 0) w := by
      cases ad <;> simp [Builtin.append_, run_underlying Try.underlying34, sizeOf, typeInfo, hi0, Builtin.lenOf, Builtin.firstCells, loadCells, loadCellsFrom]
    unfold Oper.wp
    simp [execOp, ho, resolve, invoke, builtin, hs, hx, hrun, Result.andThen]
    exact h none 0 w (Below.refl _ _)
  · obtain ⟨b, off, rfl, hr⟩ := h3.resolve_left hb
    refine wp_append_own w s x _ ho w.heap.size 5 i0 (.int .u8 0) 1 1 Try.underlying34 hi0 hz0.1 hz0.2.1 hz0.2.2 rfl (by decide) (.slice none 0 0) 0 [] hs (World.ownsRow_nil _ _ _ _) ⟨b, off, none⟩ bs.length cap (cells8 bs) hx (by rw [length_cells8]; omega) (fun j u hj => by rw [Addr.add_mid]; exact hr j u hj) (oneCell_cells8 _) (by unfold maxLen; omega) (by omega) (Nat.le_refl _) ?_
    intro v' w' ho' hg' _
    rw [Nat.zero_add] at ho'
    have hform : ∃ a' c', v' = .slice a' bs.length c' := by
      rcases ho'.2 with ⟨rfl, e0⟩ | ⟨g, cap', cur, rfl, _⟩
      · exact ⟨none, 0, by rw [e0]⟩
      · exact ⟨_, _, rfl⟩
    obtain ⟨a', c', rfl⟩ := hform
    exact h a' c' w' (Keeps.below (B := w.heap.size) (Keeps.of_grown (X := fun _ => False) hg' (fun k hk => by cases hk)) (Nat.le_refl _) (fun _ h => h.elim))
/-- Pairs in memory, whatever their bytes. -/
def RawAt (w : World) (v : Value) (n : Nat) : Prop := ∃ (a : Option Addr) (cap : Nat) (cs : List PE), v = .slice a n cap ∧ n ≤ cap ∧ cap ≤ maxLen ∧ cs.length = n ∧ (n = 0 ∨ ∃ b o, a = some ⟨b, o, none⟩ ∧ w.rangeAt b o (cellsP cs))
theorem RawAt.below {w w' : World} {v : Value} {n : Nat} (h : RawAt w v n) (hb : Below w.heap.size w w') : RawAt w' v n := by
  obtain ⟨a, cap, cs, rfl, h1, h2, h3, h4⟩ := h
  refine ⟨a, cap, cs, rfl, h1, h2, h3, ?_⟩
  rcases h4 with h4 | ⟨b, o, rfl, hr⟩
  · exact .inl h4
  · exact .inr ⟨b, o, rfl, (Keeps.of_below (X := fun _ => False) hb).range hr (fun h => h)⟩
theorem raw_one {w : World} {v : Value} {n : Nat} (h : RawAt w v n) {i : Nat} (hi : i < n) : ∃ (b o cap : Nat) (y : PE), v = .slice (some ⟨b, o, none⟩) n cap ∧ w.rangeAt b (o + i * 33) (encP y) := by
  obtain ⟨a, cap, cs, rfl, h1, h2, h3, h4⟩ := h
  obtain ⟨b, o, rfl, hr⟩ := h4.resolve_left (by omega)
  exact ⟨b, o, cap, _, rfl, rangeP_at hr (by omega)⟩
theorem raw_own {w : World} {base : Nat} {a : Option Addr} {m c : Nat} {cs : List PE} (h : w.ownsRow base 36 33 (.slice a m c) m (cellsP cs)) (hm : cs.length = m) : RawAt w (.slice a m c) m := by
  rcases h.2 with ⟨h1, h2⟩ | ⟨g, cap, cur, h1, _, hg, hnc, hcm, hsz, htk⟩
  · simp only [Value.slice.injEq] at h1
    obtain ⟨rfl, rfl, rfl⟩ := h1
    exact ⟨none, 0, cs, rfl, Nat.le_refl _, by unfold maxLen; omega, hm, .inl rfl⟩
  · simp only [Value.slice.injEq, true_and] at h1
    obtain ⟨rfl, rfl⟩ := h1
    refine ⟨_, c, cs, rfl, hnc, hcm, hm, .inr ⟨g, 0, rfl, fun j u hj => ?_⟩⟩
    have := h.cells (g := g) rfl j u hj
    rwa [Addr.add_mid] at this
set_option maxRecDepth 100000 in
set_option maxHeartbeats 4000000 in
theorem rput_any (k : Sum) (bs : List UInt8) (v vl : Value) (N : Nat) (w : World) (hl : RawAt w vl N) (hv : BytesAt w v bs) (hb : bs.length < 4000000000) (hN : N < 100000) :
    Calls Try.prog 65 #[vl, sv k, v] w fun e w' => ∃ v' n', e = .returned v' ∧ RawAt w' v' n' ∧ n' ≤ N + 1 ∧ Below w.heap.size w w' := by
  have hb0 := al (Below.refl _ w) (.cells (cellsOf k).toArray 29)
  obtain ⟨z, hz⟩ : ∃ z, z = w.heap.size := ⟨_, rfl⟩
  have hr0 : (w.alloc (.cells (cellsOf k).toArray 29)).rangeAt z 0 (cellsOf k) := by rw [hz]; exact range_new w (cellsOf k).toArray 29 _ rfl
  have H0 := Lib.hid (And.intro hr0 (And.intro (hl.below hb0) (bytes_below hv hb0 (Nat.le_refl _))))
  have HBW := Lib.hid hb0
  have HZ := Lib.hid hz
  have HBS := Lib.hid hb
  have HNB := Lib.hid hN
  obtain ⟨al_, cl, _, rfl, hl1, _, _, _⟩ := id hl
  obtain ⟨a0, c0, rfl, _, _, _⟩ := id hv
  obtain ⟨B, hB⟩ : ∃ B, B = bs.length := ⟨_, rfl⟩
  rw [← hB] at H0 ⊢
  have HBB := Lib.hid hB
  have k1 : (N : Int) ≤ (cl : Int) := by omega
  clear hb0 hz hr0 hl hv hb hN hB
  obtain ⟨db0, hdb0⟩ : ∃ d : Bool, d = decide (B = 0) := ⟨_, rfl⟩
  have e1 : decide ((B : Int) = 0) = db0 := by rw [hdb0, decide_eq_decide]; omega
  have e2 : decide (B = 0) = db0 := hdb0.symm
  have e3 : ((B : Int) == 0) = db0 := by rw [hdb0, Bool.eq_iff_iff, beq_iff_eq, decide_eq_true_eq]; omega
  clear hdb0
  go_enter Try.func65, Try.ntmps65
  go_wp2_with fail
  rw [← HZ.out]
  generalize w.alloc (.cells (cellsOf k).toArray 29) = W0 at *
  clear e1 e2 e3
  go_loopw [7, 8, 9] (fun out dn iv W => ∃ (j m : Nat) (cs : List PE) (db : Bool) (ao : Option Addr) (co : Nat), j ≤ N ∧ iv = .int .i64 (j : Int) ∧ dn = .bool db ∧ out = .slice ao m co ∧ cs.length = m ∧ m ≤ j + (if db then 1 else 0) ∧ Below W0.heap.size W0 W ∧ W.ownsRow W0.heap.size 36 33 (.slice ao m co) m (cellsP cs)) (fun _ _ iv _ => N - (intOf iv).toNat)
  case atStart => exact ⟨0, 0, [], db0, none, 0, by omega, rfl, rfl, rfl, rfl, Nat.zero_le _, Below.refl _ _, World.ownsRow_nil _ _ _ _⟩
  case round =>
    obtain ⟨j, m, cs, db, ao, co, hj, rfl, rfl, rfl, hcs, hm, hB, hO⟩ := hrel
    have HR := Lib.hid (And.intro hB (And.intro hO (And.intro hcs hm)))
    clear hB hO hcs hm
    by_cases hlt : j < N
    · have c1 : decide (j < N) = true := by simpa using hlt
      have c1' : decide ((j : Int) < (N : Int)) = true := by simp; omega
      have hj0 : (0 : Int) ≤ (j : Int) := by omega
      have hlt' : (j : Int) < (N : Int) := by omega
      have HJ := Lib.hid (And.intro hj hlt)
      clear hj
      cases db with
      | true =>
        go_wp2_with fail
        refine wp_region_sched (fun V => True) [.t 0, .t 1, .t 2, .t 4, .t 5, .t 6, .t 7, .s 3, .e 8 true, .e 9 false, .t 10] (by kernel_rfl) (by kernel_rfl) (by intro c a d v w h; cases d <;> exact h) ?_
        have HR3 := Lib.hid (And.intro (HR.out.1.trans (Below.refl _ _).drew) (And.intro ((Keeps.of_below (X := fun _ => False) (Below.refl _ _).drew).owns HR.out.2.1 (fun _ _ h => h)) HR.out.2.2))
        clear HR
        generalize World.drew _ = V9 at *
        have HR := Lib.hid HR3.out
        clear HR3
        iterate 3
          refine wpS_t rfl (v := ?_) (by rfl) (fun W => ?_) ?_
          rotate_left
          · go_simp
            try rfl
          try simp only [Act.put, List.setIfInBounds_toArray, List.set_cons_zero, List.set_cons_succ]
        iterate 4
          refine wpS_t_skip rfl (by rfl) ?_
          try simp only [Act.put, List.setIfInBounds_toArray, List.set_cons_zero, List.set_cons_succ]
        iterate 1
          refine wpS_s_skip (trivial) rfl (by rfl) ?_
          try simp only [Act.put, List.setIfInBounds_toArray, List.set_cons_zero, List.set_cons_succ]
        refine wpS_k_skip (trivial) rfl (by rfl) ?_
        try simp only [Act.put, List.setIfInBounds_toArray, List.set_cons_zero, List.set_cons_succ]
        refine wpS_e_skip rfl (by rfl) ?_
        try simp only [Act.put, List.setIfInBounds_toArray, List.set_cons_zero, List.set_cons_succ]
        iterate 1
          refine wpS_t rfl (v := ?_) (by rfl) (fun W => ?_) ?_
          rotate_left
          · go_simp
            try rfl
          try simp only [Act.put, List.setIfInBounds_toArray, List.set_cons_zero, List.set_cons_succ]
        refine wpS_done ?_
        go_wp2_with fail
        obtain ⟨ba, oa, ca, y, he1, hr1⟩ := raw_one (H0.out.2.1.below (HR.out.1.trans (Below.refl _ _).drew)) (i := j) HJ.out.2
        simp only [Value.slice.injEq] at he1
        obtain ⟨rfl, -, rfl⟩ := he1
        have hkd := (Keeps.of_below (X := fun _ => False) (HR.out.1.trans (Below.refl _ _).drew)).range H0.out.1 (fun h => h)
        have HXY := Lib.hid (And.intro hr1 hkd)
        have heq := eq_sums y.1 k
        clear hr1 hkd
        refine wp_region_sched (fun V => V.rangeAt ba (oa + j * 33) (cellsOf y.1)) [.t 0, .t 1, .t 2, .t 3, .s 4, .e 5 true, .t 6] (by kernel_rfl) (by kernel_rfl) (by intro c a d v w h; cases d <;> exact h) ?_
        have HR2 := Lib.hid (And.intro (HR.out.1.trans (Below.refl _ _).drew) (And.intro ((Keeps.of_below (X := fun _ => False) (Below.refl _ _).drew).owns HR.out.2.1 (fun _ _ h => h)) HR.out.2.2))
        clear HR
        generalize World.drew _ = VV at *
        by_cases hky : y.1 = k
        · rw [decide_eq_true hky] at heq
          clear hky
          iterate 4
            refine wpS_t rfl (v := ?_) (by rfl) (fun W => ?_) ?_
            rotate_left
            · go_simp
              try rfl
            try simp only [Act.put, List.setIfInBounds_toArray, List.set_cons_zero, List.set_cons_succ]
          refine wpS_load_sum (by exact encP_key HXY.out.1) rfl (by rfl) _ (by rfl) ba (oa + j * 33) (by rfl) y.1 (fun V hV => hV) ?_
          try simp only [Act.put, List.setIfInBounds_toArray, List.set_cons_zero, List.set_cons_succ]
          refine wpS_k rfl (by rfl) (fun K hK => ?_)
          refine wp_load_sum _ (by rfl) z 0 (by rfl) k HXY.out.2 ?_
          refine hK _ _ ⟨by exact encP_key HXY.out.1, ?_⟩; clear hK K
          try simp only [Act.put, List.setIfInBounds_toArray, List.set_cons_zero, List.set_cons_succ]
          iterate 1
            refine wpS_t rfl (v := ?_) (by rfl) (fun W => ?_) ?_
            rotate_left
            · go_simp
              try rfl
            try simp only [Act.put, List.setIfInBounds_toArray, List.set_cons_zero, List.set_cons_succ]
          refine wpS_done ?_
          clear heq HXY
          have hwj : wrap64 ((j : Int) + 1) = ((j + 1 : Nat) : Int) := by have := HNB.out; have := HJ.out; unfold wrap64; omega
          go_wp2_with fail
          try rw [hwj]
          clear hwj
          exact ⟨⟨j + 1, m, cs, true, ao, co, by have := HJ.out; omega, rfl, rfl, rfl, HR2.out.2.2.1, by have := HR2.out.2.2.2; simp only [if_true] at this ⊢; omega, HR2.out.1, HR2.out.2.1⟩, by simp only [intOf]; have := HJ.out; omega⟩
        · rw [decide_eq_false hky] at heq
          clear hky
          iterate 4
            refine wpS_t rfl (v := ?_) (by rfl) (fun W => ?_) ?_
            rotate_left
            · go_simp
              try rfl
            try simp only [Act.put, List.setIfInBounds_toArray, List.set_cons_zero, List.set_cons_succ]
          refine wpS_load_sum (by exact encP_key HXY.out.1) rfl (by rfl) _ (by rfl) ba (oa + j * 33) (by rfl) y.1 (fun V hV => hV) ?_
          try simp only [Act.put, List.setIfInBounds_toArray, List.set_cons_zero, List.set_cons_succ]
          refine wpS_k rfl (by rfl) (fun K hK => ?_)
          refine wp_load_sum _ (by rfl) z 0 (by rfl) k HXY.out.2 ?_
          refine hK _ _ ⟨by exact encP_key HXY.out.1, ?_⟩; clear hK K
          try simp only [Act.put, List.setIfInBounds_toArray, List.set_cons_zero, List.set_cons_succ]
          iterate 1
            refine wpS_t rfl (v := ?_) (by rfl) (fun W => ?_) ?_
            rotate_left
            · go_simp
              try rfl
            try simp only [Act.put, List.setIfInBounds_toArray, List.set_cons_zero, List.set_cons_succ]
          refine wpS_done ?_
          clear heq
          have h1 := HR2.out.2.2.2
          have h2 := HJ.out
          have h3 := HNB.out
          simp only [if_true] at h1
          have hmx : m + 1 < 1000000 := by omega
          have HMX := Lib.hid hmx
          clear h1 h2 h3 hmx
          have HG := Lib.hid trivial
          go_wp2_with (first
            | (have _ := HG; refine wpList_load_pair rfl _ rfl ba (oa + j * 33) rfl y HXY.out.1 ?_)
            | (have _ := HG; refine wpList_build_pairs rfl 1 _ rfl [y] rfl (by omega) (by omega) rfl ?_; have hb2 := al (Below.refl VV.heap.size VV) (.cells (cellsP [y]).toArray 36); have HP3 := Lib.hid (And.intro (HR2.out.1.trans (hb2.mono HR2.out.1.size)) (And.intro ((Keeps.of_below (X := fun _ => False) hb2).owns HR2.out.2.1 (fun _ _ h => h)) (range_new VV (cellsP [y]).toArray 36 _ rfl))); clear HG hb2; generalize VV.heap.size = y8 at *; generalize VV.alloc (.cells (cellsP [y]).toArray 36) = V2 at *)
            | (have _ := HP3; refine wpList_append_pairs rfl _ _ rfl W0.heap.size (.slice ao m co) cs [y] m 1 HR2.out.2.2.1 rfl rfl HP3.out.2.1 y8 0 1 rfl HP3.out.2.2 (by omega) HMX.out HP3.out.1.size ?_; intro g9 cap9 V3 ho9 hg9 _ _; have HQ9 := Lib.hid (And.intro (HP3.out.1.trans ((Keeps.of_grown (X := fun i => (Value.slice ao m co).ownBlock = some i) hg9 (fun k hk => hk)).below HP3.out.1.size (fun i hi => own_base HP3.out.2.1 i hi))) (And.intro ho9 (show (cs ++ [y]).length = m + 1 by rw [List.length_append, HR2.out.2.2.1]; rfl))); have HB9 := Lib.hid HR2.out.2.2.2; clear ho9 hg9 HP3 HR2))
          have hwj : wrap64 ((j : Int) + 1) = ((j + 1 : Nat) : Int) := by have := HNB.out; have := HJ.out; unfold wrap64; omega
          try rw [hwj]
          clear hwj
          exact ⟨⟨j + 1, m + 1, cs ++ [y], true, _, _, by have := HJ.out; omega, rfl, rfl, rfl, HQ9.out.2.2, by have := HB9.out; simp at this ⊢; omega, HQ9.out.1, HQ9.out.2.1⟩, by simp only [intOf]; have := HJ.out; omega⟩
      | false =>
        go_wp2_with fail
        obtain ⟨ba, oa, ca, y, he1, hr1⟩ := raw_one (H0.out.2.1.below (HR.out.1.trans (Below.refl _ _).drew)) (i := j) HJ.out.2
        simp only [Value.slice.injEq] at he1
        obtain ⟨rfl, -, rfl⟩ := he1
        have hkd := (Keeps.of_below (X := fun _ => False) (HR.out.1.trans (Below.refl _ _).drew)).range H0.out.1 (fun h => h)
        have HXY := Lib.hid (And.intro hr1 hkd)
        clear hr1 hkd
        refine wp_region_sched (fun V => V.rangeAt z 0 (cellsOf k)) [.t 0, .t 1, .t 2, .t 4, .t 5, .t 6, .t 7, .s 3, .e 8 true, .e 9 false, .t 10] (by kernel_rfl) (by kernel_rfl) (by intro c a d v w h; cases d <;> exact h) ?_
        have HR3 := Lib.hid (And.intro (HR.out.1.trans (Below.refl _ _).drew) (And.intro ((Keeps.of_below (X := fun _ => False) (Below.refl _ _).drew).owns HR.out.2.1 (fun _ _ h => h)) HR.out.2.2))
        clear HR
        generalize World.drew _ = V9 at *
        iterate 7
          refine wpS_t rfl (v := ?_) (by rfl) (fun W => ?_) ?_
          rotate_left
          · go_simp
            try rfl
          try simp only [Act.put, List.setIfInBounds_toArray, List.set_cons_zero, List.set_cons_succ]
        refine wpS_load_sum (by exact HXY.out.2) rfl (by rfl) _ (by rfl) z 0 (by rfl) k (fun V hV => hV) ?_
        try simp only [Act.put, List.setIfInBounds_toArray, List.set_cons_zero, List.set_cons_succ]
        refine wpS_k rfl (by rfl) (fun K hK => ?_)
        refine wp_load_sum _ (by rfl) ba (oa + j * 33) (by rfl) y.1 (encP_key HXY.out.1) ?_
        refine hK _ _ ⟨by exact HXY.out.2, ?_⟩; clear hK K
        try simp only [Act.put, List.setIfInBounds_toArray, List.set_cons_zero, List.set_cons_succ]
        refine wpS_e rfl (by rfl) (fun K hK => ?_)
        go_simp
        refine (less_any k y.1 V9).mono ?_
        rintro e V8 ⟨rfl, hb8⟩
        have HR := Lib.hid (And.intro (HR3.out.1.trans (hb8.mono HR3.out.1.size)) (And.intro ((Keeps.of_below (X := fun _ => False) hb8).owns HR3.out.2.1 (fun _ _ h => h)) HR3.out.2.2))
        clear hb8 HR3 HXY
        refine hK _ _ ?_; clear hK K
        try simp only [Act.put, List.setIfInBounds_toArray, List.set_cons_zero, List.set_cons_succ]
        generalize decide (Keys.kn k < Keys.kn y.1) = lt at *
        cases lt with
        | true =>
          iterate 1
            refine wpS_t rfl (v := ?_) (by rfl) (fun W => ?_) ?_
            rotate_left
            · go_simp
              try rfl
            try simp only [Act.put, List.setIfInBounds_toArray, List.set_cons_zero, List.set_cons_succ]
          refine wpS_done ?_
          go_wp2_with fail
          refine wp_region_sched (fun V => V.rangeAt z 0 (cellsOf k)) [.t 0, .t 2, .s 1, .e 3 true, .t 4, .e 5 false, .e 6 false, .t 7] (by kernel_rfl) (by kernel_rfl) (by intro c a d v w h; cases d <;> exact h) ?_
          have HP1 := Lib.hid (And.intro (HR.out.1.trans (Below.refl _ _).drew) ((Keeps.of_below (X := fun _ => False) (Below.refl _ _).drew).owns HR.out.2.1 (fun _ _ h => h)))
          have HM1 := Lib.hid HR.out.2.2
          clear HR
          generalize World.drew _ = V at *
          have HKV := Lib.hid ((Keeps.of_below (X := fun _ => False) HP1.out.1).range H0.out.1 (fun h => h))
          have HVV := Lib.hid (bytes_below H0.out.2.2 HP1.out.1 (Nat.le_refl _))
          iterate 2
            refine wpS_t rfl (v := ?_) (by rfl) (fun W => ?_) ?_
            rotate_left
            · go_simp
              try rfl
            try simp only [Act.put, List.setIfInBounds_toArray, List.set_cons_zero, List.set_cons_succ]
          refine wpS_load_sum (by exact HKV.out) rfl (by rfl) _ (by rfl) z 0 (by rfl) k (fun V hV => hV) ?_
          try simp only [Act.put, List.setIfInBounds_toArray, List.set_cons_zero, List.set_cons_succ]
          refine wpS_k rfl (by rfl) (fun K hK => ?_)
          refine wp_append_nil_bytes _ _ (by rfl) (by rfl) _ bs (by rfl) HVV.out HBS.out ?_
          intro ax cx V1 hb1
          have HP2 := Lib.hid (And.intro (HP1.out.1.trans (hb1.mono HP1.out.1.size)) (And.intro ((Keeps.of_below (X := fun _ => False) hb1).owns HP1.out.2 (fun _ _ h => h)) ((Keeps.of_below (X := fun _ => False) hb1).range HKV.out (fun h => h))))
          clear hb1 HP1 HKV HVV
          refine hK _ _ ⟨by exact HP2.out.2.2, ?_⟩; clear hK K
          try simp only [Act.put, List.setIfInBounds_toArray, List.set_cons_zero, List.set_cons_succ]
          refine wpS_t rfl (v := .agg (encP (k, ax, bs.length, cx)).toArray) (by rfl) (fun W => exec_build_pair _ rfl (k, ax, bs.length, cx) (by rfl) W) ?_
          try simp only [Act.put, List.setIfInBounds_toArray, List.set_cons_zero, List.set_cons_succ]
          obtain ⟨y7, hy7⟩ : ∃ y : PE, y = (k, ax, bs.length, cx) := ⟨_, rfl⟩
          rw [← hy7]
          clear hy7
          refine wpS_e rfl (by rfl) (fun K hK => ?_)
          refine wp_build_pairs 1 _ (by rfl) [y7] rfl (by omega) (by omega) (by rfl) ?_
          have hb2 := al (Below.refl V1.heap.size V1) (.cells (cellsP [y7]).toArray 36)
          have HP3 := Lib.hid (And.intro (HP2.out.1.trans (hb2.mono HP2.out.1.size)) (And.intro ((Keeps.of_below (X := fun _ => False) hb2).owns HP2.out.2.1 (fun _ _ h => h)) (range_new V1 (cellsP [y7]).toArray 36 _ rfl)))
          clear hb2 HP2
          refine hK _ _ ?_; clear hK K
          try simp only [Act.put, List.setIfInBounds_toArray, List.set_cons_zero, List.set_cons_succ]
          generalize V1.heap.size = y8 at *
          generalize V1.alloc (.cells (cellsP [y7]).toArray 36) = V2 at *
          refine wpS_e rfl (by rfl) (fun K hK => ?_)
          refine wp_append_pairs _ _ (by rfl) W0.heap.size (.slice ao m co) cs [y7] m 1 HM1.out.1 rfl (by rfl) HP3.out.2.1 y8 0 1 (by rfl) HP3.out.2.2 (by omega) (by have h1 := HM1.out.2; have := HNB.out; simp at h1; have := HJ.out; omega) HP3.out.1.size ?_
          intro g7 cap7 V3 ho9 hg7 _ _
          have HQ8 := Lib.hid (And.intro (HP3.out.1.trans ((Keeps.of_grown (X := fun i => (Value.slice ao m co).ownBlock = some i) hg7 (fun k hk => hk)).below HP3.out.1.size (fun i hi => own_base HP3.out.2.1 i hi))) (And.intro ho9 (And.intro (show (cs ++ [y7]).length = m + 1 by rw [List.length_append, HM1.out.1]; rfl) HM1.out.2)))
          clear ho9 hg7 HP3 HM1
          refine hK _ _ ?_; clear hK K
          try simp only [Act.put, List.setIfInBounds_toArray, List.set_cons_zero, List.set_cons_succ]
          iterate 1
            refine wpS_t rfl (v := ?_) (by rfl) (fun W => ?_) ?_
            rotate_left
            · go_simp
              try rfl
            try simp only [Act.put, List.setIfInBounds_toArray, List.set_cons_zero, List.set_cons_succ]
          refine wpS_done ?_
          go_wp2_with fail
          have HR := Lib.hid (And.intro HQ8.out.1 (And.intro HQ8.out.2.1 (And.intro HQ8.out.2.2.1 (show m + 1 ≤ j + (if true = true then 1 else 0) by have := HQ8.out.2.2.2; simp at this ⊢; omega))))
          clear HQ8
          obtain ⟨b2, o2, c2, y, he1, hr1⟩ := raw_one (H0.out.2.1.below (HR.out.1.trans (Below.refl _ _).drew)) (i := j) HJ.out.2
          simp only [Value.slice.injEq, Option.some.injEq, Addr.mk.injEq, and_true, true_and] at he1
          obtain ⟨⟨rfl, rfl⟩, rfl⟩ := he1
          have hkd := (Keeps.of_below (X := fun _ => False) (HR.out.1.trans (Below.refl _ _).drew)).range H0.out.1 (fun h => h)
          have HXY := Lib.hid (And.intro hr1 hkd)
          have heq := eq_sums y.1 k
          clear hr1 hkd
          refine wp_region_sched (fun V => V.rangeAt ba (oa + j * 33) (cellsOf y.1)) [.t 0, .t 1, .t 2, .t 3, .s 4, .e 5 true, .t 6] (by kernel_rfl) (by kernel_rfl) (by intro c a d v w h; cases d <;> exact h) ?_
          have HR2 := Lib.hid (And.intro (HR.out.1.trans (Below.refl _ _).drew) (And.intro ((Keeps.of_below (X := fun _ => False) (Below.refl _ _).drew).owns HR.out.2.1 (fun _ _ h => h)) HR.out.2.2))
          clear HR
          generalize World.drew _ = VV at *
          by_cases hky : y.1 = k
          · rw [decide_eq_true hky] at heq
            clear hky
            iterate 4
              refine wpS_t rfl (v := ?_) (by rfl) (fun W => ?_) ?_
              rotate_left
              · go_simp
                try rfl
              try simp only [Act.put, List.setIfInBounds_toArray, List.set_cons_zero, List.set_cons_succ]
            refine wpS_load_sum (by exact encP_key HXY.out.1) rfl (by rfl) _ (by rfl) ba (oa + j * 33) (by rfl) y.1 (fun V hV => hV) ?_
            try simp only [Act.put, List.setIfInBounds_toArray, List.set_cons_zero, List.set_cons_succ]
            refine wpS_k rfl (by rfl) (fun K hK => ?_)
            refine wp_load_sum _ (by rfl) z 0 (by rfl) k HXY.out.2 ?_
            refine hK _ _ ⟨by exact encP_key HXY.out.1, ?_⟩; clear hK K
            try simp only [Act.put, List.setIfInBounds_toArray, List.set_cons_zero, List.set_cons_succ]
            iterate 1
              refine wpS_t rfl (v := ?_) (by rfl) (fun W => ?_) ?_
              rotate_left
              · go_simp
                try rfl
              try simp only [Act.put, List.setIfInBounds_toArray, List.set_cons_zero, List.set_cons_succ]
            refine wpS_done ?_
            clear heq HXY
            have hwj : wrap64 ((j : Int) + 1) = ((j + 1 : Nat) : Int) := by have := HNB.out; have := HJ.out; unfold wrap64; omega
            go_wp2_with fail
            try rw [hwj]
            clear hwj
            exact ⟨⟨j + 1, (m + 1), (cs ++ [y7]), true, (some ⟨g7, 0, none⟩), cap7, by have := HJ.out; omega, rfl, rfl, rfl, HR2.out.2.2.1, by have := HR2.out.2.2.2; simp only [if_true] at this ⊢; omega, HR2.out.1, HR2.out.2.1⟩, by simp only [intOf]; have := HJ.out; omega⟩
          · rw [decide_eq_false hky] at heq
            clear hky
            iterate 4
              refine wpS_t rfl (v := ?_) (by rfl) (fun W => ?_) ?_
              rotate_left
              · go_simp
                try rfl
              try simp only [Act.put, List.setIfInBounds_toArray, List.set_cons_zero, List.set_cons_succ]
            refine wpS_load_sum (by exact encP_key HXY.out.1) rfl (by rfl) _ (by rfl) ba (oa + j * 33) (by rfl) y.1 (fun V hV => hV) ?_
            try simp only [Act.put, List.setIfInBounds_toArray, List.set_cons_zero, List.set_cons_succ]
            refine wpS_k rfl (by rfl) (fun K hK => ?_)
            refine wp_load_sum _ (by rfl) z 0 (by rfl) k HXY.out.2 ?_
            refine hK _ _ ⟨by exact encP_key HXY.out.1, ?_⟩; clear hK K
            try simp only [Act.put, List.setIfInBounds_toArray, List.set_cons_zero, List.set_cons_succ]
            iterate 1
              refine wpS_t rfl (v := ?_) (by rfl) (fun W => ?_) ?_
              rotate_left
              · go_simp
                try rfl
              try simp only [Act.put, List.setIfInBounds_toArray, List.set_cons_zero, List.set_cons_succ]
            refine wpS_done ?_
            clear heq
            have h1 := HR2.out.2.2.2
            have h2 := HJ.out
            have h3 := HNB.out
            simp only [if_true] at h1
            have hmx : (m + 1) + 1 < 1000000 := by omega
            have HMX := Lib.hid hmx
            clear h1 h2 h3 hmx
            have HG := Lib.hid trivial
            go_wp2_with (first
              | (have _ := HG; refine wpList_load_pair rfl _ rfl ba (oa + j * 33) rfl y HXY.out.1 ?_)
              | (have _ := HG; refine wpList_build_pairs rfl 1 _ rfl [y] rfl (by omega) (by omega) rfl ?_; have hb2 := al (Below.refl VV.heap.size VV) (.cells (cellsP [y]).toArray 36); have HP3 := Lib.hid (And.intro (HR2.out.1.trans (hb2.mono HR2.out.1.size)) (And.intro ((Keeps.of_below (X := fun _ => False) hb2).owns HR2.out.2.1 (fun _ _ h => h)) (range_new VV (cellsP [y]).toArray 36 _ rfl))); clear HG hb2; generalize VV.heap.size = y8 at *; generalize VV.alloc (.cells (cellsP [y]).toArray 36) = V2 at *)
              | (have _ := HP3; refine wpList_append_pairs rfl _ _ rfl W0.heap.size (.slice (some ⟨g7, 0, none⟩) (m + 1) cap7) (cs ++ [y7]) [y] (m + 1) 1 HR2.out.2.2.1 rfl rfl HP3.out.2.1 y8 0 1 rfl HP3.out.2.2 (by omega) HMX.out HP3.out.1.size ?_; intro g9 cap9 V3 ho9 hg9 _ _; have HQ9 := Lib.hid (And.intro (HP3.out.1.trans ((Keeps.of_grown (X := fun i => (Value.slice (some ⟨g7, 0, none⟩) (m + 1) cap7).ownBlock = some i) hg9 (fun k hk => hk)).below HP3.out.1.size (fun i hi => own_base HP3.out.2.1 i hi))) (And.intro ho9 (show ((cs ++ [y7]) ++ [y]).length = (m + 1) + 1 by rw [List.length_append, HR2.out.2.2.1]; rfl))); have HB9 := Lib.hid HR2.out.2.2.2; clear ho9 hg9 HP3 HR2))
            have hwj : wrap64 ((j : Int) + 1) = ((j + 1 : Nat) : Int) := by have := HNB.out; have := HJ.out; unfold wrap64; omega
            try rw [hwj]
            clear hwj
            exact ⟨⟨j + 1, (m + 1) + 1, (cs ++ [y7]) ++ [y], true, _, _, by have := HJ.out; omega, rfl, rfl, rfl, HQ9.out.2.2, by have := HB9.out; simp at this ⊢; omega, HQ9.out.1, HQ9.out.2.1⟩, by simp only [intOf]; have := HJ.out; omega⟩
        | false =>
          iterate 1
            refine wpS_t rfl (v := ?_) (by rfl) (fun W => ?_) ?_
            rotate_left
            · go_simp
              try rfl
            try simp only [Act.put, List.setIfInBounds_toArray, List.set_cons_zero, List.set_cons_succ]
          refine wpS_done ?_
          go_wp2_with fail
          obtain ⟨b2, o2, c2, y, he1, hr1⟩ := raw_one (H0.out.2.1.below (HR.out.1.trans (Below.refl _ _).drew)) (i := j) HJ.out.2
          simp only [Value.slice.injEq, Option.some.injEq, Addr.mk.injEq, and_true, true_and] at he1
          obtain ⟨⟨rfl, rfl⟩, rfl⟩ := he1
          have hkd := (Keeps.of_below (X := fun _ => False) (HR.out.1.trans (Below.refl _ _).drew)).range H0.out.1 (fun h => h)
          have HXY := Lib.hid (And.intro hr1 hkd)
          have heq := eq_sums y.1 k
          clear hr1 hkd
          refine wp_region_sched (fun V => V.rangeAt ba (oa + j * 33) (cellsOf y.1)) [.t 0, .t 1, .t 2, .t 3, .s 4, .e 5 true, .t 6] (by kernel_rfl) (by kernel_rfl) (by intro c a d v w h; cases d <;> exact h) ?_
          have HR2 := Lib.hid (And.intro (HR.out.1.trans (Below.refl _ _).drew) (And.intro ((Keeps.of_below (X := fun _ => False) (Below.refl _ _).drew).owns HR.out.2.1 (fun _ _ h => h)) HR.out.2.2))
          clear HR
          generalize World.drew _ = VV at *
          by_cases hky : y.1 = k
          · rw [decide_eq_true hky] at heq
            clear hky
            iterate 4
              refine wpS_t rfl (v := ?_) (by rfl) (fun W => ?_) ?_
              rotate_left
              · go_simp
                try rfl
              try simp only [Act.put, List.setIfInBounds_toArray, List.set_cons_zero, List.set_cons_succ]
            refine wpS_load_sum (by exact encP_key HXY.out.1) rfl (by rfl) _ (by rfl) ba (oa + j * 33) (by rfl) y.1 (fun V hV => hV) ?_
            try simp only [Act.put, List.setIfInBounds_toArray, List.set_cons_zero, List.set_cons_succ]
            refine wpS_k rfl (by rfl) (fun K hK => ?_)
            refine wp_load_sum _ (by rfl) z 0 (by rfl) k HXY.out.2 ?_
            refine hK _ _ ⟨by exact encP_key HXY.out.1, ?_⟩; clear hK K
            try simp only [Act.put, List.setIfInBounds_toArray, List.set_cons_zero, List.set_cons_succ]
            iterate 1
              refine wpS_t rfl (v := ?_) (by rfl) (fun W => ?_) ?_
              rotate_left
              · go_simp
                try rfl
              try simp only [Act.put, List.setIfInBounds_toArray, List.set_cons_zero, List.set_cons_succ]
            refine wpS_done ?_
            clear heq HXY
            go_wp2_with fail
            refine wp_region_sched (fun V => V.rangeAt z 0 (cellsOf k)) [.t 0, .t 2, .s 1, .e 3 true, .t 4, .e 5 false, .e 6 false, .t 7] (by kernel_rfl) (by kernel_rfl) (by intro c a d v w h; cases d <;> exact h) ?_
            have HP1 := Lib.hid (And.intro (HR2.out.1.trans (Below.refl _ _).drew) ((Keeps.of_below (X := fun _ => False) (Below.refl _ _).drew).owns HR2.out.2.1 (fun _ _ h => h)))
            have HM1 := Lib.hid HR2.out.2.2
            clear HR2
            generalize World.drew _ = V at *
            have HKV := Lib.hid ((Keeps.of_below (X := fun _ => False) HP1.out.1).range H0.out.1 (fun h => h))
            have HVV := Lib.hid (bytes_below H0.out.2.2 HP1.out.1 (Nat.le_refl _))
            iterate 2
              refine wpS_t rfl (v := ?_) (by rfl) (fun W => ?_) ?_
              rotate_left
              · go_simp
                try rfl
              try simp only [Act.put, List.setIfInBounds_toArray, List.set_cons_zero, List.set_cons_succ]
            refine wpS_load_sum (by exact HKV.out) rfl (by rfl) _ (by rfl) z 0 (by rfl) k (fun V hV => hV) ?_
            try simp only [Act.put, List.setIfInBounds_toArray, List.set_cons_zero, List.set_cons_succ]
            refine wpS_k rfl (by rfl) (fun K hK => ?_)
            refine wp_append_nil_bytes _ _ (by rfl) (by rfl) _ bs (by rfl) HVV.out HBS.out ?_
            intro ax cx V1 hb1
            have HP2 := Lib.hid (And.intro (HP1.out.1.trans (hb1.mono HP1.out.1.size)) (And.intro ((Keeps.of_below (X := fun _ => False) hb1).owns HP1.out.2 (fun _ _ h => h)) ((Keeps.of_below (X := fun _ => False) hb1).range HKV.out (fun h => h))))
            clear hb1 HP1 HKV HVV
            refine hK _ _ ⟨by exact HP2.out.2.2, ?_⟩; clear hK K
            try simp only [Act.put, List.setIfInBounds_toArray, List.set_cons_zero, List.set_cons_succ]
            refine wpS_t rfl (v := .agg (encP (k, ax, bs.length, cx)).toArray) (by rfl) (fun W => exec_build_pair _ rfl (k, ax, bs.length, cx) (by rfl) W) ?_
            try simp only [Act.put, List.setIfInBounds_toArray, List.set_cons_zero, List.set_cons_succ]
            obtain ⟨y9, hy9⟩ : ∃ y : PE, y = (k, ax, bs.length, cx) := ⟨_, rfl⟩
            rw [← hy9]
            clear hy9
            refine wpS_e rfl (by rfl) (fun K hK => ?_)
            refine wp_build_pairs 1 _ (by rfl) [y9] rfl (by omega) (by omega) (by rfl) ?_
            have hb2 := al (Below.refl V1.heap.size V1) (.cells (cellsP [y9]).toArray 36)
            have HP3 := Lib.hid (And.intro (HP2.out.1.trans (hb2.mono HP2.out.1.size)) (And.intro ((Keeps.of_below (X := fun _ => False) hb2).owns HP2.out.2.1 (fun _ _ h => h)) (range_new V1 (cellsP [y9]).toArray 36 _ rfl)))
            clear hb2 HP2
            refine hK _ _ ?_; clear hK K
            try simp only [Act.put, List.setIfInBounds_toArray, List.set_cons_zero, List.set_cons_succ]
            generalize V1.heap.size = y8 at *
            generalize V1.alloc (.cells (cellsP [y9]).toArray 36) = V2 at *
            refine wpS_e rfl (by rfl) (fun K hK => ?_)
            refine wp_append_pairs _ _ (by rfl) W0.heap.size (.slice ao m co) cs [y9] m 1 HM1.out.1 rfl (by rfl) HP3.out.2.1 y8 0 1 (by rfl) HP3.out.2.2 (by omega) (by have h1 := HM1.out.2; have := HNB.out; simp at h1; have := HJ.out; omega) HP3.out.1.size ?_
            intro g9 cap9 V3 ho9 hg9 _ _
            have HQ9 := Lib.hid (And.intro (HP3.out.1.trans ((Keeps.of_grown (X := fun i => (Value.slice ao m co).ownBlock = some i) hg9 (fun k hk => hk)).below HP3.out.1.size (fun i hi => own_base HP3.out.2.1 i hi))) (And.intro ho9 (And.intro (show (cs ++ [y9]).length = m + 1 by rw [List.length_append, HM1.out.1]; rfl) HM1.out.2)))
            clear ho9 hg9 HP3 HM1
            refine hK _ _ ?_; clear hK K
            try simp only [Act.put, List.setIfInBounds_toArray, List.set_cons_zero, List.set_cons_succ]
            iterate 1
              refine wpS_t rfl (v := ?_) (by rfl) (fun W => ?_) ?_
              rotate_left
              · go_simp
                try rfl
              try simp only [Act.put, List.setIfInBounds_toArray, List.set_cons_zero, List.set_cons_succ]
            refine wpS_done ?_
            have hwj : wrap64 ((j : Int) + 1) = ((j + 1 : Nat) : Int) := by have := HNB.out; have := HJ.out; unfold wrap64; omega
            go_wp2_with fail
            try rw [hwj]
            clear hwj
            exact ⟨⟨j + 1, m + 1, cs ++ [y9], true, _, _, by have := HJ.out; omega, rfl, rfl, rfl, HQ9.out.2.2.1, by have := HQ9.out.2.2.2; simp at this ⊢; omega, HQ9.out.1, HQ9.out.2.1⟩, by simp only [intOf]; have := HJ.out; omega⟩
          · rw [decide_eq_false hky] at heq
            clear hky
            iterate 4
              refine wpS_t rfl (v := ?_) (by rfl) (fun W => ?_) ?_
              rotate_left
              · go_simp
                try rfl
              try simp only [Act.put, List.setIfInBounds_toArray, List.set_cons_zero, List.set_cons_succ]
            refine wpS_load_sum (by exact encP_key HXY.out.1) rfl (by rfl) _ (by rfl) ba (oa + j * 33) (by rfl) y.1 (fun V hV => hV) ?_
            try simp only [Act.put, List.setIfInBounds_toArray, List.set_cons_zero, List.set_cons_succ]
            refine wpS_k rfl (by rfl) (fun K hK => ?_)
            refine wp_load_sum _ (by rfl) z 0 (by rfl) k HXY.out.2 ?_
            refine hK _ _ ⟨by exact encP_key HXY.out.1, ?_⟩; clear hK K
            try simp only [Act.put, List.setIfInBounds_toArray, List.set_cons_zero, List.set_cons_succ]
            iterate 1
              refine wpS_t rfl (v := ?_) (by rfl) (fun W => ?_) ?_
              rotate_left
              · go_simp
                try rfl
              try simp only [Act.put, List.setIfInBounds_toArray, List.set_cons_zero, List.set_cons_succ]
            refine wpS_done ?_
            clear heq
            have h1 := HR2.out.2.2.2
            have h2 := HJ.out
            have h3 := HNB.out
            simp only [if_false, Bool.false_eq_true] at h1
            have hmx : m + 1 < 1000000 := by omega
            have HMX := Lib.hid hmx
            clear h1 h2 h3 hmx
            have HG := Lib.hid trivial
            go_wp2_with (first
              | (have _ := HG; refine wpList_load_pair rfl _ rfl ba (oa + j * 33) rfl y HXY.out.1 ?_)
              | (have _ := HG; refine wpList_build_pairs rfl 1 _ rfl [y] rfl (by omega) (by omega) rfl ?_; have hb2 := al (Below.refl VV.heap.size VV) (.cells (cellsP [y]).toArray 36); have HP3 := Lib.hid (And.intro (HR2.out.1.trans (hb2.mono HR2.out.1.size)) (And.intro ((Keeps.of_below (X := fun _ => False) hb2).owns HR2.out.2.1 (fun _ _ h => h)) (range_new VV (cellsP [y]).toArray 36 _ rfl))); clear HG hb2; generalize VV.heap.size = y8 at *; generalize VV.alloc (.cells (cellsP [y]).toArray 36) = V2 at *)
              | (have _ := HP3; refine wpList_append_pairs rfl _ _ rfl W0.heap.size (.slice ao m co) cs [y] m 1 HR2.out.2.2.1 rfl rfl HP3.out.2.1 y8 0 1 rfl HP3.out.2.2 (by omega) HMX.out HP3.out.1.size ?_; intro g9 cap9 V3 ho9 hg9 _ _; have HQ9 := Lib.hid (And.intro (HP3.out.1.trans ((Keeps.of_grown (X := fun i => (Value.slice ao m co).ownBlock = some i) hg9 (fun k hk => hk)).below HP3.out.1.size (fun i hi => own_base HP3.out.2.1 i hi))) (And.intro ho9 (show (cs ++ [y]).length = m + 1 by rw [List.length_append, HR2.out.2.2.1]; rfl))); have HB9 := Lib.hid HR2.out.2.2.2; clear ho9 hg9 HP3 HR2))
            have hwj : wrap64 ((j : Int) + 1) = ((j + 1 : Nat) : Int) := by have := HNB.out; have := HJ.out; unfold wrap64; omega
            try rw [hwj]
            clear hwj
            exact ⟨⟨j + 1, m + 1, cs ++ [y], false, _, _, by have := HJ.out; omega, rfl, rfl, rfl, HQ9.out.2.2, by have := HB9.out; simp at this ⊢; omega, HQ9.out.1, HQ9.out.2.1⟩, by simp only [intOf]; have := HJ.out; omega⟩
    · have hjn : j = N := by omega
      subst hjn
      clear hlt
      have c1 : decide (j < j) = false := by simp
      have c1' : decide ((j : Int) < (j : Int)) = false := by simp
      cases db with
      | true =>
        go_wp2_with fail
        refine bodyPost_ret (results_tmp rfl _ _ _) rfl ?_
        first | exact ⟨.slice ao m co, m, rfl, raw_own HR.out.2.1 HR.out.2.2.1, by have := HR.out.2.2.2; simp at this; omega, HBW.out.trans (HR.out.1.mono HBW.out.size)⟩ | exact ⟨.slice ao m co, rfl, m, raw_own HR.out.2.1 HR.out.2.2.1, by have := HR.out.2.2.2; simp at this; omega, HBW.out.trans (HR.out.1.mono HBW.out.size)⟩
      | false =>
        go_wp2_with fail
        refine wp_region_sched (fun V => V.rangeAt z 0 (cellsOf k)) [.t 0, .t 2, .s 1, .e 3 true, .t 4, .e 5 false, .e 6 false, .t 7] (by kernel_rfl) (by kernel_rfl) (by intro c a d v w h; cases d <;> exact h) ?_
        have HP1 := Lib.hid (And.intro (HR.out.1.trans (Below.refl _ _).drew) ((Keeps.of_below (X := fun _ => False) (Below.refl _ _).drew).owns HR.out.2.1 (fun _ _ h => h)))
        have HM1 := Lib.hid HR.out.2.2
        clear HR
        generalize World.drew _ = V at *
        have HKV := Lib.hid ((Keeps.of_below (X := fun _ => False) HP1.out.1).range H0.out.1 (fun h => h))
        have HVV := Lib.hid (bytes_below H0.out.2.2 HP1.out.1 (Nat.le_refl _))
        iterate 2
          refine wpS_t rfl (v := ?_) (by rfl) (fun W => ?_) ?_
          rotate_left
          · go_simp
            try rfl
          try simp only [Act.put, List.setIfInBounds_toArray, List.set_cons_zero, List.set_cons_succ]
        refine wpS_load_sum (by exact HKV.out) rfl (by rfl) _ (by rfl) z 0 (by rfl) k (fun V hV => hV) ?_
        try simp only [Act.put, List.setIfInBounds_toArray, List.set_cons_zero, List.set_cons_succ]
        refine wpS_k rfl (by rfl) (fun K hK => ?_)
        refine wp_append_nil_bytes _ _ (by rfl) (by rfl) _ bs (by rfl) HVV.out HBS.out ?_
        intro ax cx V1 hb1
        have HP2 := Lib.hid (And.intro (HP1.out.1.trans (hb1.mono HP1.out.1.size)) (And.intro ((Keeps.of_below (X := fun _ => False) hb1).owns HP1.out.2 (fun _ _ h => h)) ((Keeps.of_below (X := fun _ => False) hb1).range HKV.out (fun h => h))))
        clear hb1 HP1 HKV HVV
        refine hK _ _ ⟨by exact HP2.out.2.2, ?_⟩; clear hK K
        try simp only [Act.put, List.setIfInBounds_toArray, List.set_cons_zero, List.set_cons_succ]
        refine wpS_t rfl (v := .agg (encP (k, ax, bs.length, cx)).toArray) (by rfl) (fun W => exec_build_pair _ rfl (k, ax, bs.length, cx) (by rfl) W) ?_
        try simp only [Act.put, List.setIfInBounds_toArray, List.set_cons_zero, List.set_cons_succ]
        obtain ⟨y9, hy9⟩ : ∃ y : PE, y = (k, ax, bs.length, cx) := ⟨_, rfl⟩
        rw [← hy9]
        clear hy9
        refine wpS_e rfl (by rfl) (fun K hK => ?_)
        refine wp_build_pairs 1 _ (by rfl) [y9] rfl (by omega) (by omega) (by rfl) ?_
        have hb2 := al (Below.refl V1.heap.size V1) (.cells (cellsP [y9]).toArray 36)
        have HP3 := Lib.hid (And.intro (HP2.out.1.trans (hb2.mono HP2.out.1.size)) (And.intro ((Keeps.of_below (X := fun _ => False) hb2).owns HP2.out.2.1 (fun _ _ h => h)) (range_new V1 (cellsP [y9]).toArray 36 _ rfl)))
        clear hb2 HP2
        refine hK _ _ ?_; clear hK K
        try simp only [Act.put, List.setIfInBounds_toArray, List.set_cons_zero, List.set_cons_succ]
        generalize V1.heap.size = y8 at *
        generalize V1.alloc (.cells (cellsP [y9]).toArray 36) = V2 at *
        refine wpS_e rfl (by rfl) (fun K hK => ?_)
        refine wp_append_pairs _ _ (by rfl) W0.heap.size (.slice ao m co) cs [y9] m 1 HM1.out.1 rfl (by rfl) HP3.out.2.1 y8 0 1 (by rfl) HP3.out.2.2 (by omega) (by have h1 := HM1.out.2; have := HNB.out; simp at h1;  omega) HP3.out.1.size ?_
        intro g9 cap9 V3 ho9 hg9 _ _
        have HQ9 := Lib.hid (And.intro (HP3.out.1.trans ((Keeps.of_grown (X := fun i => (Value.slice ao m co).ownBlock = some i) hg9 (fun k hk => hk)).below HP3.out.1.size (fun i hi => own_base HP3.out.2.1 i hi))) (And.intro ho9 (And.intro (show (cs ++ [y9]).length = m + 1 by rw [List.length_append, HM1.out.1]; rfl) HM1.out.2)))
        clear ho9 hg9 HP3 HM1
        refine hK _ _ ?_; clear hK K
        try simp only [Act.put, List.setIfInBounds_toArray, List.set_cons_zero, List.set_cons_succ]
        iterate 1
          refine wpS_t rfl (v := ?_) (by rfl) (fun W => ?_) ?_
          rotate_left
          · go_simp
            try rfl
          try simp only [Act.put, List.setIfInBounds_toArray, List.set_cons_zero, List.set_cons_succ]
        refine wpS_done ?_
        go_wp2_with fail
        refine bodyPost_ret (results_tmp rfl _ _ _) rfl ?_
        first | exact ⟨.slice (some ⟨g9, 0, none⟩) (m + 1) cap9, m + 1, rfl, raw_own HQ9.out.2.1 HQ9.out.2.2.1, by have := HQ9.out.2.2.2; simp at this; omega, HBW.out.trans (HQ9.out.1.mono HBW.out.size)⟩ | exact ⟨.slice (some ⟨g9, 0, none⟩) (m + 1) cap9, rfl, m + 1, raw_own HQ9.out.2.1 HQ9.out.2.2.1, by have := HQ9.out.2.2.2; simp at this; omega, HBW.out.trans (HQ9.out.1.mono HBW.out.size)⟩
end Go.Proofs.Ytfmgoehnbaiamaa
