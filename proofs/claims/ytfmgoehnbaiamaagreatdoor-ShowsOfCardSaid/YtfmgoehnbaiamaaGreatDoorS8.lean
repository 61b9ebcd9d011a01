/-
  Walk: shows.Check's last: the last side that is left.
-/
import Derived.Test.YtfmgoehnbaiamaaGreatDoorS7
open Go Go.RowKit Alm
namespace Go.Proofs.YtfmgoehnbaiamaaGreatDoor
/-- A variable of one cell. -/
def VarAt (W : World) (f : Nat) (x : Value) : Prop := W.rangeAt f 0 [x] ∧ W.there f 0 1
theorem VarAt.cell {W : World} {f : Nat} {x : Value} (h : VarAt W f x) : W.cell? ⟨f, 0, none⟩ = some x := h.1 0 x rfl
theorem VarAt.free {W : World} {f : Nat} {x : Value} (h : VarAt W f x) : W.frozen? ⟨f, 0, none⟩ = false := (h.2 0 (by decide)).2
theorem VarAt.keep {X : Nat → Prop} {W W' : World} {f : Nat} {x : Value} (h : VarAt W f x) (hk : Keeps X W W') (hx : ¬ X f) : VarAt W' f x := ⟨hk.range h.1 hx, hk.there h.2 (by decide) hx⟩
theorem VarAt.below {W W' : World} {f : Nat} {x : Value} (h : VarAt W f x) (hb : Below W.heap.size W W') : VarAt W' f x := h.keep (Keeps.of_below (X := fun _ => False) hb) (fun h => h)
theorem VarAt.set {W : World} {f : Nat} {x : Value} (h : VarAt W f x) (y : Value) : VarAt (W.setCell ⟨f, 0, none⟩ y) f y := by
  refine ⟨fun j u hj => ?_, there_setCell h.2 _ _ _⟩
  have hj0 : j = 0 := by have := (List.getElem?_eq_some_iff.1 hj).1; simpa using this
  subst hj0
  simp only [List.getElem?_cons_zero, Option.some.injEq] at hj
  rw [← hj]
  exact World.cell?_setCell_same _ _ _ h.cell
theorem VarAt.lt {W : World} {f : Nat} {x : Value} (h : VarAt W f x) : f < W.heap.size := there_lt h.2 (by decide)
theorem keeps_setCell (f : Nat) (W : World) (y : Value) : Keeps (· = f) W (W.setCell ⟨f, 0, none⟩ y) := (Keeps.refl (· = f) W).setCell (p := ⟨f, 0, none⟩) (.inl rfl) _
theorem var_new (W : World) (x : Value) (t : TypeId) : VarAt (W.alloc (.cells #[x] t)) W.heap.size x := ⟨range_new W #[x] t _ rfl, there_new W #[x] t⟩
/-- What last makes of what is left. -/
noncomputable def lastOf' (fb : Bool) (L : List Sum) : Sum × List Sum × Bool := if fb = true ∨ L = [] then (zeroSum, L, true) else (L.getLast?.getD zeroSum, L.dropLast, false)
/-- What last leaves behind. -/
def LastP (f c : Nat) (w : World) (fb : Bool) (v : Value) (L : List Sum) (e : Ending) (w' : World) : Prop :=
  ∃ x L' fb' v', lastOf' fb L = (x, L', fb') ∧ e = .returned (sv x) ∧ VarAt w' f (.bool fb') ∧ VarAt w' c v' ∧ SumsAt w v' L' ∧ (∀ g, v'.ownBlock = some g → v.ownBlock = some g) ∧ Keeps (fun i => i = f ∨ i = c) w w'
theorem k0' {w W : World} (h : Below w.heap.size w W) : Keeps (fun _ => False) w W := Keeps.of_below h
noncomputable def lastCode : Code := (Tryz.f102.body).getD .skip
set_option maxRecDepth 100000 in
set_option maxHeartbeats 2000000 in
theorem last_tail {u3 u4 u5 u6 u7 u8 u9 u10 u11 u12 u13 u14 u15 u16 u17 u18 u19 u20 u21 u22 : Value} (w W : World) (f c q : Nat) (fb : Bool) (v : Value) (L : List Sum) (hf : VarAt W f (.bool fb)) (hc : VarAt W c v) (hs : SumsAt w v L) (hb : Below w.heap.size w W) (hr : W.rangeAt q 0 (cellsOf zeroSum)) (ht : W.there q 0 32)
    (hqf : q ≠ f) (hqc : q ≠ c) (hne : f ≠ c) (hvb : ∀ g, v.ownBlock = some g → g ≠ f ∧ g ≠ c) (hqw : w.heap.size ≤ q) (hL : L.length < 1000000) : Code.wp Tryz.prog (dropN 1 lastCode) (bodyPost Tryz.prog Tryz.f102 fun e w' => LastP f c w fb v L e w') ⟨#[.pointer (some ⟨f, 0, none⟩), .pointer (some ⟨c, 0, none⟩), .pointer (some ⟨q, 0, none⟩), u3, u4, u5, u6, u7, u8, u9, u10, u11, u12, u13, u14, u15, u16, u17, u18, u19, u20, u21, u22], []⟩ W := by
  have g1 := hf.cell
  have g2 := hc.cell
  have e1 := hf.free
  obtain ⟨a, cap, rfl, h1, h2, h3⟩ := id hs
  obtain ⟨M, hM⟩ : ∃ M, M = L.length := ⟨_, rfl⟩
  rw [← hM] at h1 hs hc g2 hvb
  have HF := Lib.hid (And.intro hf (And.intro hc (And.intro hs (And.intro hb (And.intro hr ht)))))
  have HQ := Lib.hid (And.intro hqf (And.intro hqc (And.intro hne hqw)))
  have HM := Lib.hid (And.intro hM hL)
  have HH2 := Lib.hid h2
  clear hf hc hs hb hr ht hqf hqc hne hqw hM hL h2
  conv => arg 2; whnf
  cases fb with
  | true =>
    have k1 := keeps_setCell f W (.bool true)
    have g3 : (W.setCell ⟨f, 0, none⟩ (.bool true)).cell? ⟨f, 0, none⟩ = some (.bool true) := (HF.out.1.set (.bool true)).cell
    have HT := Lib.hid (And.intro (k1.range HF.out.2.2.2.2.1 HQ.out.1) (there_setCell HF.out.2.2.2.2.2 f 0 (.bool true)))
    have HK := Lib.hid k1
    clear k1
    go_wp2_with (first
      | (refine wpList_load_sum rfl _ rfl q 0 rfl zeroSum HT.out.1 ?_)
      | (refine wpList_store_sum rfl _ _ rfl q 0 zeroSum rfl rfl HT.out.2 ?_))
    have k2 := keeps_setCells_ q (cellsOf zeroSum) 0 (W.setCell ⟨f, 0, none⟩ (.bool true))
    have k0 : Keeps (fun i => i = f ∨ i = c) w W := Keeps.of_below HF.out.2.2.2.1
    have hfin : LastP f c w true (.slice a L.length cap) L (.returned (sv zeroSum)) ((W.setCell ⟨f, 0, none⟩ (.bool true)).setCells q 0 (cellsOf zeroSum)) :=
      ⟨zeroSum, L, true, .slice a M cap, by unfold lastOf'; rw [if_pos (.inl rfl)], rfl, (HF.out.1.set (.bool true)).keep k2 (fun e => HQ.out.1 e.symm), (HF.out.2.1.keep HK.out (fun e => HQ.out.2.2.1 e.symm)).keep k2 (fun e => HQ.out.2.1 e.symm), HF.out.2.2.1, (fun g hg => by rw [HM.out.1] at hg; exact hg),
        (k0.trans (HK.out.mono fun i hi => .inl hi)).trans' k2 (fun i hi => .inr (by rw [hi]; exact HQ.out.2.2.2))⟩
    exact bodyPost_ret (results_sum Tryz.results102 _ _ _ _ rfl (World.there_setCells HT.out.2 _ _ _)) rfl hfin
  | false =>
    by_cases hM0 : M = 0
    · have hL0 : L = [] := List.length_eq_zero_iff.1 (by rw [← HM.out.1, hM0])
      have f1 : decide (M = 0) = true := by simpa using hM0
      have f2 : decide ((M : Int) = 0) = true := by simp; omega
      have f3 : ((M : Int) == 0) = true := by rw [beq_iff_eq]; omega
      have HL0 := Lib.hid (And.intro hL0 hM0)
      clear hL0 hM0
      have k1 := keeps_setCell f W (.bool true)
      have g3 : (W.setCell ⟨f, 0, none⟩ (.bool true)).cell? ⟨f, 0, none⟩ = some (.bool true) := (HF.out.1.set (.bool true)).cell
      have HT := Lib.hid (And.intro (k1.range HF.out.2.2.2.2.1 HQ.out.1) (there_setCell HF.out.2.2.2.2.2 f 0 (.bool true)))
      have HK := Lib.hid k1
      clear k1
      go_wp2_with (first
        | (refine wpList_load_sum rfl _ rfl q 0 rfl zeroSum HT.out.1 ?_)
        | (refine wpList_store_sum rfl _ _ rfl q 0 zeroSum rfl rfl HT.out.2 ?_))
      have k2 := keeps_setCells_ q (cellsOf zeroSum) 0 (W.setCell ⟨f, 0, none⟩ (.bool true))
      have k0 : Keeps (fun i => i = f ∨ i = c) w W := Keeps.of_below HF.out.2.2.2.1
      have hfin : LastP f c w false (.slice a L.length cap) L (.returned (sv zeroSum)) ((W.setCell ⟨f, 0, none⟩ (.bool true)).setCells q 0 (cellsOf zeroSum)) :=
        ⟨zeroSum, L, true, .slice a M cap, by unfold lastOf'; rw [if_pos (.inr HL0.out.1)], rfl, (HF.out.1.set (.bool true)).keep k2 (fun e => HQ.out.1 e.symm), (HF.out.2.1.keep HK.out (fun e => HQ.out.2.2.1 e.symm)).keep k2 (fun e => HQ.out.2.1 e.symm), HF.out.2.2.1, (fun g hg => by rw [HM.out.1] at hg; exact hg),
          (k0.trans (HK.out.mono fun i hi => .inl hi)).trans' k2 (fun i hi => .inr (by rw [hi]; exact HQ.out.2.2.2))⟩
      exact bodyPost_ret (results_sum Tryz.results102 _ _ _ _ rfl (World.there_setCells HT.out.2 _ _ _)) rfl hfin
    · have f1 : decide (M = 0) = false := by simpa using hM0
      have f2 : decide ((M : Int) = 0) = false := by simp; omega
      have f3 : ((M : Int) == 0) = false := by rw [beq_eq_false_iff_ne]; omega
      have hLne : L ≠ [] := fun e => hM0 (by rw [HM.out.1, e]; rfl)
      obtain ⟨b, o, rfl, hrl⟩ := h3.resolve_left hLne
      obtain ⟨m, hm⟩ : ∃ m, m = M - 1 := ⟨_, rfl⟩
      have hml : m < L.length := by rw [← HM.out.1]; omega
      have hrm := range_at hrl hml
      have hlast : L.getLast?.getD zeroSum = L[m] := by
        rw [List.getLast?_eq_getElem?, ← HM.out.1, ← hm, List.getElem?_eq_getElem hml]; rfl
      have hdl : L.dropLast = L.take m := by rw [List.dropLast_eq_take, ← HM.out.1, ← hm]
      have hdrop : SumsAt w (.slice (some ⟨b, o, none⟩) m cap) (L.take m) := sums_take hrl (Nat.le_of_lt hml) (by omega) HH2.out
      obtain ⟨s, hs⟩ : ∃ s, s = L[m] := ⟨_, rfl⟩
      rw [← hs] at hrm hlast
      have k1 := keeps_setCell f W (.bool false)
      have g3 : (W.setCell ⟨f, 0, none⟩ (.bool false)).cell? ⟨f, 0, none⟩ = some (.bool false) := (HF.out.1.set (.bool false)).cell
      have v1 := HF.out.1.set (.bool false)
      have v2 := HF.out.2.1.keep k1 (fun e => HQ.out.2.2.1 e.symm)
      have hrw := k1.range ((k0' HF.out.2.2.2.1).range hrm (fun h => h)) (hvb b rfl).1
      have HV := Lib.hid (And.intro v1 (And.intro v2 (And.intro (k1.range HF.out.2.2.2.2.1 HQ.out.1) (And.intro (there_setCell HF.out.2.2.2.2.2 f 0 (.bool false)) (And.intro hrw (And.intro hlast (And.intro hdl (And.intro hdrop k1))))))))
      have hw : IntKind.i64.wrap ((M : Int) - 1) = (m : Int) := by have := HM.out.2; rw [← HM.out.1] at this; rw [IntKind.wrap_i64]; omega
      have q1 : (0 : Int) ≤ (m : Int) := by omega
      have q2 : (m : Int) < (M : Int) := by omega
      have q3 : m < M := by omega
      have q4 : (m : Int) ≤ (cap : Int) := by omega
      have hrng := Lib.hid hrm
      have HLN := Lib.hid hLne
      clear hLne hrl hm hml hrm hlast hdl hdrop hs k1 v1 v2 hrw h3
      go_wp2_with fail
      refine wp_region_sched (fun V => V.cell? ⟨c, 0, none⟩ = some (.slice (some ⟨b, o, none⟩) M cap) ∧ V.rangeAt b (o + m * 32) (cellsOf s)) [.s 0, .s 1, .t 2, .t 3, .t 4, .s 5, .s 6, .s 7, .t 8, .t 9, .t 10, .e 11 true, .e 12 false] (by kernel_rfl) (by kernel_rfl) (by intro c a d v w h; cases d <;> exact h) ?_
      have hkd : Keeps (fun _ => False) (W.setCell ⟨f, 0, none⟩ (.bool false)) (W.setCell ⟨f, 0, none⟩ (.bool false)).drew := Keeps.of_below (Below.refl _ _).drew
      have kall : Keeps (fun i => i = f ∨ i = c) w (W.setCell ⟨f, 0, none⟩ (.bool false)).drew := (((k0' HF.out.2.2.2.1).mono (fun _ h => h.elim)).trans (HV.out.2.2.2.2.2.2.2.2.mono (fun i hi => .inl hi))).trans (hkd.mono (fun _ h => h.elim))
      have HD := Lib.hid (And.intro (HV.out.1.keep hkd (fun h => h)) (And.intro (HV.out.2.1.keep hkd (fun h => h)) (And.intro (hkd.range HV.out.2.2.1 (fun h => h)) (And.intro (hkd.there HV.out.2.2.2.1 (by decide) (fun h => h)) (And.intro (hkd.range HV.out.2.2.2.2.1 (fun h => h)) kall)))))
      clear kall
      have HL := Lib.hid (And.intro HV.out.2.2.2.2.2.1 (And.intro HV.out.2.2.2.2.2.2.1 HV.out.2.2.2.2.2.2.2.1))
      clear HV hkd g3 g1 g2 e1
      generalize (W.setCell ⟨f, 0, none⟩ (.bool false)).drew = V at *
      have hbq : b ≠ q := by
        have := range_lt hrng.out (fun h => by have := length_cellsOf s; rw [h] at this; cases this)
        have := HQ.out.2.2.2
        omega
      have HBQ := Lib.hid hbq
      clear hbq
      refine wpS_s (by exact ⟨HD.out.2.1.cell, HD.out.2.2.2.2.1⟩) rfl (v := ?_) (by rfl) (fun W hSW => ?_) ?_
      rotate_left
      · go_simp
        try rfl
      try simp only [Act.put, List.setIfInBounds_toArray, List.set_cons_zero, List.set_cons_succ]
      refine wpS_s (by exact ⟨HD.out.2.1.cell, HD.out.2.2.2.2.1⟩) rfl (v := ?_) (by rfl) (fun W hSW => ?_) ?_
      rotate_left
      · go_simp
        try rfl
      try simp only [Act.put, List.setIfInBounds_toArray, List.set_cons_zero, List.set_cons_succ]
      iterate 3
        refine wpS_t rfl (v := ?_) (by rfl) (fun W => ?_) ?_
        rotate_left
        · go_simp
          try rfl
        try simp only [Act.put, List.setIfInBounds_toArray, List.set_cons_zero, List.set_cons_succ]
      refine wpS_load_sum (by exact ⟨HD.out.2.1.cell, HD.out.2.2.2.2.1⟩) rfl (by rfl) _ (by rfl) b (o + m * 32) (by rfl) s (fun V hV => hV.2) ?_
      try simp only [Act.put, List.setIfInBounds_toArray, List.set_cons_zero, List.set_cons_succ]
      refine wpS_s (by exact ⟨HD.out.2.1.cell, HD.out.2.2.2.2.1⟩) rfl (v := ?_) (by rfl) (fun W hSW => ?_) ?_
      rotate_left
      · go_simp
        try rfl
      try simp only [Act.put, List.setIfInBounds_toArray, List.set_cons_zero, List.set_cons_succ]
      refine wpS_s (by exact ⟨HD.out.2.1.cell, HD.out.2.2.2.2.1⟩) rfl (v := ?_) (by rfl) (fun W hSW => ?_) ?_
      rotate_left
      · go_simp
        try rfl
      try simp only [Act.put, List.setIfInBounds_toArray, List.set_cons_zero, List.set_cons_succ]
      iterate 3
        refine wpS_t rfl (v := ?_) (by rfl) (fun W => ?_) ?_
        rotate_left
        · go_simp
          try rfl
        try simp only [Act.put, List.setIfInBounds_toArray, List.set_cons_zero, List.set_cons_succ]
      refine wpS_k rfl (by rfl) (fun K hK => ?_)
      refine wp_store_sum _ _ (by rfl) q 0 s (by rfl) (by rfl) HD.out.2.2.2.1 ?_
      have k2 := keeps_setCells_ q (cellsOf s) 0 V
      have ht2 := World.there_setCells HD.out.2.2.2.1 q 0 (cellsOf s)
      have HE := Lib.hid (And.intro (HD.out.1.keep k2 (fun e => HQ.out.1 e.symm)) (And.intro (HD.out.2.1.keep k2 (fun e => HQ.out.2.1 e.symm)) (And.intro (range_stored q (cellsOf s) 0 V (by rw [length_cellsOf]; exact ht2)) (And.intro ht2 (And.intro (k2.range HD.out.2.2.2.2.1 HBQ.out) (HD.out.2.2.2.2.2.trans' k2 (fun i hi => .inr (by rw [hi]; exact HQ.out.2.2.2))))))))
      clear k2 ht2 HD
      generalize V.setCells q 0 (cellsOf s) = V2 at *
      refine hK _ _ ⟨by exact ⟨HE.out.2.1.cell, HE.out.2.2.2.2.1⟩, ?_⟩; clear hK K
      try simp only [Act.put]
      have e2 := HE.out.2.1.free
      have g2 := HE.out.2.1.cell
      refine wpS_e rfl (by rfl) (fun K hK => ?_)
      go_simp
      refine hK _ _ ?_; clear hK K
      try simp only [Act.put, List.setIfInBounds_toArray, List.set_cons_zero, List.set_cons_succ]
      have k3 := keeps_setCell c V2 (.slice (some ⟨b, o, none⟩) m cap)
      have HG2 := Lib.hid (And.intro (HE.out.1.keep k3 HQ.out.2.2.1) (And.intro (HE.out.2.1.set (.slice (some ⟨b, o, none⟩) m cap)) (And.intro (k3.range HE.out.2.2.1 HQ.out.2.1) (And.intro (there_setCell HE.out.2.2.2.1 c 0 (.slice (some ⟨b, o, none⟩) m cap)) (HE.out.2.2.2.2.2.trans (k3.mono (Y := fun i => i = f ∨ i = c) (fun i hi => .inr hi)))))))
      clear k3 HE e2 g2
      generalize V2.setCell ⟨c, 0, none⟩ (.slice (some ⟨b, o, none⟩) m cap) = V3 at *
      refine wpS_done ?_
      go_wp2_with (first
        | (refine wpList_load_sum rfl _ rfl q 0 rfl s HG2.out.2.2.1 ?_)
        | (refine wpList_store_sum rfl _ _ rfl q 0 s rfl rfl HG2.out.2.2.2.1 ?_))
      have k4 := keeps_setCells_ q (cellsOf s) 0 V3
      have hfin : LastP f c w false (.slice (some ⟨b, o, none⟩) L.length cap) L (.returned (sv s)) (V3.setCells q 0 (cellsOf s)) :=
        ⟨s, L.take m, false, .slice (some ⟨b, o, none⟩) m cap, by
          unfold lastOf'
          rw [if_neg (by rintro (h | h); cases h; exact HLN.out h), HL.out.1, HL.out.2.1], rfl, HG2.out.1.keep k4 (fun e => HQ.out.1 e.symm), HG2.out.2.1.keep k4 (fun e => HQ.out.2.1 e.symm), HL.out.2.2, (fun g hg => hg),
          HG2.out.2.2.2.2.trans' k4 (fun i hi => .inr (by rw [hi]; exact HQ.out.2.2.2))⟩
      exact bodyPost_ret (results_sum Tryz.results102 _ _ _ _ rfl (World.there_setCells HG2.out.2.2.2.1 _ _ _)) rfl hfin
set_option maxRecDepth 100000 in
theorem last_any (f c : Nat) (w : World) (fb : Bool) (v : Value) (L : List Sum) (hf : VarAt w f (.bool fb)) (hc : VarAt w c v) (hs : SumsAt w v L) (hne : f ≠ c) (hvb : ∀ g, v.ownBlock = some g → g ≠ f ∧ g ≠ c) (hL : L.length < 1000000) :
    Calls Tryz.prog 102 #[.pointer (some ⟨f, 0, none⟩), .pointer (some ⟨c, 0, none⟩)] w fun e w' => LastP f c w fb v L e w' := by
  have hb0 := al (Below.refl _ w) (.cells (cells8 (List.replicate 32 0)).toArray 24)
  have ht0 := there_new w (cells8 (List.replicate 32 0)).toArray 24
  have hr0 : (w.alloc (.cells (cells8 (List.replicate 32 0)).toArray 24)).rangeAt w.heap.size 0 (cellsOf zeroSum) := range_new w (cells8 (List.replicate 32 0)).toArray 24 _ rfl
  have hlf := hf.lt
  have hlc := hc.lt
  have HX := Lib.hid (And.intro (hf.below hb0) (And.intro (hc.below hb0) (And.intro hs (And.intro hb0 (And.intro hr0 (And.intro ht0 (And.intro (show w.heap.size ≠ f by omega) (And.intro (show w.heap.size ≠ c by omega) (And.intro hne (And.intro hvb hL))))))))))
  clear hf hc hs hne hvb hL hb0 ht0 hr0 hlf hlc
  go_enter Tryz.func102, Tryz.ntmps102
  refine Alm.wp_cut 1 ?_
  intro T hT
  dsimp only [cutN]
  replace hT := Lib.hid hT
  go_wp2_with fail
  refine hT.out _ _ ?_
  exact last_tail w _ f c w.heap.size fb v L HX.out.1 HX.out.2.1 HX.out.2.2.1 HX.out.2.2.2.1 HX.out.2.2.2.2.1 HX.out.2.2.2.2.2.1 HX.out.2.2.2.2.2.2.1 HX.out.2.2.2.2.2.2.2.1 HX.out.2.2.2.2.2.2.2.2.1 HX.out.2.2.2.2.2.2.2.2.2.1 (Nat.le_refl _) HX.out.2.2.2.2.2.2.2.2.2.2
end Go.Proofs.YtfmgoehnbaiamaaGreatDoor
