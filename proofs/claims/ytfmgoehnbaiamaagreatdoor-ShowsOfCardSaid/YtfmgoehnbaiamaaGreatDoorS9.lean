/-
  Walk: shows.Check.
-/
import Derived.Test.YtfmgoehnbaiamaaGreatDoorS8
open Go Go.RowKit Alm
namespace Go.Proofs.YtfmgoehnbaiamaaGreatDoor
theorem enters_last : ∀ args w, (callFunc 102 args).run Tryz.prog w = .ok (.enter 102 args) w := enters_of Tryz.func102 (by kernel_rfl) rfl
/-- What Check has in hand. -/
structure CW (w W : World) (z4 z5 z7 z9 z10 z12 z13 : Nat) (root k which : Sum) (fb : Bool) (vL : Value) (L : List Sum) (x e : Sum) : Prop where
  bw : Below w.heap.size w W
  r4 : W.rangeAt z4 0 (cellsOf root)
  r5 : W.rangeAt z5 0 (cellsOf k)
  r7 : W.rangeAt z7 0 (cellsOf which)
  f10 : VarAt W z10 (.bool fb)
  c9 : VarAt W z9 vL
  sL : SumsAt W vL L
  own : ∀ g, vL.ownBlock = some g → z7 < g ∧ g < z9
  r12 : W.rangeAt z12 0 (cellsOf x)
  t12 : W.there z12 0 32
  r13 : W.rangeAt z13 0 (cellsOf e)
  t13 : W.there z13 0 32
  ord : w.heap.size ≤ z4 ∧ z4 < z5 ∧ z5 < z7 ∧ z7 < z9 ∧ z9 < z10 ∧ z10 < z12 ∧ z12 < z13
theorem CW.below {w W W' : World} {z4 z5 z7 z9 z10 z12 z13 : Nat} {root k which : Sum} {fb : Bool} {vL : Value} {L : List Sum} {x e : Sum} (h : CW w W z4 z5 z7 z9 z10 z12 z13 root k which fb vL L x e) (hb : Below W.heap.size W W') : CW w W' z4 z5 z7 z9 z10 z12 z13 root k which fb vL L x e :=
  have kk := Keeps.of_below (X := fun _ => False) hb
  ⟨h.bw.trans (hb.mono h.bw.size), kk.range h.r4 (fun h => h), kk.range h.r5 (fun h => h), kk.range h.r7 (fun h => h), h.f10.below hb, h.c9.below hb, h.sL.below hb (Nat.le_refl _), h.own, kk.range h.r12 (fun h => h), kk.there h.t12 (by decide) (fun h => h), kk.range h.r13 (fun h => h), kk.there h.t13 (by decide) (fun h => h), h.ord⟩
theorem CW.last {w W W' : World} {z4 z5 z7 z9 z10 z12 z13 : Nat} {root k which : Sum} {fb fb' : Bool} {vL vL' : Value} {L L' : List Sum} {x e : Sum} (h : CW w W z4 z5 z7 z9 z10 z12 z13 root k which fb vL L x e)
    (h1 : VarAt W' z10 (.bool fb')) (h2 : VarAt W' z9 vL') (h3 : SumsAt W vL' L') (ho : ∀ g, vL'.ownBlock = some g → z7 < g ∧ g < z9) (hk : Keeps (fun i => i = z10 ∨ i = z9) W W') : CW w W' z4 z5 z7 z9 z10 z12 z13 root k which fb' vL' L' x e := by
  have o := h.ord
  exact ⟨h.bw.trans (hk.below h.bw.size (fun i hi => by omega)), hk.range h.r4 (by omega), hk.range h.r5 (by omega), hk.range h.r7 (by omega), h1, h2, hk.sums h3 (fun g hg hx => by have := ho g hg; omega), ho, hk.range h.r12 (by omega), hk.there h.t12 (by decide) (by omega), hk.range h.r13 (by omega), hk.there h.t13 (by decide) (by omega), o⟩
theorem CW.sides {w W : World} {z4 z5 z7 z9 z10 z12 z13 : Nat} {root k which : Sum} {fb : Bool} {vL : Value} {L : List Sum} {x e : Sum} (h : CW w W z4 z5 z7 z9 z10 z12 z13 root k which fb vL L x e) (x' e' : Sum) :
    CW w ((W.setCells z12 0 (cellsOf x')).setCells z13 0 (cellsOf e')) z4 z5 z7 z9 z10 z12 z13 root k which fb vL L x' e' := by
  have o := h.ord
  have k1 := keeps_setCells_ z12 (cellsOf x') 0 W
  have k2 := keeps_setCells_ z13 (cellsOf e') 0 (W.setCells z12 0 (cellsOf x'))
  have kk : Keeps (fun i => i = z12 ∨ i = z13) W ((W.setCells z12 0 (cellsOf x')).setCells z13 0 (cellsOf e')) := (k1.mono fun i hi => .inl hi).trans (k2.mono fun i hi => .inr hi)
  have t12 := World.there_setCells h.t12 z12 0 (cellsOf x')
  have t13 := World.there_setCells (k1.there h.t13 (by decide) (by omega)) z13 0 (cellsOf e')
  exact ⟨h.bw.trans (kk.below h.bw.size (fun i hi => by omega)), kk.range h.r4 (by omega), kk.range h.r5 (by omega), kk.range h.r7 (by omega), h.f10.keep kk (by omega), h.c9.keep kk (by omega), kk.sums h.sL (fun g hg hx => by have := h.own g hg; omega), h.own,
    k2.range (range_stored _ _ _ _ (by rw [length_cellsOf]; exact t12)) (by omega), k2.there t12 (by decide) (by omega), range_stored _ _ _ _ (by rw [length_cellsOf]; exact t13), t13, o⟩
theorem step_bit {k which : Sum} {n : Nat} {s : Sum × List Sum × Bool} (h : (Keys.kn which).testBit n = true) {t : Sum} {L' : List Sum} {fb' : Bool} (hl : lastOf' s.2.2 s.2.1 = (t, L', fb')) : stepC k which n s = (join k n t s.1, L', fb') := by
  unfold stepC
  unfold lastOf' at hl
  rw [if_pos h]
  by_cases hc : s.2.2 = true ∨ s.2.1 = []
  · rw [if_pos hc] at hl ⊢
    simp only [Prod.mk.injEq] at hl
    obtain ⟨rfl, rfl, rfl⟩ := hl
    rfl
  · rw [if_neg hc] at hl ⊢
    simp only [Prod.mk.injEq] at hl
    obtain ⟨rfl, rfl, rfl⟩ := hl
    rfl
theorem step_none {k which : Sum} {n : Nat} {s : Sum × List Sum × Bool} (h : (Keys.kn which).testBit n = false) : stepC k which n s = (join k n (em n) s.1, s.2.1, s.2.2) := by
  unfold stepC
  rw [if_neg (by rw [h]; simp)]
theorem last_less {fb fb' : Bool} {L L' : List Sum} {t : Sum} (h : lastOf' fb L = (t, L', fb')) : L'.length ≤ L.length := by
  unfold lastOf' at h
  split at h
  · simp only [Prod.mk.injEq] at h
    rw [← h.2.1]; exact Nat.le_refl _
  · simp only [Prod.mk.injEq] at h
    rw [← h.2.1, List.length_dropLast]; omega
theorem wpList_want {P : Program} {ops : Array Oper} {rest : List Oper} {o : Oper} {a : Act} {w : World} {Q : Exit → Act → World → Prop} (hw : Region.wanted o (yielded ops a.tmps) = true) (h : ∀ K : Act → World → Prop, (∀ a' w', wpList P ops Q rest a' w' → K a' w') → o.wp P a w K Q) : wpList P ops Q (o :: rest) a w := by
  unfold wpList
  rw [if_pos hw]
  exact .inl (h _ fun _ _ h => h)
theorem wpList_load_sum_g {ops : Array Oper} {rest : List Oper} {op : Oper} {a : Act} {w : World} {Q : Exit → Act → World → Prop} (hw : Region.wanted op (yielded ops a.tmps) = true) (x : Operand) (ho : op.op = .load 24 x)
    (b o : Nat) (hx : a.eval x = .pointer (some ⟨b, o, none⟩)) (s : Sum) (hc : w.rangeAt b o (cellsOf s)) (h : wpList Tryz.prog ops Q rest (a.put op.dst (sv s)) w) : wpList Tryz.prog ops Q (op :: rest) a w :=
  wpList_want hw fun K hK => wp_load_mid _ x ho b o hx (cellsOf s) _ hc Tryz.underlying24 rfl (by rw [length_cellsOf]; exact infoSum) (hK _ _ h)
theorem CW.apart {w W W' : World} {z4 z5 z7 z9 z10 z12 z13 z : Nat} {root k which : Sum} {fb : Bool} {vL : Value} {L : List Sum} {x e : Sum} (h : CW w W z4 z5 z7 z9 z10 z12 z13 root k which fb vL L x e) (hk : Keeps (· = z) W W') (hz : z13 < z) : CW w W' z4 z5 z7 z9 z10 z12 z13 root k which fb vL L x e := by
  have o := h.ord
  exact ⟨h.bw.trans (hk.below h.bw.size (fun i hi => by omega)), hk.range h.r4 (by omega), hk.range h.r5 (by omega), hk.range h.r7 (by omega), h.f10.keep hk (by omega), h.c9.keep hk (by omega), hk.sums h.sL (fun g hg hx => by have := h.own g hg; omega), h.own, hk.range h.r12 (by omega), hk.there h.t12 (by decide) (by omega), hk.range h.r13 (by omega), hk.there h.t13 (by decide) (by omega), o⟩
noncomputable def checkCode : Code := (Tryz.f30.body).getD .skip
set_option maxRecDepth 100000 in
set_option maxHeartbeats 4000000 in
theorem check_loop {u6 u14 u15 u16 u17 u18 u19 u20 u21 u22 u23 u24 u25 u26 u27 u28 u29 u30 u31 u32 u33 u34 u35 u36 u37 u38 u39 u40 u41 u42 u43 u44 u45 u46 u47 u48 u49 u50 u51 u52 u53 u54 u55 u56 u57 u58 u59 u60 u61 u62 u63 u64 u65 u66 u67 u68 u69 u70 u71 : Value} (w W : World) (z4 z5 z7 z9 z10 z12 z13 : Nat) (root k which : Sum) (v0 v3 vL : Value) (S : List Sum) (X0 : Sum) (R : Bool) (hR : R = decide ((runC k which 256 (X0, S, false)).2.2 = false ∧ (runC k which 256 (X0, S, false)).2.1 = [] ∧ (runC k which 256 (X0, S, false)).1 = root))
    (h0 : CW w W z4 z5 z7 z9 z10 z12 z13 root k which false vL S X0 (em 0)) (hS : S.length < 100000) : Code.wp Tryz.prog (dropN 6 checkCode) (bodyPost Tryz.prog Tryz.f30 fun e w' => e = .returned (.bool R) ∧ Below w.heap.size w w') ⟨#[sv root, sv k, v0, v3, .pointer (some ⟨z4, 0, none⟩), .pointer (some ⟨z5, 0, none⟩), u6, .pointer (some ⟨z7, 0, none⟩), .bool false, .pointer (some ⟨z9, 0, none⟩), .pointer (some ⟨z10, 0, none⟩), .func (.func 102) #[] #[.pointer (some ⟨z10, 0, none⟩), .pointer (some ⟨z9, 0, none⟩)], .pointer (some ⟨z12, 0, none⟩), .pointer (some ⟨z13, 0, none⟩), u14, u15, u16, u17, u18, u19, u20, u21, u22, u23, u24, u25, u26, u27, u28, u29, u30, u31, u32, u33, u34, u35, u36, u37, u38, u39, u40, u41, u42, u43, u44, u45, u46, u47, u48, u49, u50, u51, u52, u53, u54, u55, u56, u57, u58, u59, u60, u61, u62, u63, u64, u65, u66, u67, u68, u69, u70, u71], []⟩ W := by
  have H0 := Lib.hid h0
  have HR := Lib.hid hR
  have HS := Lib.hid hS
  have eg := enters_last
  clear h0 hR hS
  conv => arg 2; whnf
  go_wp2_with fail
  go_loopw [14] (fun d W => ∃ (h : Nat) (x : Sum) (L : List Sum) (fb : Bool) (vL : Value), h ≤ 256 ∧ d = .int .i64 (255 - (h : Int)) ∧ runC k which h (X0, S, false) = (x, L, fb) ∧ CW w W z4 z5 z7 z9 z10 z12 z13 root k which fb vL L x (em h) ∧ L.length < 100000) (fun d _ => (intOf d + 1).toNat)
  case atStart => exact ⟨0, X0, S, false, vL, by omega, rfl, rfl, H0.out, HS.out⟩
  case round =>
    clear H0
    obtain ⟨h, x, L, fb, vL, hh, rfl, hrun, hC, hlen⟩ := hrel
    have HC := Lib.hid hC
    have HRUN := Lib.hid hrun
    have HLEN := Lib.hid hlen
    clear hC hrun hlen
    by_cases hlt : h < 256
    · obtain ⟨D, hD⟩ : ∃ D, D = 255 - h := ⟨_, rfl⟩
      have hd : (255 : Int) - (h : Int) = (D : Int) := by omega
      rw [hd]
      have c1 : decide ((0 : Int) ≤ (D : Int)) = true := by simp
      have HD := Lib.hid (show 255 - D = h ∧ (255 : Int) - (h : Int) = (D : Int) ∧ D < 256 from ⟨by omega, hd, by omega⟩)
      obtain ⟨qb, hqb⟩ : ∃ q, q = (Keys.kn which >>> h) % 2 := ⟨_, rfl⟩
      have hqb2 : qb < 2 := by rw [hqb]; exact Nat.mod_lt _ (by decide)
      have hbb : (Keys.kn which).testBit h = decide (qb = 1) := by rw [Keys.bit_odd, hqb]
      have HBW := Lib.hid (fun W => bit_any which D W HD.out.2.2)
      rw [HD.out.1, ← hqb] at HBW
      have HQB := Lib.hid (And.intro hqb2 hbb)
      obtain ⟨e, he⟩ : ∃ e, e = em h := ⟨_, rfl⟩
      rw [← he] at HC
      have HE := Lib.hid he
      clear hD hd hqb hqb2 hbb hlt hh he
      have HG := Lib.hid trivial
      go_wp2_with (first
        | (have _ := HG; refine wpList_load_sum rfl _ rfl z13 0 rfl e HC.out.r13 ?_)
        | (have _ := HG; refine wpList_build_both rfl _ rfl e e rfl ?_)
        | (have _ := HG; refine wpList_var_both (by rfl) rfl _ _ rfl e e rfl rfl ?_; intro W5 hb hr ht; obtain ⟨z15, hz15⟩ : ∃ x, x = wr.heap.size := ⟨_, rfl⟩; rw [← hz15] at hr ht ⊢; have hap : z13 < z15 := (by rw [hz15]; exact there_lt HC.out.t13 (by decide)); have H1 := Lib.hid (And.intro (HC.out.below hb) (And.intro hr (And.intro ht hap))); clear HG hb hr ht hz15 hap HC)
        | (refine wpList_load_sum rfl _ rfl z7 0 rfl which H1.out.1.r7 ?_))
      refine (HBW.out W5).mono ?_
      rintro e9 W6 ⟨rfl, hb⟩
      have kk := Keeps.of_below (X := fun _ => False) hb
      have H2 := Lib.hid (And.intro (H1.out.1.below hb) (And.intro (kk.range H1.out.2.1 (fun h => h)) (And.intro (kk.there H1.out.2.2.1 (by decide) (fun h => h)) H1.out.2.2.2)))
      clear kk hb H1 HBW
      by_cases hq1 : qb = 1
      · subst hq1
        have HB1 := Lib.hid (show (Keys.kn which).testBit h = true from HQB.out.2)
        go_wp2_with fail
        refine (last_any z10 z9 W6 fb vL L H2.out.1.f10 H2.out.1.c9 H2.out.1.sL (by have := H2.out.1.ord; omega) (fun g hg => by have := H2.out.1.own g hg; have := H2.out.1.ord; omega) (by have := HLEN.out; omega)).mono ?_
        rintro e9 W7 ⟨t, L', fb', vL', hla, rfl, g1, g2, g3, g4, g5⟩
        have HLAST := Lib.hid hla
        have hless := last_less hla
        have HB2 := Lib.hid (Nat.le_trans hless (Nat.le_of_lt HLEN.out))
        have hC2 := H2.out.1.last g1 g2 g3 (fun g hg => H2.out.1.own g (g4 g hg)) g5
        have hap := H2.out.2.2.2
        have hz := H2.out.1.ord
        have H3 := Lib.hid (And.intro hC2 (And.intro (g5.range H2.out.2.1 (by omega)) (And.intro (g5.there H2.out.2.2.1 (by decide) (by omega)) hap)))
        have HLEN2 := Lib.hid (show L'.length < 100000 by have := HLEN.out; omega)
        clear hla hless hC2 hap hz g1 g2 g3 g4 g5 H2
        have HG := Lib.hid trivial
        go_wp2_with (first
          | (have _ := HG; refine wpList_var_sum (by rfl) rfl _ _ rfl t rfl rfl ?_; intro W8 hb hr _; obtain ⟨z16, hz16⟩ : ∃ x, x = W7.heap.size := ⟨_, rfl⟩; rw [← hz16] at hr ⊢; have kk := Keeps.of_below (X := fun _ => False) hb; have H4 := Lib.hid (And.intro (H3.out.1.below hb) (And.intro (kk.range H3.out.2.1 (fun h => h)) (And.intro (kk.there H3.out.2.2.1 (by decide) (fun h => h)) (And.intro H3.out.2.2.2 hr)))); clear HG hb hr hz16 kk H3)
          | (refine wpList_load_sum rfl _ rfl z16 0 rfl t H4.out.2.2.2.2 ?_)
          | (refine wpList_build_both rfl _ rfl t t rfl ?_)
          | (refine wpList_store_both rfl _ _ rfl z15 0 t t rfl rfl H4.out.2.2.1 ?_))
        have hs5 := range_stored z15 (cells2 t t) 0 W8 (by rw [length_cells2]; exact World.there_setCells H4.out.2.2.1 _ _ _)
        have ht5 := World.there_setCells H4.out.2.2.1 z15 0 (cells2 t t)
        have H5 := Lib.hid (And.intro (H4.out.1.apart (keeps_setCells_ z15 (cells2 t t) 0 W8) H4.out.2.2.2.1) (And.intro hs5 (And.intro ht5 H4.out.2.2.2.1)))
        clear hs5 ht5 H4
        generalize W8.setCells z15 0 (cells2 t t) = W9 at *
        obtain ⟨qk, hqk⟩ : ∃ q, q = (Keys.kn k >>> h) % 2 := ⟨_, rfl⟩
        have hqk2 : qk < 2 := by rw [hqk]; exact Nat.mod_lt _ (by decide)
        have hjoin : ∀ T, join k h T x = sd (if qk = 0 then x else T) (if qk = 0 then T else x) := fun T => by
          unfold join
          have hb : (Keys.kn k).testBit h = decide (qk = 1) := by rw [Keys.bit_odd, hqk]
          rw [hb]
          by_cases h0 : qk = 0
          · subst h0; rfl
          · have h1 : qk = 1 := by omega
            subst h1; rfl
        have HJ := Lib.hid (And.intro hjoin hqk2)
        have HBK := Lib.hid (fun W => bit_any k D W HD.out.2.2)
        rw [HD.out.1, ← hqk] at HBK
        have c0 : (0 : Int) ≤ (qk : Int) := by omega
        have c2 : (qk : Int) < 2 := by omega
        have c3 : qk < 2 := hqk2
        clear hqk hjoin hqk2
        refine wp_region_sched (fun V => V.rangeAt z5 0 (cellsOf k) ∧ V.rangeAt z12 0 (cellsOf x)) [.t 1, .s 0, .s 3, .e 2 true, .t 4, .e 5 false] (by kernel_rfl) (by kernel_rfl) (by intro c a d v w h; cases d <;> exact h) ?_
        have HA1 := Lib.hid (And.intro (H5.out.1.below (Below.refl _ _).drew) (And.intro (show (World.drew _).rangeAt z15 0 (cells2 t t) from H5.out.2.1) (And.intro (show (World.drew _).there z15 0 64 from H5.out.2.2.1) H5.out.2.2.2)))
        clear H5
        generalize World.drew _ = V at *
        iterate 1
          refine wpS_t rfl (v := ?_) (by rfl) (fun W => ?_) ?_
          rotate_left
          · go_simp
            try rfl
          try simp only [Act.put, List.setIfInBounds_toArray, List.set_cons_zero, List.set_cons_succ]
        refine wpS_load_sum (by exact ⟨HA1.out.1.r5, HA1.out.1.r12⟩) rfl (by rfl) _ (by rfl) z5 0 (by rfl) k (fun V hV => hV.1) ?_
        try simp only [Act.put, List.setIfInBounds_toArray, List.set_cons_zero, List.set_cons_succ]
        refine wpS_load_sum (by exact ⟨HA1.out.1.r5, HA1.out.1.r12⟩) rfl (by rfl) _ (by rfl) z12 0 (by rfl) x (fun V hV => hV.2) ?_
        try simp only [Act.put, List.setIfInBounds_toArray, List.set_cons_zero, List.set_cons_succ]
        refine wpS_k rfl (by rfl) (fun K hK => ?_)
        go_simp
        refine (HBK.out V).mono ?_
        rintro e9 V1 ⟨rfl, hb⟩
        have HA2 := Lib.hid (And.intro (HA1.out.1.below hb) (And.intro ((Keeps.of_below (X := fun _ => False) hb).range HA1.out.2.1 (fun h => h)) (And.intro ((Keeps.of_below (X := fun _ => False) hb).there HA1.out.2.2.1 (by decide) (fun h => h)) HA1.out.2.2.2)))
        clear hb HA1
        refine hK _ _ ⟨by exact ⟨HA2.out.1.r5, HA2.out.1.r12⟩, ?_⟩; clear hK K
        try simp only [Act.put, List.setIfInBounds_toArray, List.set_cons_zero, List.set_cons_succ]
        iterate 1
          refine wpS_t rfl (v := ?_) (by rfl) (fun W => ?_) ?_
          rotate_left
          · go_simp
            try rfl
          try simp only [Act.put, List.setIfInBounds_toArray, List.set_cons_zero, List.set_cons_succ]
        refine wpS_e rfl (by rfl) (fun K hK => ?_)
        refine wp_store_sum _ _ (by rfl) z15 (qk * 32) x (by rfl) (by rfl) (fun j hj => by have := HA2.out.2.2.1 (qk * 32 + j) (by omega); rw [Nat.zero_add] at this; exact this) ?_
        refine hK _ _ ?_; clear hK K
        try simp only [Act.put]
        obtain ⟨hset, htset⟩ := both_set (s := x) HA2.out.2.1 HA2.out.2.2.1 HJ.out.2
        have k3 : Keeps (· = z15) V1 (V1.setCells z15 (qk * 32) (cellsOf x)) := keeps_setCells_ z15 (cellsOf x) (qk * 32) V1
        have HA3 := Lib.hid (And.intro (HA2.out.1.apart k3 HA2.out.2.2.2) hset)
        clear k3 hset htset HA2 c0 c2 c3
        generalize V1.setCells z15 (qk * 32) (cellsOf x) = V2 at *
        refine wpS_done ?_
        obtain ⟨A, hA⟩ : ∃ A, A = if qk = 0 then x else t := ⟨_, rfl⟩
        obtain ⟨B, hB⟩ : ∃ B, B = if qk = 0 then t else x := ⟨_, rfl⟩
        rw [← hA, ← hB] at HA3
        have hjn := HJ.out.1 t
        rw [← hA, ← hB] at hjn
        have HJN := Lib.hid hjn
        clear hA hB hjn
        have hr2 : ∀ W : World, W.rangeAt z15 0 (cells2 A B) → W.rangeAt z15 0 (cellsOf A) ∧ W.rangeAt z15 32 (cellsOf B) := fun W h => ⟨range_left_ h, by have := range_right_ h; rw [length_cellsOf, Nat.zero_add] at this; exact this⟩
        have HR2 := Lib.hid hr2
        clear hr2
        go_wp2_with fail
        refine wp_region_sched (fun V => (V.rangeAt z15 0 (cellsOf A) ∧ V.rangeAt z15 32 (cellsOf B)) ∧ V.rangeAt z13 0 (cellsOf e)) [.t 0, .t 2, .s 1, .s 3, .s 5, .s 6, .e 4 true, .e 7 false, .e 8 false, .e 9 false] (by kernel_rfl) (by kernel_rfl) (by intro c a d v w h; cases d <;> exact h) ?_
        have HA4 := Lib.hid (And.intro (HA3.out.1.below (Below.refl _ _).drew) (HR2.out V2.drew HA3.out.2))
        clear HA3
        generalize V2.drew = V3 at *
        iterate 2
          refine wpS_t rfl (v := ?_) (by rfl) (fun W => ?_) ?_
          rotate_left
          · go_simp
            try rfl
          try simp only [Act.put, List.setIfInBounds_toArray, List.set_cons_zero, List.set_cons_succ]
        refine wpS_load_sum (by exact ⟨HA4.out.2, HA4.out.1.r13⟩) rfl (by rfl) _ (by rfl) z15 0 (by rfl) A (fun V hV => hV.1.1) ?_
        try simp only [Act.put, List.setIfInBounds_toArray, List.set_cons_zero, List.set_cons_succ]
        refine wpS_load_sum (by exact ⟨HA4.out.2, HA4.out.1.r13⟩) rfl (by rfl) _ (by rfl) z15 32 (by rfl) B (fun V hV => hV.1.2) ?_
        try simp only [Act.put, List.setIfInBounds_toArray, List.set_cons_zero, List.set_cons_succ]
        refine wpS_load_sum (by exact ⟨HA4.out.2, HA4.out.1.r13⟩) rfl (by rfl) _ (by rfl) z13 0 (by rfl) e (fun V hV => hV.2) ?_
        try simp only [Act.put, List.setIfInBounds_toArray, List.set_cons_zero, List.set_cons_succ]
        refine wpS_load_sum (by exact ⟨HA4.out.2, HA4.out.1.r13⟩) rfl (by rfl) _ (by rfl) z13 0 (by rfl) e (fun V hV => hV.2) ?_
        try simp only [Act.put, List.setIfInBounds_toArray, List.set_cons_zero, List.set_cons_succ]
        refine wpS_k rfl (by rfl) (fun K hK => ?_)
        go_simp
        refine (sd_any A B V3).mono ?_
        rintro e9 V4 ⟨rfl, hb⟩
        have kk := Keeps.of_below (X := fun _ => False) hb
        have HA5 := Lib.hid (And.intro (HA4.out.1.below hb) (And.intro (kk.range HA4.out.2.1 (fun h => h)) (kk.range HA4.out.2.2 (fun h => h))))
        clear kk hb HA4
        refine hK _ _ ⟨by exact ⟨HA5.out.2, HA5.out.1.r13⟩, ?_⟩; clear hK K
        try simp only [Act.put, List.setIfInBounds_toArray, List.set_cons_zero, List.set_cons_succ]
        refine wpS_e rfl (by rfl) (fun K hK => ?_)
        go_simp
        refine (sd_any e e V4).mono ?_
        rintro e9 V5 ⟨rfl, hb⟩
        have HA6 := Lib.hid (HA5.out.1.below hb)
        clear hb HA5
        refine hK _ _ ?_; clear hK K
        try simp only [Act.put, List.setIfInBounds_toArray, List.set_cons_zero, List.set_cons_succ]
        refine wpS_e rfl (by rfl) (fun K hK => ?_)
        refine wp_store_sum _ _ (by rfl) z12 0 (sd A B) (by rfl) (by rfl) HA6.out.t12 ?_
        refine hK _ _ ?_; clear hK K
        try simp only [Act.put]
        refine wpS_e rfl (by rfl) (fun K hK => ?_)
        refine wp_store_sum _ _ (by rfl) z13 0 (sd e e) (by rfl) (by rfl) ((keeps_setCells_ z12 (cellsOf (sd A B)) 0 V5).there HA6.out.t13 (by decide) (by have := HA6.out.ord; omega)) ?_
        refine hK _ _ ?_; clear hK K
        try simp only [Act.put]
        refine wpS_done ?_
        have hfin := HA6.out.sides (sd A B) (sd e e)
        have HFIN := Lib.hid hfin
        clear hfin HA6
        have hwj : wrap64 ((D : Int) - 1) = (D : Int) - 1 := by have := HD.out; unfold wrap64; omega
        go_wp2_with fail
        try rw [hwj]
        clear hwj
        refine ⟨⟨h + 1, sd A B, L', fb', vL', by have := HD.out; omega, congrArg _ (by have := HD.out; omega), ?_, by rw [em_succ, ← HE.out]; exact HFIN.out, by have := HLEN2.out; omega⟩, ?_⟩
        · rw [runC, HRUN.out, step_bit HB1.out HLAST.out]
          rw [← HJN.out]
        · simp only [intOf]
          have := HD.out
          omega

      · have hq0 : qb = 0 := by have := HQB.out.1; omega
        subst hq0
        have HB0 := Lib.hid (show (Keys.kn which).testBit h = false from HQB.out.2)
        clear hq1
        go_wp2_with fail
        obtain ⟨qk, hqk⟩ : ∃ q, q = (Keys.kn k >>> h) % 2 := ⟨_, rfl⟩
        have hqk2 : qk < 2 := by rw [hqk]; exact Nat.mod_lt _ (by decide)
        have hjoin : ∀ T, join k h T x = sd (if qk = 0 then x else T) (if qk = 0 then T else x) := fun T => by
          unfold join
          have hb : (Keys.kn k).testBit h = decide (qk = 1) := by rw [Keys.bit_odd, hqk]
          rw [hb]
          by_cases h0 : qk = 0
          · subst h0; rfl
          · have h1 : qk = 1 := by omega
            subst h1; rfl
        have HJ := Lib.hid (And.intro hjoin hqk2)
        have HBK := Lib.hid (fun W => bit_any k D W HD.out.2.2)
        rw [HD.out.1, ← hqk] at HBK
        have c0 : (0 : Int) ≤ (qk : Int) := by omega
        have c2 : (qk : Int) < 2 := by omega
        have c3 : qk < 2 := hqk2
        clear hqk hjoin hqk2
        refine wp_region_sched (fun V => V.rangeAt z5 0 (cellsOf k) ∧ V.rangeAt z12 0 (cellsOf x)) [.t 1, .s 0, .s 3, .e 2 true, .t 4, .e 5 false] (by kernel_rfl) (by kernel_rfl) (by intro c a d v w h; cases d <;> exact h) ?_
        have HA1 := Lib.hid (And.intro (H2.out.1.below (Below.refl _ _).drew) (And.intro (show (World.drew _).rangeAt z15 0 (cells2 e e) from H2.out.2.1) (And.intro (show (World.drew _).there z15 0 64 from H2.out.2.2.1) H2.out.2.2.2)))
        clear H2
        generalize World.drew _ = V at *
        iterate 1
          refine wpS_t rfl (v := ?_) (by rfl) (fun W => ?_) ?_
          rotate_left
          · go_simp
            try rfl
          try simp only [Act.put, List.setIfInBounds_toArray, List.set_cons_zero, List.set_cons_succ]
        refine wpS_load_sum (by exact ⟨HA1.out.1.r5, HA1.out.1.r12⟩) rfl (by rfl) _ (by rfl) z5 0 (by rfl) k (fun V hV => hV.1) ?_
        try simp only [Act.put, List.setIfInBounds_toArray, List.set_cons_zero, List.set_cons_succ]
        refine wpS_load_sum (by exact ⟨HA1.out.1.r5, HA1.out.1.r12⟩) rfl (by rfl) _ (by rfl) z12 0 (by rfl) x (fun V hV => hV.2) ?_
        try simp only [Act.put, List.setIfInBounds_toArray, List.set_cons_zero, List.set_cons_succ]
        refine wpS_k rfl (by rfl) (fun K hK => ?_)
        go_simp
        refine (HBK.out V).mono ?_
        rintro e9 V1 ⟨rfl, hb⟩
        have HA2 := Lib.hid (And.intro (HA1.out.1.below hb) (And.intro ((Keeps.of_below (X := fun _ => False) hb).range HA1.out.2.1 (fun h => h)) (And.intro ((Keeps.of_below (X := fun _ => False) hb).there HA1.out.2.2.1 (by decide) (fun h => h)) HA1.out.2.2.2)))
        clear hb HA1
        refine hK _ _ ⟨by exact ⟨HA2.out.1.r5, HA2.out.1.r12⟩, ?_⟩; clear hK K
        try simp only [Act.put, List.setIfInBounds_toArray, List.set_cons_zero, List.set_cons_succ]
        iterate 1
          refine wpS_t rfl (v := ?_) (by rfl) (fun W => ?_) ?_
          rotate_left
          · go_simp
            try rfl
          try simp only [Act.put, List.setIfInBounds_toArray, List.set_cons_zero, List.set_cons_succ]
        refine wpS_e rfl (by rfl) (fun K hK => ?_)
        refine wp_store_sum _ _ (by rfl) z15 (qk * 32) x (by rfl) (by rfl) (fun j hj => by have := HA2.out.2.2.1 (qk * 32 + j) (by omega); rw [Nat.zero_add] at this; exact this) ?_
        refine hK _ _ ?_; clear hK K
        try simp only [Act.put]
        obtain ⟨hset, htset⟩ := both_set (s := x) HA2.out.2.1 HA2.out.2.2.1 HJ.out.2
        have k3 : Keeps (· = z15) V1 (V1.setCells z15 (qk * 32) (cellsOf x)) := keeps_setCells_ z15 (cellsOf x) (qk * 32) V1
        have HA3 := Lib.hid (And.intro (HA2.out.1.apart k3 HA2.out.2.2.2) hset)
        clear k3 hset htset HA2 c0 c2 c3
        generalize V1.setCells z15 (qk * 32) (cellsOf x) = V2 at *
        refine wpS_done ?_
        obtain ⟨A, hA⟩ : ∃ A, A = if qk = 0 then x else e := ⟨_, rfl⟩
        obtain ⟨B, hB⟩ : ∃ B, B = if qk = 0 then e else x := ⟨_, rfl⟩
        rw [← hA, ← hB] at HA3
        have hjn := HJ.out.1 e
        rw [← hA, ← hB] at hjn
        have HJN := Lib.hid hjn
        clear hA hB hjn
        have hr2 : ∀ W : World, W.rangeAt z15 0 (cells2 A B) → W.rangeAt z15 0 (cellsOf A) ∧ W.rangeAt z15 32 (cellsOf B) := fun W h => ⟨range_left_ h, by have := range_right_ h; rw [length_cellsOf, Nat.zero_add] at this; exact this⟩
        have HR2 := Lib.hid hr2
        clear hr2
        go_wp2_with fail
        refine wp_region_sched (fun V => (V.rangeAt z15 0 (cellsOf A) ∧ V.rangeAt z15 32 (cellsOf B)) ∧ V.rangeAt z13 0 (cellsOf e)) [.t 0, .t 2, .s 1, .s 3, .s 5, .s 6, .e 4 true, .e 7 false, .e 8 false, .e 9 false] (by kernel_rfl) (by kernel_rfl) (by intro c a d v w h; cases d <;> exact h) ?_
        have HA4 := Lib.hid (And.intro (HA3.out.1.below (Below.refl _ _).drew) (HR2.out V2.drew HA3.out.2))
        clear HA3
        generalize V2.drew = V3 at *
        iterate 2
          refine wpS_t rfl (v := ?_) (by rfl) (fun W => ?_) ?_
          rotate_left
          · go_simp
            try rfl
          try simp only [Act.put, List.setIfInBounds_toArray, List.set_cons_zero, List.set_cons_succ]
        refine wpS_load_sum (by exact ⟨HA4.out.2, HA4.out.1.r13⟩) rfl (by rfl) _ (by rfl) z15 0 (by rfl) A (fun V hV => hV.1.1) ?_
        try simp only [Act.put, List.setIfInBounds_toArray, List.set_cons_zero, List.set_cons_succ]
        refine wpS_load_sum (by exact ⟨HA4.out.2, HA4.out.1.r13⟩) rfl (by rfl) _ (by rfl) z15 32 (by rfl) B (fun V hV => hV.1.2) ?_
        try simp only [Act.put, List.setIfInBounds_toArray, List.set_cons_zero, List.set_cons_succ]
        refine wpS_load_sum (by exact ⟨HA4.out.2, HA4.out.1.r13⟩) rfl (by rfl) _ (by rfl) z13 0 (by rfl) e (fun V hV => hV.2) ?_
        try simp only [Act.put, List.setIfInBounds_toArray, List.set_cons_zero, List.set_cons_succ]
        refine wpS_load_sum (by exact ⟨HA4.out.2, HA4.out.1.r13⟩) rfl (by rfl) _ (by rfl) z13 0 (by rfl) e (fun V hV => hV.2) ?_
        try simp only [Act.put, List.setIfInBounds_toArray, List.set_cons_zero, List.set_cons_succ]
        refine wpS_k rfl (by rfl) (fun K hK => ?_)
        go_simp
        refine (sd_any A B V3).mono ?_
        rintro e9 V4 ⟨rfl, hb⟩
        have kk := Keeps.of_below (X := fun _ => False) hb
        have HA5 := Lib.hid (And.intro (HA4.out.1.below hb) (And.intro (kk.range HA4.out.2.1 (fun h => h)) (kk.range HA4.out.2.2 (fun h => h))))
        clear kk hb HA4
        refine hK _ _ ⟨by exact ⟨HA5.out.2, HA5.out.1.r13⟩, ?_⟩; clear hK K
        try simp only [Act.put, List.setIfInBounds_toArray, List.set_cons_zero, List.set_cons_succ]
        refine wpS_e rfl (by rfl) (fun K hK => ?_)
        go_simp
        refine (sd_any e e V4).mono ?_
        rintro e9 V5 ⟨rfl, hb⟩
        have HA6 := Lib.hid (HA5.out.1.below hb)
        clear hb HA5
        refine hK _ _ ?_; clear hK K
        try simp only [Act.put, List.setIfInBounds_toArray, List.set_cons_zero, List.set_cons_succ]
        refine wpS_e rfl (by rfl) (fun K hK => ?_)
        refine wp_store_sum _ _ (by rfl) z12 0 (sd A B) (by rfl) (by rfl) HA6.out.t12 ?_
        refine hK _ _ ?_; clear hK K
        try simp only [Act.put]
        refine wpS_e rfl (by rfl) (fun K hK => ?_)
        refine wp_store_sum _ _ (by rfl) z13 0 (sd e e) (by rfl) (by rfl) ((keeps_setCells_ z12 (cellsOf (sd A B)) 0 V5).there HA6.out.t13 (by decide) (by have := HA6.out.ord; omega)) ?_
        refine hK _ _ ?_; clear hK K
        try simp only [Act.put]
        refine wpS_done ?_
        have hfin := HA6.out.sides (sd A B) (sd e e)
        have HFIN := Lib.hid hfin
        clear hfin HA6
        have hwj : wrap64 ((D : Int) - 1) = (D : Int) - 1 := by have := HD.out; unfold wrap64; omega
        go_wp2_with fail
        try rw [hwj]
        clear hwj
        refine ⟨⟨h + 1, sd A B, L, fb, vL, by have := HD.out; omega, congrArg _ (by have := HD.out; omega), ?_, by rw [em_succ, ← HE.out]; exact HFIN.out, by have := HLEN.out; omega⟩, ?_⟩
        · rw [runC, HRUN.out, step_none HB0.out]
          rw [← HJN.out, HE.out]
        · simp only [intOf]
          have := HD.out
          omega

    · have e6 : h = 256 := by omega
      subst e6
      clear hlt hh
      have c1 : decide ((0 : Int) ≤ (255 : Int) - ((256 : Nat) : Int)) = false := by decide
      rw [HRUN.out] at HR
      have f1 := HC.out.f10.cell
      have f2 := HC.out.c9.cell
      obtain ⟨aL, cL, rfl, _, _, _⟩ := id HC.out.sL
      have heq := eq_sums x root
      obtain ⟨N, hN⟩ : ∃ N, N = L.length := ⟨_, rfl⟩
      rw [← hN] at f2
      have HN := Lib.hid hN
      clear hN
      cases fb with
      | true =>
        have hR : R = false := by rw [HR.out]; simp
        subst hR
        go_wp2_with fail
        exact bodyPost_ret (results_tmp rfl _ _ _) rfl ⟨rfl, HC.out.bw⟩
      | false =>
        by_cases hN0 : N = 0
        · have hL0 : L = [] := List.length_eq_zero_iff.1 (by rw [← HN.out, hN0])
          have n1 : decide (N = 0) = true := by simpa using hN0
          have n2 : decide ((N : Int) = 0) = true := by simp; omega
          have n3 : ((N : Int) == 0) = true := by rw [beq_iff_eq]; omega
          have hR : R = decide (x = root) := by rw [HR.out, hL0]; simp
          have HRR := Lib.hid hR
          rw [← hR] at heq
          clear hL0 hR
          go_wp2_with (first
            | (refine wpList_load_sum_g (by rfl) _ rfl z12 0 rfl x HC.out.r12 ?_)
            | (refine wpList_load_sum_g (by rfl) _ rfl z4 0 rfl root HC.out.r4 ?_))
          exact bodyPost_ret (results_tmp rfl _ _ _) rfl ⟨rfl, HC.out.bw⟩
        · have hL0 : L ≠ [] := fun e => hN0 (by rw [HN.out, e]; rfl)
          have n1 : decide (N = 0) = false := by simpa using hN0
          have n2 : decide ((N : Int) = 0) = false := by simp; omega
          have n3 : ((N : Int) == 0) = false := by rw [beq_eq_false_iff_ne]; omega
          have hR : R = false := by rw [HR.out]; simp [hL0]
          subst hR
          clear hL0
          go_wp2_with fail
          exact bodyPost_ret (results_tmp rfl _ _ _) rfl ⟨rfl, HC.out.bw⟩
end Go.Proofs.YtfmgoehnbaiamaaGreatDoor
