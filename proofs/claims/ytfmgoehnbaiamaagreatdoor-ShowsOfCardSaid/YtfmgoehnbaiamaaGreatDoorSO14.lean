/-
  The law ShowsOf.
-/
import Derived.Test.YtfmgoehnbaiamaaGreatDoorZBV
import Derived.Test.YtfmgoehnbaiamaaGreatDoorZBW
import Derived.Test.YtfmgoehnbaiamaaGreatDoorZBX
open Go Go.RowKit Alm
namespace Go.Proofs.YtfmgoehnbaiamaaGreatDoor
theorem wpList_var_show {ops : Array Oper} {rest : List Oper} {op : Oper} {a : Act} {w : World} {C : Array Value} {t : TypeId} {Q : Exit → Act → World → Prop} (hC : C.size = 33) (hgd : op.guard = none) (x y : Operand) (ho : op.op = .store 63 x y) (which : Sum) (v : Value) (hv : v.oneCell' = true)
    (hx : a.eval x = .pointer (some ⟨w.heap.size, 0, none⟩)) (hy : a.eval y = shV which v)
    (h : ∀ W', Below w.heap.size w W' → W'.rangeAt w.heap.size 0 (cellsShow which v) → wpList Tryz.prog ops Q rest (a.put op.dst undef) W') : wpList Tryz.prog ops Q (op :: rest) a (w.alloc (.cells C t)) := by
  have ht : (w.alloc (.cells C t)).there w.heap.size 0 33 := by rw [← hC]; exact there_new _ _ _
  have hsz : (cellsShow which v).toArray.size = 33 := by rw [List.size_toArray, length_cellsShow]
  have ht2 := World.there_setCells ht w.heap.size 0 (cellsShow which v)
  exact wpList_store_mid hgd _ x y ho w.heap.size 0 _ hx hy (by rw [hsz]; exact ht) (by rw [hsz]; exact infoShow) (one_cellsShow which hv) (h _ (setCells_below _ (Nat.le_refl _) _ 0 _ _ (al (Below.refl _ _) _)) (range_stored _ _ _ _ (by rw [length_cellsShow]; exact ht2)))
theorem said_root {w : World} {b : Nat} {root k zw : Sum} {v s : Value} (h : w.rangeAt b 0 (cells16 root k v zw s)) : w.rangeAt b 0 (cellsOf root) := (range_append.1 h).1
theorem said_rest {w : World} {b : Nat} {root k zw : Sum} {v s : Value} (h : w.rangeAt b 0 (cells16 root k v zw s)) : w.rangeAt b 32 (cellsOf k ++ ([v] ++ cellsShow zw s)) := by
  have := (range_append.1 h).2
  rwa [length_cellsOf, Nat.zero_add] at this
theorem said_key {w : World} {b : Nat} {root k zw : Sum} {v s : Value} (h : w.rangeAt b 0 (cells16 root k v zw s)) : w.rangeAt b 32 (cellsOf k) := (range_append.1 (said_rest h)).1
theorem said_rest2 {w : World} {b : Nat} {root k zw : Sum} {v s : Value} (h : w.rangeAt b 0 (cells16 root k v zw s)) : w.rangeAt b 64 ([v] ++ cellsShow zw s) := by
  have := (range_append.1 (said_rest h)).2
  rwa [length_cellsOf] at this
theorem said_v {w : World} {b : Nat} {root k zw : Sum} {v s : Value} (h : w.rangeAt b 0 (cells16 root k v zw s)) : w.cell? ⟨b, 64, none⟩ = some v := by
  have := said_rest2 h 0 v rfl
  exact this
theorem said_show {w : World} {b : Nat} {root k zw : Sum} {v s : Value} (h : w.rangeAt b 0 (cells16 root k v zw s)) : w.rangeAt b 65 (cellsShow zw s) := (range_append.1 (said_rest2 h)).2
theorem said_s {w : World} {b : Nat} {root k zw : Sum} {v s : Value} (h : w.rangeAt b 0 (cells16 root k v zw s)) : w.cell? ⟨b, 97, none⟩ = some s := by
  have := said_show h 32 s (by rw [cellsShow, List.getElem?_append_right (by rw [length_cellsOf]; omega), length_cellsOf]; rfl)
  exact this
/-- What stands of the law's own. -/
structure SOW (w W : World) (P : List Keys.Pr) (k root zk zw : Sum) (vz vs : Value) (bz : List UInt8) (Sz : List Sum) (xv : Value) (p b : Nat) (lm : List Ent) : Prop where
  bw : Below w.heap.size w W
  rk : W.rangeAt w.heap.size 0 (cellsOf k)
  rs : W.rangeAt (w.heap.size + 1) 0 (cells16 root zk vz zw vs)
  bz : BytesAt W vz bz
  sz : SumsAt W vs Sz
  xs : PairsAt W xv (puts [] P)
  mp : MapIn W p b P.length lm
theorem SOW.below {w W W' : World} {P : List Keys.Pr} {k root zk zw : Sum} {vz vs : Value} {bz : List UInt8} {Sz : List Sum} {xv : Value} {p b : Nat} {lm : List Ent} (h : SOW w W P k root zk zw vz vs bz Sz xv p b lm) (hb : Below W.heap.size W W') : SOW w W' P k root zk zw vz vs bz Sz xv p b lm :=
  have kk := Keeps.of_below (X := fun _ => False) hb
  ⟨h.bw.trans (hb.mono h.bw.size), kk.range h.rk (fun h => h), kk.range h.rs (fun h => h), bytes_below h.bz hb (Nat.le_refl _), h.sz.below hb (Nat.le_refl _), h.xs.below hb, h.mp.below hb⟩
theorem puts_few {P : List Keys.Pr} {l : List Ent} (h : prs l = puts [] P) (hP : P.length ≤ 16) : l.length ≤ 16 := by
  have h1 := congrArg List.length h
  have h2 := length_puts P []
  simp [prs] at h1 h2
  omega
theorem sides_few (k : Sum) {P : List Keys.Pr} {l : List Ent} (h : prs l = puts [] P) (hP : P.length ≤ 16) : (sidesOf (tells k 256 (prs l))).length ≤ 16 := by
  have h1 := length_sides k 256 (prs l)
  have h2 := puts_few h hP
  simp [prs] at h1 ⊢
  omega
/-- What stands beside it when all is made. -/
structure SOX (w W : World) (P : List Keys.Pr) (k root zk zw : Sum) (vz vs : Value) (bz : List UInt8) (Sz : List Sum) (xv : Value) (p b : Nat) (lm : List Ent) (which : Sum) (vt vv vS : Value) (tb vb xb z9 z11 : Nat) : Prop where
  o : SOW w W P k root zk zw vz vs bz Sz xv p b lm
  t : TwinS W tb vt Sz
  v : TwinB W vb vv bz
  x : SumsNew W xb vS (sidesOf (tells k 256 (prs lm)))
  r9 : W.rangeAt z9 0 (cellsShow zw vt)
  r11 : W.rangeAt z11 0 (cellsShow which vS)
theorem SOX.below {w W W' : World} {P : List Keys.Pr} {k root zk zw : Sum} {vz vs : Value} {bz : List UInt8} {Sz : List Sum} {xv : Value} {p b : Nat} {lm : List Ent} {which : Sum} {vt vv vS : Value} {tb vb xb z9 z11 : Nat} (h : SOX w W P k root zk zw vz vs bz Sz xv p b lm which vt vv vS tb vb xb z9 z11) (hb : Below W.heap.size W W') : SOX w W' P k root zk zw vz vs bz Sz xv p b lm which vt vv vS tb vb xb z9 z11 :=
  have kk := Keeps.of_below (X := fun _ => False) hb
  ⟨h.o.below hb, h.t.below hb, h.v.below hb, h.x.keep kk (fun _ _ h => h), kk.range h.r9 (fun h => h), kk.range h.r11 (fun h => h)⟩
set_option maxRecDepth 100000 in
set_option maxHeartbeats 2000000 in
theorem showsOf_any (P : List Keys.Pr) (vl : Value) (k root zk zw : Sum) (vz vs : Value) (bz : List UInt8) (Sz : List Sum) (w : World) (hl : PairsAt w vl P) (hb : BytesAt w vz bz) (hs : SumsAt w vs Sz) :
    Calls Tryz.prog 4 #[vl, sv k, said16 root zk vz zw vs] w fun e w' => e = .returned (.bool true) ∧ Below w.heap.size w w' := by
  obtain ⟨w1, hw1⟩ : ∃ x, x = w.alloc (.cells (cellsOf k).toArray 24) := ⟨_, rfl⟩
  obtain ⟨w2, hw2⟩ : ∃ x, x = w1.alloc (.cells (cells16 root zk vz zw vs).toArray 65) := ⟨_, rfl⟩
  have r1 : w1.rangeAt w.heap.size 0 (cellsOf k) := by rw [hw1]; exact range_new w _ _ _ rfl
  have r2 : w2.rangeAt w1.heap.size 0 (cells16 root zk vz zw vs) := by rw [hw2]; exact range_new w1 _ _ _ rfl
  have b1 : Below w.heap.size w w1 := by rw [hw1]; exact al (Below.refl _ _) _
  have b2 : Below w1.heap.size w1 w2 := by rw [hw2]; exact al (Below.refl _ _) _
  have r12 := (Keeps.of_below (X := fun _ => False) b2).range r1 (fun h => h)
  have b12 := b1.trans (b2.mono b1.size)
  have s1 : w1.heap.size = w.heap.size + 1 := by rw [hw1, World.size_alloc]
  rw [s1] at r2
  have hg := great16_any P vl w2 (hl.below b12)
  have H0 := Lib.hid (And.intro r12 (And.intro r2 (And.intro b12 (And.intro (hl.below b12) (And.intro (bytes_below hb b12 (Nat.le_refl _)) (hs.below b12 (Nat.le_refl _)))))))
  have HG0 := Lib.hid hg
  have HW := Lib.hid (And.intro hw1 hw2)
  obtain ⟨a0, c0, rfl, hz1, _, _⟩ := id hb
  obtain ⟨a1, c1, rfl, hz2, _, _⟩ := id hs
  obtain ⟨n0, hn0⟩ : ∃ n, n = bz.length := ⟨_, rfl⟩
  obtain ⟨m0, hm0⟩ : ∃ n, n = Sz.length := ⟨_, rfl⟩
  rw [← hn0, ← hm0] at H0 HW
  rw [← hn0] at hz1
  rw [← hm0] at hz2
  rw [← hn0, ← hm0]
  have HN := Lib.hid (And.intro hn0 hm0)
  have q1 : (n0 : Int) ≤ (c0 : Int) := by omega
  have q2 : (m0 : Int) ≤ (c1 : Int) := by omega
  clear r1 r2 b1 b2 r12 b12 s1 hg hw1 hw2 hl hb hs hn0 hm0
  unfold said16
  go_enter Tryz.func4, Tryz.ntmps4
  refine Alm.wp_cut 1 ?_
  intro T hT
  dsimp only [cutN]
  replace hT := Lib.hid hT
  go_wp2_with fail
  refine hT.out _ _ ?_
  clear hT
  dsimp only [dropN]
  change Code.wp _ _ _ _ ((w.alloc (.cells (cellsOf k).toArray 24)).alloc (.cells (cells16 root zk (.slice a0 n0 c0) zw (.slice a1 m0 c1)).toArray 65))
  rw [← HW.out.1, ← HW.out.2]
  clear HW
  go_wp2_with fail
  refine HG0.out.mono ?_
  rintro e w3 ⟨r, rfl, hr, hb3⟩
  have kk := Keeps.of_below (X := fun _ => False) hb3
  have g64 := said_v (kk.range H0.out.2.1 (fun h => h))
  have g97 := said_s (kk.range H0.out.2.1 (fun h => h))
  have H3 := Lib.hid (And.intro (kk.range H0.out.1 (fun h => h)) (And.intro (kk.range H0.out.2.1 (fun h => h)) (And.intro (H0.out.2.2.1.trans (hb3.mono H0.out.2.2.1.size)) (And.intro (H0.out.2.2.2.1.below hb3) (And.intro (bytes_below H0.out.2.2.2.2.1 hb3 (Nat.le_refl _)) (H0.out.2.2.2.2.2.below hb3 (Nat.le_refl _)))))))
  have HR := Lib.hid hr
  clear kk hb3 hr H0 HG0
  cases r with
  | true =>
    go_wp2_with fail
    exact bodyPost_ret (results_tmp rfl _ _ _) rfl ⟨rfl, H3.out.2.2.1⟩
  | false =>
    by_cases h3 : 3000 < n0
    · have c1' : decide (3000 < n0) = true := by simpa using h3
      have c2' : decide ((3000 : Int) < (n0 : Int)) = true := by simp; omega
      go_wp2_with fail
      exact bodyPost_ret (results_tmp rfl _ _ _) rfl ⟨rfl, H3.out.2.2.1⟩
    · have c1' : decide (3000 < n0) = false := by simpa using h3
      have c2' : decide ((3000 : Int) < (n0 : Int)) = false := by simp; omega
      by_cases h6 : 600 < m0
      · have d1' : decide (600 < m0) = true := by simpa using h6
        have d2' : decide ((600 : Int) < (m0 : Int)) = true := by simp; omega
        go_wp2_with fail
        exact bodyPost_ret (results_tmp rfl _ _ _) rfl ⟨rfl, H3.out.2.2.1⟩
      · have d1' : decide (600 < m0) = false := by simpa using h6
        have d2' : decide ((600 : Int) < (m0 : Int)) = false := by simp; omega
        have HP := Lib.hid (And.intro (HR.out rfl) (And.intro (by omega : n0 ≤ 3000) (by omega : m0 ≤ 600)))
        clear HR h3 h6
        go_wp2_with fail
        clear c1' c2' d1' d2' g64 g97
        refine (of16_all P vl w3 H3.out.2.2.2.1 (by have := HP.out.1; omega)).mono ?_
        rintro e w4 ⟨p, b, lm, xv, rfl, hx, hm, hpx, hpp, hbb, hpb, hb4⟩
        have kk := Keeps.of_below (X := fun _ => False) hb4
        have H4 := Lib.hid (show SOW w w4 P k root zk zw (.slice a0 n0 c0) (.slice a1 m0 c1) bz Sz xv p b lm from ⟨H3.out.2.2.1.trans (hb4.mono H3.out.2.2.1.size), kk.range H3.out.1 (fun h => h), kk.range H3.out.2.1 (fun h => h), bytes_below H3.out.2.2.2.2.1 hb4 (Nat.le_refl _), H3.out.2.2.2.2.2.below hb4 (Nat.le_refl _), hx, hm⟩)
        have HX := Lib.hid (And.intro trivial (And.intro hpx trivial))
        clear kk hb4 H3 hx hm hpx hpp hbb hpb
        go_wp2_with (refine wpList_load_mid rfl 63 _ rfl (w.heap.size + 1) 65 rfl (cellsShow zw (.slice a1 m0 c1)) _ (said_show H4.out.rs) Tryz.underlying63 rfl (by rw [length_cellsShow]; exact infoShow) ?_)
        refine (twin_show zw (.slice a1 m0 c1) Sz w4 H4.out.sz (by have := HP.out.2.2; have := HN.out.2; omega)).mono ?_
        rintro e w5 ⟨vt, rfl, ht, hb5⟩
        obtain ⟨gt, ct, rfl, _⟩ := id ht
        obtain ⟨ns, hns⟩ : ∃ n, n = Sz.length := ⟨_, rfl⟩
        rw [← hns] at ht ⊢
        have HT := Lib.hid (And.intro (ht : TwinS w5 w4.heap.size (.slice (some ⟨gt, 0, none⟩) ns ct) Sz) (show w.heap.size ≤ w4.heap.size from H4.out.bw.size))
        have H5 := Lib.hid (H4.out.below hb5)
        have HNS := Lib.hid hns
        clear ht hb5 H4 hns
        have HG := Lib.hid trivial
        go_wp2_with (have _ := HG; refine wpList_var_show (by rfl) rfl _ _ rfl zw (.slice (some ⟨gt, 0, none⟩) ns ct) (by rfl) rfl rfl ?_; intro W6 hb hr; obtain ⟨z9, hz9⟩ : ∃ x, x = w5.heap.size := ⟨_, rfl⟩; rw [← hz9] at hr ⊢; have H6 := Lib.hid (And.intro (H5.out.below hb) (And.intro (HT.out.1.below hb) hr)); have g64 := said_v (H5.out.below hb).rs; clear HG hb hr hz9 H5)
        refine (twin_bytes bz (.slice a0 n0 c0) W6 H6.out.1.bz (by have := HP.out.2.1; have := HN.out.1; omega)).mono ?_
        rintro e W7 ⟨vv, rfl, hv7, hb7⟩
        have H7 := Lib.hid (And.intro (H6.out.1.below hb7) (And.intro (H6.out.2.1.below hb7) (And.intro ((Keeps.of_below (X := fun _ => False) hb7).range H6.out.2.2 (fun h => h)) (And.intro hv7 H6.out.1.bw.size))))
        have HWS := Lib.hid (show w.heap.size ≤ W6.heap.size from H6.out.1.bw.size)
        have HW7 := Lib.hid (show w.heap.size ≤ W7.heap.size from H7.out.1.bw.size)
        have HBK := Lib.hid (And.intro (H6.out.2.1.lie.lt gt rfl).2 (hv7.lie.lt))
        clear g64 hv7 hb7 H6
        go_wp2_with (refine wpList_load_sum rfl _ rfl w.heap.size 0 rfl k H7.out.1.rk ?_)
        refine (sof_any k W7 p b P.length lm H7.out.1.mp (by
          have h1 := puts_few HX.out.2.1 HP.out.1
          omega)).mono ?_
        rintro e W8 ⟨which, vS, rfl, hS8, hB8, hb8⟩
        have kk := Keeps.of_below (X := fun _ => False) hb8
        have H8 := Lib.hid (And.intro (H7.out.1.below hb8) (And.intro (H7.out.2.1.below hb8) (And.intro (H7.out.2.2.2.1.below hb8) (And.intro (kk.range H7.out.2.2.1 (fun h => h)) hS8))))
        have HBT := Lib.hid hB8
        have hsf := sides_few k HX.out.2.1 HP.out.1
        obtain ⟨aS, cS, rfl, _, _, _⟩ := hS8.sums
        obtain ⟨MS, hMS⟩ : ∃ x, x = (sidesOf (tells k 256 (prs lm))).length := ⟨_, rfl⟩
        rw [← hMS] at H8 hsf ⊢
        have HMS := Lib.hid (And.intro hMS hsf)
        obtain ⟨gv, cv, rfl, _⟩ := id H7.out.2.2.2.1
        obtain ⟨nv, hnv⟩ : ∃ n, n = bz.length := ⟨_, rfl⟩
        rw [← hnv] at H7 H8 ⊢
        clear kk hb8 hS8 hB8 hsf hMS hnv
        have HG := Lib.hid trivial
        go_wp2_with (have _ := HG; refine wpList_var_show (by rfl) rfl _ _ rfl which (.slice aS MS cS) (by rfl) rfl rfl ?_; intro W9 hb hr; obtain ⟨z11, hz11⟩ : ∃ x, x = W8.heap.size := ⟨_, rfl⟩; rw [← hz11] at hr ⊢; have kk := Keeps.of_below (X := fun _ => False) hb; have H9 := Lib.hid (show SOX w W9 P k root zk zw (.slice a0 n0 c0) (.slice a1 m0 c1) bz Sz xv p b lm which (.slice (some ⟨gt, 0, none⟩) ns ct) (.slice (some ⟨gv, 0, none⟩) nv cv) (.slice aS MS cS) w4.heap.size W6.heap.size W7.heap.size z9 z11 from ⟨H8.out.1.below hb, H8.out.2.1.below hb, H8.out.2.2.1.below hb, H8.out.2.2.2.2.keep kk (fun _ _ h => h), kk.range H8.out.2.2.2.1 (fun h => h), hr⟩); clear HG hb hr hz11 kk H8)
        have hrise : Keys.Rise (puts [] P) := by rw [← HX.out.2.1]; exact prs_rise H9.out.o.mp.rise
        have hfull : Full (puts [] P) := by rw [← HX.out.2.1]; exact ents_full H9.out.o.mp
        have hplen : (puts [] P).length < 100000 := by have h1 := length_puts P []; simp at h1; have := HP.out.1; omega
        have HPU := Lib.hid (And.intro hrise (And.intro hfull hplen))
        obtain ⟨R, hR⟩ : ∃ R, R = checkOf root zk bz zw Sz := ⟨_, rfl⟩
        have hsz1 : Sz.length < 100000 := by have := HP.out.2.2; have := HN.out.2; omega
        have hsz2 : bz.length < 900000 := by have := HP.out.2.1; have := HN.out.1; omega
        have hck := fun (v vS : Value) (w : World) h1 h2 => scheck_any root zk zw v vS bz Sz w h1 h2 hsz1 (by omega)
        have hrk := fun (v vS : Value) (w : World) h1 h2 => rcheck_any root zk zw v vS bz Sz w h1 h2 hsz1 hsz2
        rw [← hR] at hck hrk
        have HCK := Lib.hid (And.intro hck (And.intro hrk (And.intro hsz1 hsz2)))
        clear hrise hfull hplen hR hck hrk hsz1 hsz2
        refine wp_region_sched (fun W => SOX w W P k root zk zw (.slice a0 n0 c0) (.slice a1 m0 c1) bz Sz xv p b lm which (.slice (some ⟨gt, 0, none⟩) ns ct) (.slice (some ⟨gv, 0, none⟩) nv cv) (.slice aS MS cS) w4.heap.size W6.heap.size W7.heap.size z9 z11) [.t 0, .t 1, .t 2, .t 4, .s 3, .e 5 true, .e 6 true, .e 7 true, .t 8, .t 9, .t 10, .t 11, .t 13, .t 15, .t 18, .t 20, .t 22, .t 24, .s 12, .s 14, .s 16, .s 19, .s 21, .s 23, .s 25, .e 17 true, .e 26 true, .t 27, .t 28, .t 29, .t 31, .s 30, .e 32 true, .e 33 false, .t 34, .t 35, .t 36, .t 37, .t 38, .e 39 false, .e 40 false, .t 41, .t 42] (by kernel_rfl) (by kernel_rfl) (by intro c a d v w h; cases d <;> exact h) ?_
        have HS := Lib.hid (H9.out.below (Below.refl _ _).drew)
        clear H9
        generalize W9.drew = V at *
        iterate 4
          refine wpS_t rfl (v := ?_) (by rfl) (fun W => ?_) ?_
          rotate_left
          · go_simp
            try rfl
          try simp only [Act.put, List.setIfInBounds_toArray, List.set_cons_zero, List.set_cons_succ]
        refine wpS_load_mid (by exact HS.out) rfl (by rfl) 63 _ (by rfl) z11 0 (by rfl) (cellsShow which (.slice aS MS cS)) _ (fun W hW => hW.r11) Tryz.underlying63 rfl (by rw [length_cellsShow]; exact infoShow) ?_
        try simp only [Act.put, List.setIfInBounds_toArray, List.set_cons_zero, List.set_cons_succ]
        refine wpS_k rfl (by rfl) (fun K hK => ?_)
        refine wp_load_sum _ (by rfl) w.heap.size 0 (by rfl) k HS.out.o.rk ?_
        refine hK _ _ ⟨by exact HS.out, ?_⟩; clear hK K
        try simp only [Act.put, List.setIfInBounds_toArray, List.set_cons_zero, List.set_cons_succ]
        refine wpS_k rfl (by rfl) (fun K hK => ?_)
        go_simp
        refine (rof_any k (puts [] P) xv V HS.out.o.xs HPU.out.1 HPU.out.2.1 HPU.out.2.2).mono ?_
        rintro e V1 ⟨which', vS', rfl, hs', hB', hb⟩
        rw [← HX.out.2.1] at hs' hB'
        obtain rfl : which' = which := which_eq hB' HBT.out
        have HS1 := Lib.hid (And.intro (HS.out.below hb) hs')
        clear hb hs' hB' HS HPU HBT
        refine hK _ _ ⟨by exact HS1.out.1, ?_⟩; clear hK K
        try simp only [Act.put, List.setIfInBounds_toArray, List.set_cons_zero, List.set_cons_succ]
        refine wpS_k rfl (by rfl) (fun K hK => ?_)
        go_simp
        refine (same_show which' (.slice aS MS cS) vS' (sidesOf (tells k 256 (prs lm))) V1 HS1.out.1.x.sums HS1.out.2 (by have := HMS.out; omega)).mono ?_
        rintro e V2 ⟨rfl, hb⟩
        have HS := Lib.hid (HS1.out.1.below hb)
        clear hb HS1
        refine hK _ _ ⟨by exact HS.out, ?_⟩; clear hK K
        try simp only [Act.put, List.setIfInBounds_toArray, List.set_cons_zero, List.set_cons_succ]
        iterate 10
          refine wpS_t rfl (v := ?_) (by rfl) (fun W => ?_) ?_
          rotate_left
          · go_simp
            try rfl
          try simp only [Act.put, List.setIfInBounds_toArray, List.set_cons_zero, List.set_cons_succ]
        refine wpS_load_sum (by exact HS.out) rfl (by rfl) _ (by rfl) (w.heap.size + 1) 0 (by rfl) root (fun W hW => said_root hW.o.rs) ?_
        try simp only [Act.put, List.setIfInBounds_toArray, List.set_cons_zero, List.set_cons_succ]
        refine wpS_load_sum (by exact HS.out) rfl (by rfl) _ (by rfl) (w.heap.size + 1) 32 (by rfl) zk (fun W hW => said_key hW.o.rs) ?_
        try simp only [Act.put, List.setIfInBounds_toArray, List.set_cons_zero, List.set_cons_succ]
        refine wpS_load_mid (by exact HS.out) rfl (by rfl) 63 _ (by rfl) z9 0 (by rfl) (cellsShow zw (.slice (some ⟨gt, 0, none⟩) ns ct)) _ (fun W hW => hW.r9) Tryz.underlying63 rfl (by rw [length_cellsShow]; exact infoShow) ?_
        try simp only [Act.put, List.setIfInBounds_toArray, List.set_cons_zero, List.set_cons_succ]
        refine wpS_load_sum (by exact HS.out) rfl (by rfl) _ (by rfl) (w.heap.size + 1) 0 (by rfl) root (fun W hW => said_root hW.o.rs) ?_
        try simp only [Act.put, List.setIfInBounds_toArray, List.set_cons_zero, List.set_cons_succ]
        refine wpS_load_sum (by exact HS.out) rfl (by rfl) _ (by rfl) (w.heap.size + 1) 32 (by rfl) zk (fun W hW => said_key hW.o.rs) ?_
        try simp only [Act.put, List.setIfInBounds_toArray, List.set_cons_zero, List.set_cons_succ]
        refine wpS_s (by exact HS.out) rfl (v := .slice a0 n0 c0) (by rfl) (fun W hW => ?_) ?_
        · have g := said_v hW.o.rs
          go_simp
        try simp only [Act.put, List.setIfInBounds_toArray, List.set_cons_zero, List.set_cons_succ]
        refine wpS_load_mid (by exact HS.out) rfl (by rfl) 63 _ (by rfl) (w.heap.size + 1) 65 (by rfl) (cellsShow zw (.slice a1 m0 c1)) _ (fun W hW => said_show hW.o.rs) Tryz.underlying63 rfl (by rw [length_cellsShow]; exact infoShow) ?_
        try simp only [Act.put, List.setIfInBounds_toArray, List.set_cons_zero, List.set_cons_succ]
        refine wpS_k rfl (by rfl) (fun K hK => ?_)
        go_simp
        refine (HCK.out.1 (.slice (some ⟨gv, 0, none⟩) nv cv) (.slice (some ⟨gt, 0, none⟩) ns ct) V2 HS.out.v.bytes HS.out.t.sums).mono ?_
        rintro e V3 ⟨rfl, hb⟩
        have HS3 := Lib.hid (HS.out.below hb)
        clear hb HS
        refine hK _ _ ⟨by exact HS3.out, ?_⟩; clear hK K
        try simp only [Act.put, List.setIfInBounds_toArray, List.set_cons_zero, List.set_cons_succ]
        refine wpS_k rfl (by rfl) (fun K hK => ?_)
        go_simp
        refine (HCK.out.2.1 (.slice a0 n0 c0) (.slice a1 m0 c1) V3 HS3.out.o.bz HS3.out.o.sz).mono ?_
        rintro e V4 ⟨rfl, hb⟩
        have HS := Lib.hid (HS3.out.below hb)
        clear hb HS3
        refine hK _ _ ⟨by exact HS.out, ?_⟩; clear hK K
        try simp only [Act.put, List.setIfInBounds_toArray, List.set_cons_zero, List.set_cons_succ]
        iterate 4
          refine wpS_t rfl (v := ?_) (by rfl) (fun W => ?_) ?_
          rotate_left
          · go_simp
            try rfl
          try simp only [Act.put, List.setIfInBounds_toArray, List.set_cons_zero, List.set_cons_succ]
        refine wpS_load_mid (by exact HS.out) rfl (by rfl) 63 _ (by rfl) z9 0 (by rfl) (cellsShow zw (.slice (some ⟨gt, 0, none⟩) ns ct)) _ (fun W hW => hW.r9) Tryz.underlying63 rfl (by rw [length_cellsShow]; exact infoShow) ?_
        try simp only [Act.put, List.setIfInBounds_toArray, List.set_cons_zero, List.set_cons_succ]
        refine wpS_k rfl (by rfl) (fun K hK => ?_)
        refine wp_load_mid 63 _ (by rfl) (w.heap.size + 1) 65 (by rfl) (cellsShow zw (.slice a1 m0 c1)) _ (said_show HS.out.o.rs) Tryz.underlying63 rfl (by rw [length_cellsShow]; exact infoShow) ?_
        refine hK _ _ ⟨by exact HS.out, ?_⟩; clear hK K
        try simp only [Act.put, List.setIfInBounds_toArray, List.set_cons_zero, List.set_cons_succ]
        refine wpS_e rfl (by rfl) (fun K hK => ?_)
        go_simp
        refine (left_show zw (.slice (some ⟨gt, 0, none⟩) ns ct) (.slice a1 m0 c1) Sz w4.heap.size V4 HS.out.t HS.out.o.sz (by have := HCK.out.2.2.1; omega)).mono ?_
        rintro e V5 ⟨rfl, hb⟩
        have HS5 := Lib.hid (HS.out.below hb)
        clear hb HS
        refine hK _ _ ?_; clear hK K
        try simp only [Act.put, List.setIfInBounds_toArray, List.set_cons_zero, List.set_cons_succ]
        iterate 5
          refine wpS_t rfl (v := ?_) (by rfl) (fun W => ?_) ?_
          rotate_left
          · go_simp
            try rfl
          try simp only [Act.put, List.setIfInBounds_toArray, List.set_cons_zero, List.set_cons_succ]
        refine wpS_e rfl (by rfl) (fun K hK => ?_)
        have g := said_v HS5.out.o.rs
        go_simp
        clear g
        refine hK _ _ ?_; clear hK K
        try simp only [Act.put, List.setIfInBounds_toArray, List.set_cons_zero, List.set_cons_succ]
        refine wpS_e rfl (by rfl) (fun K hK => ?_)
        go_simp
        refine (left_bytes bz (.slice (some ⟨gv, 0, none⟩) nv cv) (.slice a0 n0 c0) W6.heap.size V5 HS5.out.v HS5.out.o.bz HCK.out.2.2.2).mono ?_
        rintro e V6 ⟨rfl, hb⟩
        have HS6 := Lib.hid (HS5.out.below hb)
        clear hb HS5
        refine hK _ _ ?_; clear hK K
        try simp only [Act.put, List.setIfInBounds_toArray, List.set_cons_zero, List.set_cons_succ]
        iterate 2
          refine wpS_t rfl (v := ?_) (by rfl) (fun W => ?_) ?_
          rotate_left
          · go_simp
            try rfl
          try simp only [Act.put, List.setIfInBounds_toArray, List.set_cons_zero, List.set_cons_succ]
        refine wpS_done ?_
        have hwq : w.heap.size ≤ V6.heap.size := HS6.out.o.bw.size
        have hba := Alm.al (Below.refl V6.heap.size V6) (.cells #[.int .i64 0, .slice none 0 0, .slice none 0 0, .slice none 0 0, .slice none 0 0, .slice none 0 0, .slice none 0 0, .slice none 0 0, .slice none 0 0, .slice none 0 0] 38)
        have hbk := mbook_new V6 w.heap.size hwq
        have hgt := (HS6.out.t.lie.lt gt rfl).2
        have hgv := (HS6.out.v.lie.lt gv rfl).2
        have hLX := new_lie HS6.out.x
        have hxo : ∀ i, (Value.slice aS MS cS).ownBlock = some i → W7.heap.size ≤ i ∧ i < V6.heap.size := fun i hi => hLX.lt i hi
        have hgv7 := HBK.out.2 gv rfl
        have hgt6 := HBK.out.1
        have HF := Lib.hid (And.intro hbk (And.intro (HS6.out.below hba) hba))
        have HQ := Lib.hid (show w.heap.size ≤ V6.heap.size ∧ gt < V6.heap.size ∧ gv < V6.heap.size ∧ gt < gv ∧ gv < W7.heap.size ∧ (∀ i, (Value.slice aS MS cS).ownBlock = some i → W7.heap.size ≤ i ∧ i < V6.heap.size) from ⟨hwq, hgt, hgv, by omega, hgv7.2, hxo⟩)
        clear hwq hba hbk hgt hgv hLX hxo hgv7 hgt6 HBK
        go_wp2_with (refine wpList_load_mid rfl 63 _ rfl z9 0 rfl (cellsShow zw (.slice (some ⟨gt, 0, none⟩) ns ct)) _ HF.out.2.1.r9 Tryz.underlying63 rfl (by rw [length_cellsShow]; exact infoShow) ?_)
        obtain ⟨q, hq⟩ : ∃ q, q = V6.heap.size := ⟨_, rfl⟩
        have HQE := Lib.hid hq
        rw [← hq] at HF HQ ⊢
        clear hq
        generalize (V6.alloc (.cells #[.int .i64 0, .slice none 0 0, .slice none 0 0, .slice none 0 0, .slice none 0 0, .slice none 0 0, .slice none 0 0, .slice none 0 0, .slice none 0 0, .slice none 0 0] 38)) = B0 at *
        have hno : ∀ i, ¬ OfKind (.slice none 0 0) [] i := fun i h => by
          rcases h with e | ⟨j, hj, _⟩
          · cases e
          · simp at hj
        have HNO := Lib.hid hno
        clear hno
        refine (tell_show zw (some ⟨gt, 0, none⟩) ns ct (Sz.map cellsOf) w.heap.size q 0 _ [] [] _ _ B0 HF.out.1 (HF.out.2.1.t.lie.mono HT.out.2) (fun i hi h => by
          obtain rfl : gt = i := by simpa [Value.ownBlock] using hi
          rcases h with e | e | e
          · have := HQ.out.2.1; omega
          · exact HNO.out _ e
          · exact HNO.out _ e) (by decide) (by decide) (by rw [List.length_map]; have := HCK.out.2.2.1; omega)).mono ?_
        rintro e B1 ⟨rfl, v1, hm1, hf1, hk1⟩
        have hb1 : Below q V6 B1 := HF.out.2.2.trans (hk1.below (Nat.le_of_lt HF.out.1.bk.lt) (fun i hi => by
          rcases hi with e | e
          · omega
          · cases e))
        have hB0 : q ≤ B0.heap.size := Nat.le_of_lt HF.out.1.bk.lt
        have HM1 := Lib.hid (And.intro hm1 (And.intro hf1 (And.intro hb1 (And.intro (HS6.out.below (by rw [← HQE.out]; exact hb1)) hB0))))
        clear hm1 hf1 hb1 hk1 hB0 HF
        go_wp2_with fail
        refine (tell_bytes (some ⟨gv, 0, none⟩) nv cv (ones bz) w.heap.size q 1 _ [] _ _ _ B1 HM1.out.1 (HM1.out.2.2.2.1.v.lie.mono (by have h1 := HWS.out; exact h1)) (fun i hi h => by
          obtain rfl : gv = i := by simpa [Value.ownBlock] using hi
          have hq := HQ.out
          rcases h with e | e | e
          · omega
          · rw [put_other _ _ (by decide : (1 : Nat) ≠ 5)] at e
            exact HNO.out _ e
          · rw [put_self] at e
            rcases kind_told (N := B0.heap.size) e HM1.out.2.1 with e | e | e
            · exact HNO.out _ e
            · have := HM1.out.2.2.2.2; omega
            · have : gt = gv := by simpa [Value.ownBlock] using e
              omega) (by decide) (by decide) (by have := HCK.out.2.2.2; simp only [ones, List.length_map]; omega)).mono ?_
        rintro e B2 ⟨rfl, v2, hm2, hf2, hk2⟩
        have hb2 : Below q V6 B2 := HM1.out.2.2.1.trans (hk2.below (Nat.le_of_lt HM1.out.1.bk.lt) (fun i hi => by
          rcases hi with e | e
          · omega
          · rw [put_other _ _ (by decide : (1 : Nat) ≠ 5)] at e
            cases e))
        have hB1 : q ≤ B1.heap.size := Nat.le_of_lt HM1.out.1.bk.lt
        have HM2 := Lib.hid (And.intro hm2 (And.intro hf2 (And.intro hb2 (And.intro (HS6.out.below (by rw [← HQE.out]; exact hb2)) hB1))))
        clear hm2 hf2 hb2 hk2 hB1
        go_wp2_with (refine wpList_load_mid rfl 63 _ rfl z11 0 rfl (cellsShow which' (.slice aS MS cS)) _ HM2.out.2.2.2.1.r11 Tryz.underlying63 rfl (by rw [length_cellsShow]; exact infoShow) ?_)
        refine (tell_show which' aS MS cS ((sidesOf (tells k 256 (prs lm))).map cellsOf) w.heap.size q 2 _ _ _ _ _ B2 HM2.out.1 ((new_lie HM2.out.2.2.2.1.x).mono HW7.out) (fun i hi h => by
          have hq := HQ.out
          have hxi := HQ.out.2.2.2.2.2 i hi
          rcases h with e | e | e
          · omega
          · rw [put_self] at e
            rcases kind_told (N := B1.heap.size) e HM2.out.2.1 with e | e | e
            · rw [put_other _ _ (by decide : (1 : Nat) ≠ 5)] at e
              exact HNO.out _ e
            · have := HM2.out.2.2.2.2; omega
            · have : gv = i := by simpa [Value.ownBlock] using e
              omega
          · rw [put_other _ _ (by decide : (5 : Nat) ≠ 1), put_self] at e
            rcases kind_told (N := B0.heap.size) e HM1.out.2.1 with e | e | e
            · exact HNO.out _ e
            · have := HM1.out.2.2.2.2; omega
            · have : gt = i := by simpa [Value.ownBlock] using e
              omega) (by decide) (by simp) (by rw [List.length_map]; have := HMS.out; omega)).mono ?_
        rintro e B3 ⟨rfl, v3, hm3, hf3, hk3⟩
        have hb3 : Below w.heap.size w B3 := by
          have hB2 : w.heap.size ≤ B2.heap.size := Nat.le_trans HQ.out.1 (Nat.le_of_lt HM2.out.1.bk.lt)
          have h1 : Below w.heap.size w B2 := HM2.out.2.2.2.1.o.bw
          exact h1.trans (hk3.below hB2 (fun i hi => by
            rcases hi with e | e
            · rw [e]; exact HQ.out.1
            · exact (HM2.out.1.lt (.inr (.inr (.inl e)))).1))
        have HM3 := Lib.hid (And.intro hm3 hb3)
        clear hm3 hf3 hk3 hb3
        go_wp2_with fail
        refine (apart_both w.heap.size q 3 _ _ _ _ _ B3 HM3.out.1 (by decide) (by simp) (by simp)).mono ?_
        rintro e B4 ⟨rfl, hk4⟩
        have HB4 := Lib.hid (HM3.out.2.trans (hk4.below HM3.out.2.size (fun i hi => (HM3.out.1.lt hi).1)))
        clear hk4
        go_wp2_with fail
        exact bodyPost_ret (results_tmp rfl _ _ _) rfl ⟨rfl, HB4.out⟩
end Go.Proofs.YtfmgoehnbaiamaaGreatDoor
