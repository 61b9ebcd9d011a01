/-
  Walks: almonerlaw12.alive.
-/
import Derived.Test.YtdkcndgehgmadaaK6
import Derived.Test.YtdkcndgehgmadaaK7
import Derived.Test.YtdkcndgehgmadaaB7
import Derived.Lib.SlBytesRow
open Go Go.RowKit Alm
namespace Go.Proofs.Ytdkcndgehgmadaa
theorem bytes_string {w : World} {v : Value} (x : UInt8) (h : BytesAt w v [x]) : (convert 50 9 v).run Try.prog w = .ok (.string ⟨#[x]⟩) w := by
  obtain ⟨a, cap, rfl, h1, h2, h3⟩ := h
  obtain ⟨b, o, rfl, hr⟩ := h3.resolve_left (by simp)
  exact Lib.run_convert_whole w 50 5 9 Try.underlying50 Try.underlying5 Try.underlying9 b o ⟨#[x]⟩ (fun i hi => by
    have hi' : i = 0 := by have : i < 1 := hi; omega
    subst hi'
    exact hr 0 _ rfl) cap
/-- What alive has in hand. -/
structure AV (w W : World) (c : Nat) (R : List (Nat × Sum)) (S : List (Value × List Sum)) (B : List (Value × List UInt8)) : Prop where
  chain : ChainAt w.heap.size W c [[97], [98]]
  r : ∀ p ∈ R, W.rangeAt p.1 0 (cellsOf p.2)
  s : ∀ p ∈ S, SumsAt W p.1 p.2
  b : ∀ p ∈ B, BytesAt W p.1 p.2
  w : Below w.heap.size w W
theorem AV.below {w W W' : World} {c : Nat} {R : List (Nat × Sum)} {S : List (Value × List Sum)} {B : List (Value × List UInt8)} (h : AV w W c R S B) (hb : Below W.heap.size W W') : AV w W' c R S B :=
  ⟨h.chain.below hb, fun p hp => (Keeps.of_below (X := fun _ => False) hb).range (h.r p hp) (fun h => h), fun p hp => (h.s p hp).below hb (Nat.le_refl _), fun p hp => bytes_below (h.b p hp) hb (Nat.le_refl _), h.w.trans (hb.mono h.w.size)⟩
theorem AV.addR {w W : World} {c : Nat} {R : List (Nat × Sum)} {S : List (Value × List Sum)} {B : List (Value × List UInt8)} (h : AV w W c R S B) {z : Nat} {s : Sum} (hr : W.rangeAt z 0 (cellsOf s)) : AV w W c ((z, s) :: R) S B :=
  ⟨h.chain, fun p hp => by rcases List.mem_cons.1 hp with rfl | hp; exact hr; exact h.r p hp, h.s, h.b, h.w⟩
theorem AV.addS {w W : World} {c : Nat} {R : List (Nat × Sum)} {S : List (Value × List Sum)} {B : List (Value × List UInt8)} (h : AV w W c R S B) {v : Value} {s : List Sum} (hr : SumsAt W v s) : AV w W c R ((v, s) :: S) B :=
  ⟨h.chain, h.r, fun p hp => by rcases List.mem_cons.1 hp with rfl | hp; exact hr; exact h.s p hp, h.b, h.w⟩
theorem AV.addB {w W : World} {c : Nat} {R : List (Nat × Sum)} {S : List (Value × List Sum)} {B : List (Value × List UInt8)} (h : AV w W c R S B) {v : Value} {s : List UInt8} (hr : BytesAt W v s) : AV w W c R S ((v, s) :: B) :=
  ⟨h.chain, h.r, h.s, fun p hp => by rcases List.mem_cons.1 hp with rfl | hp; exact hr; exact h.b p hp, h.w⟩
theorem build_zero (w : World) : (Instr.build 24 #[]).run Try.prog w = .ok (sv zeroSum) w := by
  unfold sv; rw [cellsOf_zeroSum]; kernel_rfl
theorem sums_lit12 (W : World) (l : List Sum) (n : Nat) (h : l.length = n) (hn : n ≤ 1000) : SumsAt (W.alloc (.cells (cellsAll l).toArray 24)) (.slice (some ⟨W.heap.size, 0, none⟩) n n) l :=
  ⟨_, n, by rw [h], by omega, by unfold maxLen; omega, .inr ⟨_, _, rfl, range_new W _ _ _ rfl⟩⟩
theorem path_20 (a b : Sum) : path nd e0 [a, b] 0 = [b] := by
  rw [path_left_ [a, b] 0 (by simp) (by rw [show [a, b].length = 2 from rfl, cut_two]; omega)]
  rw [show [a, b].length = 2 from rfl, cut_two]
  simp only [List.take, List.drop]
  rw [path_end [a] 0 (by simp), rt_one]; rfl
theorem link_21 (a b : Sum) : link nd e0 [a, b] 1 true = [b] := by
  rw [link_left [a, b] 1 true (by omega) (by simp) (by rw [show [a, b].length = 2 from rfl, cut_two]; omega)]
  rw [show [a, b].length = 2 from rfl, cut_two]
  simp only [List.take, List.drop]
  have := link_end [a] true
  rw [show [a].length = 1 from rfl, if_pos rfl] at this
  rw [this, rt_one]; rfl
theorem cm_0 (base : Nat) (w : World) (c : Nat) (h : ChainAt base w c [[97], [98]]) {z : Sum} (hz : z = zeroSum) :
    Calls Try.prog 39 #[.pointer (some ⟨c, 0, none⟩), .int .u64 0] w fun e w' => e = .returned (.tuple #[sv z, .int .i64 0]) ∧ Below w.heap.size w w' := by
  have := cmark_at base w c _ h 0 (Nat.zero_le _)
  rw [List.take_zero, mk_nil, ← hz] at this
  exact this
theorem cm_3 (base : Nat) (w : World) (c : Nat) (h : ChainAt base w c [[97], [98]]) {z : Sum} (hz : z = zeroSum) :
    Calls Try.prog 39 #[.pointer (some ⟨c, 0, none⟩), .int .u64 3] w fun e w' => e = .returned (.tuple #[sv z, .int .i64 1]) ∧ Below w.heap.size w w' := by
  have := cmark_arg base w c _ h 3 (by decide)
  rw [← hz] at this
  exact this
theorem cr_1 (base : Nat) (w : World) (c : Nat) (h : ChainAt base w c [[97], [98]]) {y : Sum} (hy : y = lf [97]) :
    Calls Try.prog 40 #[.pointer (some ⟨c, 0, none⟩), .int .u64 1] w fun e w' => e = .returned (.tuple #[sv y, .int .i64 0]) ∧ Below w.heap.size w w' := by
  have := croot_at base w c _ h 1 (by decide)
  rw [show ([[97], [98]] : List (List UInt8)).take 1 = [[97]] from rfl, List.map_cons, List.map_nil, rt_one, ← hy] at this
  exact this
theorem cp_02 (base : Nat) (w : World) (c : Nat) (h : ChainAt base w c [[97], [98]]) {y : Sum} (hy : y = lf [98]) :
    Calls Try.prog 41 #[.pointer (some ⟨c, 0, none⟩), .int .u64 0, .int .u64 2] w (ToldAs w [y] 0) := by
  have := cpath_told base w c _ h 2 (by decide) 0 (by decide) (by decide)
  rw [show ([[97], [98]] : List (List UInt8)).take 2 = [[97], [98]] from rfl, List.map_cons, List.map_cons, List.map_nil, ← hy, path_20] at this
  exact this
theorem cl_12 (base : Nat) (w : World) (c : Nat) (h : ChainAt base w c [[97], [98]]) {y : Sum} (hy : y = lf [98]) :
    Calls Try.prog 42 #[.pointer (some ⟨c, 0, none⟩), .int .u64 1, .int .u64 2] w (ToldAs w [y] 0) := by
  have := clink_told base w c _ h 2 (by decide) 1 (by decide) (by decide) (by decide)
  rw [show ([[97], [98]] : List (List UInt8)).take 2 = [[97], [98]] from rfl, List.map_cons, List.map_cons, List.map_nil, ← hy, link_21] at this
  exact this
set_option maxRecDepth 100000 in
set_option maxHeartbeats 2000000 in
theorem alive12_any (w : World) : Calls Try.prog 46 #[] w fun e w' => e = .returned (.bool true) ∧ Below w.heap.size w w' := by
  have kc := fun (w : World) (C : Array Value) (n c : Nat) => Lib.run_convert_bytes_const (P := Try.prog) w 50 5 C n c Try.underlying50 Try.underlying5
  obtain ⟨z, hz⟩ : ∃ z, z = zeroSum := ⟨_, rfl⟩
  obtain ⟨ya, hya⟩ : ∃ y, y = lf [97] := ⟨_, rfl⟩
  obtain ⟨yb, hyb⟩ : ∃ y, y = lf [98] := ⟨_, rfl⟩
  have HY := Lib.hid (And.intro hz (And.intro hya hyb))
  have hbz : ∀ w, (Instr.build 24 #[]).run Try.prog w = .ok (sv z) w := by rw [hz]; exact build_zero
  clear hz hya hyb
  have HBZ := Lib.hid hbz; clear hbz
  go_enter Try.func46, Try.ntmps46
  go_wp2_with fail
  refine (cnew_at w).mono ?_
  rintro e w1 ⟨c, rfl, hC, hB⟩
  have HC := Lib.hid hC
  have HB := Lib.hid hB
  clear hC hB
  go_wp2_with fail
  have b1 := al (Below.refl _ w1) (.cells #[.int .u8 97] 5 (1, 2))
  obtain ⟨f, cv, vf, es, hC⟩ := HC.out.below b1
  have hy1 : BytesAt (w1.alloc (.cells #[.int .u8 97] 5 (1, 2))) (.slice (some ⟨w1.heap.size, 0, none⟩) 1 1) [97] := bytes_marked w1 97
  have hB1 := HB.out.trans (b1.mono HB.out.size)
  refine (cadd_in hC [97] _ hy1 hB1.size (by simp) (by simp)).mono ?_
  rintro e w2 ⟨rfl, hC2, hk2⟩
  have HC2 := Lib.hid hC2
  have HB2 := Lib.hid (hB1.trans (hk2.below hB1.size (fun k hk => hk)))
  clear HC HB b1 hC hy1 hB1 hC2 hk2
  go_wp2_with fail
  have b1 := al (Below.refl _ w2) (.cells #[.int .u8 98] 5 (1, 2))
  obtain ⟨f, cv, vf, es, hC⟩ := HC2.out.below b1
  have hy1 : BytesAt (w2.alloc (.cells #[.int .u8 98] 5 (1, 2))) (.slice (some ⟨w2.heap.size, 0, none⟩) 1 1) [98] := bytes_marked w2 98
  have hB1 := HB2.out.trans (b1.mono HB2.out.size)
  refine (cadd_in hC [98] _ hy1 hB1.size (by simp) (by simp)).mono ?_
  rintro e w3 ⟨rfl, hC2, hk2⟩
  have HA := Lib.hid (show AV w w3 c [] [] [] from ⟨hC2, by simp, by simp, by simp, hB1.trans (hk2.below hB1.size (fun k hk => hk))⟩)
  clear HC2 HB2 b1 hC hy1 hB1 hC2 hk2
  go_wp2_with fail
  refine (centry_at w.heap.size w3 c _ HA.out.chain 1 [98] rfl (by simp)).mono ?_
  rintro e w4 ⟨v4, rfl, hN, hb⟩
  obtain ⟨a4, c4, rfl, _, _, _⟩ := hN.1
  have HA4 := Lib.hid ((HA.out.below hb).addB hN.1)
  clear HA hN hb
  go_wp2_with fail
  refine (centry_arg w.heap.size w4 c _ HA4.out.chain 2 (by simp)).mono ?_
  rintro e w5 ⟨rfl, rfl⟩
  go_wp2_with fail
  refine (cm_0 w.heap.size w4 c HA4.out.chain HY.out.1).mono ?_
  rintro e w5 ⟨rfl, hb⟩
  have HA5 := Lib.hid (HA4.out.below hb)
  clear HA4 hb
  have HG := Lib.hid trivial
  go_wp2_with (have _ := HG; refine wpList_var_sum (by rfl) rfl _ _ rfl z rfl rfl ?_; intro w6 hb hr _ _; obtain ⟨z6, hz6⟩ : ∃ x, x = w5.heap.size := ⟨_, rfl⟩; rw [← hz6] at hr ⊢; have HA6 := Lib.hid ((HA5.out.below hb).addR hr); clear HG hb hr hz6 HA5)
  refine (cm_3 w.heap.size w6 c HA6.out.chain HY.out.1).mono ?_
  rintro e w7 ⟨rfl, hb⟩
  have HA7 := Lib.hid (HA6.out.below hb)
  clear HA6 hb
  have HG := Lib.hid trivial
  go_wp2_with (have _ := HG; refine wpList_var_sum (by rfl) rfl _ _ rfl z rfl rfl ?_; intro w8 hb hr _ _; have HA8 := Lib.hid (HA7.out.below hb); clear HG hb hr HA7)
  refine (cr_1 w.heap.size w8 c HA8.out.chain HY.out.2.1).mono ?_
  rintro e w9 ⟨rfl, hb⟩
  have HA9 := Lib.hid (HA8.out.below hb)
  clear HA8 hb
  have HG := Lib.hid trivial
  go_wp2_with (have _ := HG; refine wpList_var_sum (by rfl) rfl _ _ rfl ya rfl rfl ?_; intro w10 hb hr _ _; obtain ⟨z10, hz10⟩ : ∃ x, x = w9.heap.size := ⟨_, rfl⟩; rw [← hz10] at hr ⊢; have HA10 := Lib.hid ((HA9.out.below hb).addR hr); clear HG hb hr hz10 HA9)
  refine (cp_02 w.heap.size w10 c HA10.out.chain HY.out.2.2).mono ?_
  rintro e w11 ⟨v11, rfl, hs, hb⟩
  obtain ⟨a11, c11, rfl, _, _, _⟩ := hs.sums
  have HA11 := Lib.hid ((HA10.out.below hb).addS hs.sums)
  clear HA10 hb hs
  go_wp2_with fail
  refine (cl_12 w.heap.size w11 c HA11.out.chain HY.out.2.2).mono ?_
  rintro e w12 ⟨v12, rfl, hs, hb⟩
  obtain ⟨a12, c12, rfl, _, _, _⟩ := hs.sums
  have HA12 := Lib.hid ((HA11.out.below hb).addS hs.sums)
  clear HA11 hb hs
  go_wp2_with fail
  refine (clink_arg w.heap.size w12 c _ HA12.out.chain 2 (by simp) (by omega)).mono ?_
  rintro e w13 ⟨v13, rfl, hs, hb⟩
  obtain ⟨a13, c13, rfl, _, _, _⟩ := hs.sums
  have HA13 := Lib.hid (HA12.out.below hb)
  clear HA12 hb hs
  go_wp2_with fail
  have b1 := al (Below.refl _ w13) (.cells #[.int .u8 98] 5 (1, 2))
  have hy1 : BytesAt (w13.alloc (.cells #[.int .u8 98] 5 (1, 2))) (.slice (some ⟨w13.heap.size, 0, none⟩) 1 1) [98] := bytes_marked w13 98
  have HLB := Lib.hid (lf_any [98] _ _ hy1 (by simp))
  rw [← HY.out.2.2] at HLB
  refine HLB.out.mono ?_
  rintro e w14 ⟨rfl, hb⟩
  have HA14 := Lib.hid ((HA13.out.below b1).below hb)
  clear HA13 hb b1 hy1 HLB
  have HG := Lib.hid trivial
  go_wp2_with (have _ := HG; refine wpList_var_sum (by rfl) rfl _ _ rfl yb rfl rfl ?_; intro w15 hb hr _ _; obtain ⟨z15, hz15⟩ : ∃ x, x = w14.heap.size := ⟨_, rfl⟩; rw [← hz15] at hr ⊢; have HA15 := Lib.hid ((HA14.out.below hb).addR hr); clear HG hb hr hz15 HA14)
  clear kc
  refine wp_region_sched (fun V => AV w V c [(z15, yb), (z10, ya), (z6, z)] [(.slice a12 1 c12, [yb]), (.slice a11 1 c11, [yb])] [(.slice a4 1 c4, [98])]) [.t 0, .t 1, .t 2, .t 3, .t 4, .t 5, .t 6, .t 7, .e 8 true, .t 9, .t 10, .t 11, .t 12, .t 13, .t 14, .t 15, .t 16, .s 17, .t 18, .t 19, .t 20, .t 21, .t 22, .t 23, .t 24, .t 25, .t 26, .t 27, .t 28, .t 30, .s 29, .t 31, .t 32, .t 33, .t 34, .t 35, .t 36, .t 37, .t 38, .t 39, .t 40, .t 41, .s 42, .e 43 true, .e 44 true, .e 45 true, .t 46, .t 47, .t 48, .t 49, .t 50, .t 51, .t 52, .t 53, .s 54, .e 55 true, .e 56 true, .t 57, .t 58, .t 59, .t 60, .t 61, .t 62, .t 63, .s 64, .e 65 true, .e 66 true, .t 67, .t 68, .t 69, .t 70, .t 71, .t 72] (by kernel_rfl) (by kernel_rfl) (by intro c a d v w h; cases d <;> exact h) ?_
  have HS := Lib.hid (show AV w w15.drew c [(z15, yb), (z10, ya), (z6, z)] [(.slice a12 1 c12, [yb]), (.slice a11 1 c11, [yb])] [(.slice a4 1 c4, [98])] from HA15.out.below (Below.refl _ _).drew)
  clear HA15
  generalize w15.drew = V at *
  have hes := eq_sums_same
  iterate 8
    refine wpS_t rfl (v := ?_) (by rfl) (fun W => ?_) ?_
    rotate_left
    · go_simp
      try rfl
    try simp only [Act.put, List.setIfInBounds_toArray, List.set_cons_zero, List.set_cons_succ]
  refine wpS_k rfl (by rfl) (fun K hK => ?_)
  go_simp
  refine (csize_at w.heap.size V c _ HS.out.chain).mono ?_
  rintro e w16 ⟨rfl, rfl⟩
  refine hK _ _ ⟨by exact HS.out, ?_⟩; clear hK K
  try simp only [Act.put, List.setIfInBounds_toArray, List.set_cons_zero, List.set_cons_succ]
  iterate 8
    refine wpS_t rfl (v := ?_) (by rfl) (fun W => ?_) ?_
    rotate_left
    · go_simp
      try rfl
    try simp only [Act.put, List.setIfInBounds_toArray, List.set_cons_zero, List.set_cons_succ]
  refine wpS_s (by exact HS.out) rfl (v := .string ⟨#[98]⟩) (by rfl) (fun W hW => ?_) ?_
  · have hq := bytes_string 98 (hW.b _ (List.mem_cons_self ..))
    go_simp
  try simp only [Act.put, List.setIfInBounds_toArray, List.set_cons_zero, List.set_cons_succ]
  iterate 11
    refine wpS_t rfl (v := ?_) (by rfl) (fun W => ?_) ?_
    rotate_left
    · go_simp
      try rfl
    try simp only [Act.put, List.setIfInBounds_toArray, List.set_cons_zero, List.set_cons_succ]
  refine wpS_t rfl (v := sv z) (by rfl) (fun W => ?_) ?_
  · go_simp
    rw [HY.out.1, cellsOf_zeroSum]; rfl
  try simp only [Act.put, List.setIfInBounds_toArray, List.set_cons_zero, List.set_cons_succ]
  refine wpS_load_sum (by exact HS.out) rfl (by rfl) _ (by rfl) z6 0 (by rfl) z (fun W hW => hW.r (z6, z) (by simp)) ?_
  try simp only [Act.put, List.setIfInBounds_toArray, List.set_cons_zero, List.set_cons_succ]
  iterate 11
    refine wpS_t rfl (v := ?_) (by rfl) (fun W => ?_) ?_
    rotate_left
    · go_simp
      try rfl
    try simp only [Act.put, List.setIfInBounds_toArray, List.set_cons_zero, List.set_cons_succ]
  refine wpS_load_sum (by exact HS.out) rfl (by rfl) _ (by rfl) z10 0 (by rfl) ya (fun W hW => hW.r (z10, ya) (by simp)) ?_
  try simp only [Act.put, List.setIfInBounds_toArray, List.set_cons_zero, List.set_cons_succ]
  refine wpS_k rfl (by rfl) (fun K hK => ?_)
  go_simp
  refine hK _ _ ⟨by exact HS.out.below (al (Below.refl _ V) (.cells #[.int .u8 97] 5)), ?_⟩; clear hK K
  try simp only [Act.put, List.setIfInBounds_toArray, List.set_cons_zero, List.set_cons_succ]
  have kc := Lib.run_convert_bytes_const (P := Try.prog) V 50 5 #[.int .u8 97] 1 1 Try.underlying50 Try.underlying5
  refine wpS_k rfl (by rfl) (fun K hK => ?_)
  go_simp
  refine hK _ _ ⟨by exact HS.out.below (al (Below.refl _ V) (.cells #[.int .u8 97] 5 (1, 2))), ?_⟩; clear hK K
  try simp only [Act.put, List.setIfInBounds_toArray, List.set_cons_zero, List.set_cons_succ]
  have HS2 := Lib.hid (HS.out.below (al (Below.refl _ V) (.cells #[.int .u8 97] 5 (1, 2))))
  have hy1 : BytesAt (V.alloc (.cells #[.int .u8 97] 5 (1, 2))) (.slice (some ⟨V.heap.size, 0, none⟩) 1 1) [97] := bytes_marked V 97
  have HLA := Lib.hid (lf_any [97] _ _ hy1 (by simp))
  rw [← HY.out.2.1] at HLA
  clear hy1 kc HS
  refine wpS_k rfl (by rfl) (fun K hK => ?_)
  go_simp
  refine HLA.out.mono ?_
  rintro e V2 ⟨rfl, hb⟩
  have HS := Lib.hid (HS2.out.below hb)
  clear hb HS2 HLA
  refine hK _ _ ⟨by exact HS.out, ?_⟩; clear hK K
  try simp only [Act.put, List.setIfInBounds_toArray, List.set_cons_zero, List.set_cons_succ]
  iterate 8
    refine wpS_t rfl (v := ?_) (by rfl) (fun W => ?_) ?_
    rotate_left
    · go_simp
      try rfl
    try simp only [Act.put, List.setIfInBounds_toArray, List.set_cons_zero, List.set_cons_succ]
  refine wpS_load_sum (by exact HS.out) rfl (by rfl) _ (by rfl) z15 0 (by rfl) yb (fun W hW => hW.r (z15, yb) (by simp)) ?_
  try simp only [Act.put, List.setIfInBounds_toArray, List.set_cons_zero, List.set_cons_succ]
  refine wpS_k rfl (by rfl) (fun K hK => ?_)
  refine wp_build_sums 1 _ (by rfl) [yb] rfl (by omega) (by omega) (by rfl) ?_
  have HX := Lib.hid (sums_lit12 V2 [yb] 1 rfl (by omega))
  replace HS := Lib.hid (HS.out.below (al (Below.refl V2.heap.size V2) (.cells (cellsAll [yb]).toArray 24)))
  generalize V2.heap.size = g at *
  generalize V2.alloc (.cells (cellsAll [yb]).toArray 24) = V3 at *
  refine hK _ _ ⟨by exact HS.out, ?_⟩; clear hK K
  try simp only [Act.put, List.setIfInBounds_toArray, List.set_cons_zero, List.set_cons_succ]
  refine wpS_k rfl (by rfl) (fun K hK => ?_)
  go_simp
  refine (same_sums [yb] [yb] (.slice a11 1 c11) (.slice (some ⟨g, 0, none⟩) 1 1) V3 (HS.out.s (.slice a11 1 c11, [yb]) (by simp)) HX.out).mono ?_
  rw [decide_eq_true (rfl : [yb] = [yb])]
  rintro e V4 ⟨rfl, hb⟩
  replace HS := Lib.hid (HS.out.below hb)
  clear HX hb
  refine hK _ _ ⟨by exact HS.out, ?_⟩; clear hK K
  try simp only [Act.put, List.setIfInBounds_toArray, List.set_cons_zero, List.set_cons_succ]
  iterate 7
    refine wpS_t rfl (v := ?_) (by rfl) (fun W => ?_) ?_
    rotate_left
    · go_simp
      try rfl
    try simp only [Act.put, List.setIfInBounds_toArray, List.set_cons_zero, List.set_cons_succ]
  refine wpS_load_sum (by exact HS.out) rfl (by rfl) _ (by rfl) z15 0 (by rfl) yb (fun W hW => hW.r (z15, yb) (by simp)) ?_
  try simp only [Act.put, List.setIfInBounds_toArray, List.set_cons_zero, List.set_cons_succ]
  refine wpS_k rfl (by rfl) (fun K hK => ?_)
  refine wp_build_sums 1 _ (by rfl) [yb] rfl (by omega) (by omega) (by rfl) ?_
  have HX := Lib.hid (sums_lit12 V4 [yb] 1 rfl (by omega))
  replace HS := Lib.hid (HS.out.below (al (Below.refl V4.heap.size V4) (.cells (cellsAll [yb]).toArray 24)))
  generalize V4.heap.size = g2 at *
  generalize V4.alloc (.cells (cellsAll [yb]).toArray 24) = V5 at *
  refine hK _ _ ⟨by exact HS.out, ?_⟩; clear hK K
  try simp only [Act.put, List.setIfInBounds_toArray, List.set_cons_zero, List.set_cons_succ]
  refine wpS_k rfl (by rfl) (fun K hK => ?_)
  go_simp
  refine (same_sums [yb] [yb] (.slice a12 1 c12) (.slice (some ⟨g2, 0, none⟩) 1 1) V5 (HS.out.s (.slice a12 1 c12, [yb]) (by simp)) HX.out).mono ?_
  rw [decide_eq_true (rfl : [yb] = [yb])]
  rintro e V6 ⟨rfl, hb⟩
  replace HS := Lib.hid (HS.out.below hb)
  clear HX hb
  refine hK _ _ ⟨by exact HS.out, ?_⟩; clear hK K
  try simp only [Act.put, List.setIfInBounds_toArray, List.set_cons_zero, List.set_cons_succ]
  iterate 6
    refine wpS_t rfl (v := ?_) (by rfl) (fun W => ?_) ?_
    rotate_left
    · go_simp
      try rfl
    try simp only [Act.put, List.setIfInBounds_toArray, List.set_cons_zero, List.set_cons_succ]
  refine wpS_done ?_
  go_wp2_with fail
  exact bodyPost_ret (results_tmp rfl _ _ _) rfl ⟨rfl, HS.out.w⟩
end Go.Proofs.Ytdkcndgehgmadaa
