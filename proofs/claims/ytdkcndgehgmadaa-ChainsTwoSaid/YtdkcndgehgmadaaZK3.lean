/-
  Merged: Cut, K10.
-/
import Derived.Test.YtdkcndgehgmadaaBase
import Derived.Test.YtdkcndgehgmadaaZK2
import Derived.Test.YtdkcndgehgmadaaZB1
-- Plain: a walk cut in two: the code behind a place behind a letter.
open Go Go.RowKit
namespace Alm
/-- The code behind n steps of a row. -/
def dropN : Nat → Code → Code
  | 0, c => c
  | n + 1, .seq _ b => dropN n b
  | _ + 1, c => c
/-- A row of code, with T in place of what is behind n steps. -/
def cutN : Nat → Code → Code → Code
  | 0, T, _ => T
  | n + 1, T, .seq a b => .seq a (cutN n T b)
  | _ + 1, _, c => c
theorem cutN_drop : ∀ (n : Nat) (c : Code), cutN n (dropN n c) c = c
  | 0, _ => by unfold cutN dropN; rfl
  | n + 1, c => by
    cases c <;> first | (unfold cutN dropN; rw [cutN_drop n]) | (unfold cutN; rfl)
theorem wp_cut {P : Program} {c : Code} {Q : Exit → Act → World → Prop} {a : Act} {w : World} (n : Nat)
    (h : ∀ T, (∀ a' w', Code.wp P (dropN n c) Q a' w' → Code.wp P T Q a' w') → Code.wp P (cutN n T c) Q a w) : Code.wp P c Q a w := by
  have := h (dropN n c) (fun _ _ h => h)
  rwa [cutN_drop] at this
end Alm
-- Walks: almonerlaw12.ChainsGrow.
open Go Go.RowKit Alm
namespace Go.Proofs.Ytdkcndgehgmadaa
/-- What a law has in hand: chains, cells, sums, lists of sums. -/
structure GV (w W : World) (C : List (Nat × Nat × List (List UInt8))) (G : List (Addr × Value)) (R : List (Nat × Sum)) (S : List (Value × List Sum)) : Prop where
  c : ∀ p ∈ C, ChainAt p.1 W p.2.1 p.2.2
  g : ∀ p ∈ G, W.cell? p.1 = some p.2
  r : ∀ p ∈ R, W.rangeAt p.1 0 (cellsOf p.2)
  s : ∀ p ∈ S, SumsAt W p.1 p.2
  w : Below w.heap.size w W
section
variable {w W W' : World} {C : List (Nat × Nat × List (List UInt8))} {G : List (Addr × Value)} {R : List (Nat × Sum)} {S : List (Value × List Sum)}
theorem GV.below (h : GV w W C G R S) (hb : Below W.heap.size W W') : GV w W' C G R S :=
  ⟨fun p hp => (h.c p hp).below hb, fun p hp => bc (h.g p hp) hb, fun p hp => (Keeps.of_below (X := fun _ => False) hb).range (h.r p hp) (fun h => h), fun p hp => (h.s p hp).below hb (Nat.le_refl _), h.w.trans (hb.mono h.w.size)⟩
theorem GV.addC (h : GV w W C G R S) {b c : Nat} {l : List (List UInt8)} (hr : ChainAt b W c l) : GV w W ((b, c, l) :: C) G R S :=
  ⟨fun p hp => by rcases List.mem_cons.1 hp with rfl | hp; exact hr; exact h.c p hp, h.g, h.r, h.s, h.w⟩
theorem GV.addG (h : GV w W C G R S) {a : Addr} {v : Value} (hr : W.cell? a = some v) : GV w W C ((a, v) :: G) R S :=
  ⟨h.c, fun p hp => by rcases List.mem_cons.1 hp with rfl | hp; exact hr; exact h.g p hp, h.r, h.s, h.w⟩
theorem GV.addR (h : GV w W C G R S) {z : Nat} {s : Sum} (hr : W.rangeAt z 0 (cellsOf s)) : GV w W C G ((z, s) :: R) S :=
  ⟨h.c, h.g, fun p hp => by rcases List.mem_cons.1 hp with rfl | hp; exact hr; exact h.r p hp, h.s, h.w⟩
theorem GV.addS (h : GV w W C G R S) {v : Value} {s : List Sum} (hr : SumsAt W v s) : GV w W C G R ((v, s) :: S) :=
  ⟨h.c, h.g, h.r, fun p hp => by rcases List.mem_cons.1 hp with rfl | hp; exact hr; exact h.s p hp, h.w⟩
end
theorem wrapC (a : Int) (h0 : 0 ≤ a) (h1 : a < 4000000000) : wrap64 a = a := by unfold wrap64; omega
theorem wrapM (z k : Nat) (hk : 0 < k) (h : k < 1000) : wrap64 (1 + (z : Int) % (k : Int)) = ((1 + z % k : Nat) : Int) := by
  have := Nat.mod_lt z hk
  rw [← Int.natCast_emod, wrapC _ (by omega) (by omega)]; omega
theorem wrapU (x : Nat) (hx : x < 1000) : IntKind.u64.wrap (x : Int) = (x : Int) := by
  rw [IntKind.wrap_u64]; omega
theorem took (l : List (List UInt8)) (n : Nat) : (l.take n).take n = l.take n := List.take_of_length_le (by rw [List.length_take]; omega)
theorem wpList_want {P : Program} {ops : Array Oper} {rest : List Oper} {o : Oper} {a : Act} {w : World} {Q : Exit → Act → World → Prop} (hw : Region.wanted o (yielded ops a.tmps) = true) (h : ∀ K : Act → World → Prop, (∀ a' w', wpList P ops Q rest a' w' → K a' w') → o.wp P a w K Q) : wpList P ops Q (o :: rest) a w := by
  unfold wpList
  rw [if_pos hw]
  exact .inl (h _ fun _ _ h => h)
theorem wpList_load_sum_g {ops : Array Oper} {rest : List Oper} {op : Oper} {a : Act} {w : World} {Q : Exit → Act → World → Prop} (hw : Region.wanted op (yielded ops a.tmps) = true) (x : Operand) (ho : op.op = .load 24 x)
    (b o : Nat) (hx : a.eval x = .pointer (some ⟨b, o, none⟩)) (s : Sum) (hc : w.rangeAt b o (cellsOf s)) (h : wpList Try.prog ops Q rest (a.put op.dst (sv s)) w) : wpList Try.prog ops Q (op :: rest) a w :=
  wpList_want hw fun K hK => wp_load_mid _ x ho b o hx (cellsOf s) _ hc Try.underlying24 rfl (by rw [length_cellsOf]; exact infoSum) (hK _ _ h)
noncomputable def growCode : Code := (Try.f14.body).getD .skip
set_option maxRecDepth 100000 in
set_option maxHeartbeats 4000000 in
theorem grow_end {u0 u1 u2 u3 u4 u5 u6 u7 u8 u9 u10 u11 u12 u29 u30 u31 u32 u33 u34 u35 u36 u37 u38 u39 u40 u41 u42 u43 u44 u45 u46 u47 u48 u49 u50 u51 u52 u53 u54 u55 u56 u57 u58 u59 u60 u61 u62 u63 u64 u65 u66 u67 u68 u69 u70 u71 u72 u73 u74 u75 u76 u77 u78 u79 u80 u81 u82 u83 u84 u85 u86 u87 u88 u89 u90 u91 u92 u93 u94 u95 u96 u97 u98 u99 u100 u101 u102 u103 u104 u105 u106 u107 u108 u109 u110 u111 u112 u113 u114 u115 u116 u117 u118 u119 u120 u121 u122 u123 u124 u125 u126 u127 u128 u129 u130 u131 u132 u133 u134 u135 u136 u137 u138 u139 u140 u141 u142 u143 u144 u145 u146 u147 u148 u149 u150 u151 u152 u153 u154 u155 u156 u157 u158 u159 u160 u161 u162 u163 u164 u165 u166 u167 u168 u169 u170 u171 u172 u173 u174 u175 : Value} (w W : World) (sm sr : Sum) (sp sl_ : List Sum) (zc1 zd1 zc2 zd2 n1 n2 c1 c2 c3 c4 : Nat) (a1 a2 a3 a4 : Option Addr)
    (h : GV w W [] [] [(zd2, sr), (zc2, sr), (zd1, sm), (zc1, sm)] [(.slice a4 n2 c4, sl_), (.slice a3 n2 c3, sl_), (.slice a2 n1 c2, sp), (.slice a1 n1 c1, sp)]) :
    Code.wp Try.prog (dropN 17 growCode) (bodyPost Try.prog Try.f14 fun e w' => e = .returned (.bool true) ∧ Below w.heap.size w w') ⟨#[u0, u1, u2, u3, u4, u5, u6, u7, u8, u9, u10, u11, u12, .pointer (some ⟨zc1, 0, none⟩), .int .i64 0, .pointer (some ⟨zd1, 0, none⟩), .int .i64 0, .pointer (some ⟨zc2, 0, none⟩), .int .i64 0, .pointer (some ⟨zd2, 0, none⟩), .int .i64 0, .slice a1 n1 c1, .int .i64 0, .slice a2 n1 c2, .int .i64 0, .slice a3 n2 c3, .int .i64 0, .slice a4 n2 c4, .int .i64 0, u29, u30, u31, u32, u33, u34, u35, u36, u37, u38, u39, u40, u41, u42, u43, u44, u45, u46, u47, u48, u49, u50, u51, u52, u53, u54, u55, u56, u57, u58, u59, u60, u61, u62, u63, u64, u65, u66, u67, u68, u69, u70, u71, u72, u73, u74, u75, u76, u77, u78, u79, u80, u81, u82, u83, u84, u85, u86, u87, u88, u89, u90, u91, u92, u93, u94, u95, u96, u97, u98, u99, u100, u101, u102, u103, u104, u105, u106, u107, u108, u109, u110, u111, u112, u113, u114, u115, u116, u117, u118, u119, u120, u121, u122, u123, u124, u125, u126, u127, u128, u129, u130, u131, u132, u133, u134, u135, u136, u137, u138, u139, u140, u141, u142, u143, u144, u145, u146, u147, u148, u149, u150, u151, u152, u153, u154, u155, u156, u157, u158, u159, u160, u161, u162, u163, u164, u165, u166, u167, u168, u169, u170, u171, u172, u173, u174, u175], []⟩ W := by
  have HA := Lib.hid h
  clear h
  conv => arg 2; whnf
  go_wp2_with fail
  refine (alive12_any _).mono ?_
  rintro e V ⟨rfl, hb⟩
  have HS := Lib.hid (HA.out.below hb)
  clear hb HA
  have hes := eq_sums_same
  have HG := Lib.hid trivial
  go_wp2_with (first
    | (refine wpList_load_sum_g (by rfl) _ rfl zc1 0 rfl sm (HS.out.r (zc1, sm) (by simp)) ?_)
    | (refine wpList_load_sum_g (by rfl) _ rfl zd1 0 rfl sm (HS.out.r (zd1, sm) (by simp)) ?_)
    | (refine wpList_load_sum_g (by rfl) _ rfl zc2 0 rfl sr (HS.out.r (zc2, sr) (by simp)) ?_)
    | (refine wpList_load_sum_g (by rfl) _ rfl zd2 0 rfl sr (HS.out.r (zd2, sr) (by simp)) ?_))
  refine (same_sums sp sp _ _ V (HS.out.s (.slice a1 n1 c1, sp) (by simp)) (HS.out.s (.slice a2 n1 c2, sp) (by simp))).mono ?_
  rw [decide_eq_true (rfl : sp = sp)]
  rintro e V2 ⟨rfl, hb⟩
  have HS2 := Lib.hid (HS.out.below hb)
  clear hb HS
  go_wp2_with fail
  refine (same_sums sl_ sl_ _ _ V2 (HS2.out.s (.slice a3 n2 c3, sl_) (by simp)) (HS2.out.s (.slice a4 n2 c4, sl_) (by simp))).mono ?_
  rw [decide_eq_true (rfl : sl_ = sl_)]
  rintro e V3 ⟨rfl, hb⟩
  have HS3 := Lib.hid (HS2.out.below hb)
  clear hb HS2
  go_wp2_with fail
  exact bodyPost_ret (results_tmp rfl _ _ _) rfl ⟨rfl, HS3.out.w⟩
set_option maxRecDepth 100000 in
set_option maxHeartbeats 4000000 in
theorem grow_mid {u0 u1 u2 u3 u4 u5 u6 u7 u13 u14 u15 u16 u17 u18 u19 u20 u21 u22 u23 u24 u25 u26 u27 u28 u29 u30 u31 u32 u33 u34 u35 u36 u37 u38 u39 u40 u41 u42 u43 u44 u45 u46 u47 u48 u49 u50 u51 u52 u53 u54 u55 u56 u57 u58 u59 u60 u61 u62 u63 u64 u65 u66 u67 u68 u69 u70 u71 u72 u73 u74 u75 u76 u77 u78 u79 u80 u81 u82 u83 u84 u85 u86 u87 u88 u89 u90 u91 u92 u93 u94 u95 u96 u97 u98 u99 u100 u101 u102 u103 u104 u105 u106 u107 u108 u109 u110 u111 u112 u113 u114 u115 u116 u117 u118 u119 u120 u121 u122 u123 u124 u125 u126 u127 u128 u129 u130 u131 u132 u133 u134 u135 u136 u137 u138 u139 u140 u141 u142 u143 u144 u145 u146 u147 u148 u149 u150 u151 u152 u153 u154 u155 u156 u157 u158 u159 u160 u161 u162 u163 u164 u165 u166 u167 u168 u169 u170 u171 u172 u173 u174 u175 : Value} (w W : World) (l : List (List UInt8)) (c d B1 B2 k p m : Nat) (hkl : k ≤ l.length) (hpk : p < k) (hm1 : 1 ≤ m) (hmk : m ≤ k) (hk : k < 1000000)
    (h : GV w W [(B2, d, l.take k), (B1, c, l)] [] [] []) :
    Code.wp Try.prog (dropN 9 growCode) (bodyPost Try.prog Try.f14 fun e w' => e = .returned (.bool true) ∧ Below w.heap.size w w') ⟨#[u0, u1, u2, u3, u4, u5, u6, u7, .pointer (some ⟨c, 0, none⟩), .pointer (some ⟨d, 0, none⟩), .int .u64 (k : Int), .int .u64 (p : Int), .int .u64 (m : Int), u13, u14, u15, u16, u17, u18, u19, u20, u21, u22, u23, u24, u25, u26, u27, u28, u29, u30, u31, u32, u33, u34, u35, u36, u37, u38, u39, u40, u41, u42, u43, u44, u45, u46, u47, u48, u49, u50, u51, u52, u53, u54, u55, u56, u57, u58, u59, u60, u61, u62, u63, u64, u65, u66, u67, u68, u69, u70, u71, u72, u73, u74, u75, u76, u77, u78, u79, u80, u81, u82, u83, u84, u85, u86, u87, u88, u89, u90, u91, u92, u93, u94, u95, u96, u97, u98, u99, u100, u101, u102, u103, u104, u105, u106, u107, u108, u109, u110, u111, u112, u113, u114, u115, u116, u117, u118, u119, u120, u121, u122, u123, u124, u125, u126, u127, u128, u129, u130, u131, u132, u133, u134, u135, u136, u137, u138, u139, u140, u141, u142, u143, u144, u145, u146, u147, u148, u149, u150, u151, u152, u153, u154, u155, u156, u157, u158, u159, u160, u161, u162, u163, u164, u165, u166, u167, u168, u169, u170, u171, u172, u173, u174, u175], []⟩ W := by
  have hlk : (l.take k).length = k := by rw [List.length_take]; omega
  have hmc := fun W (h : ChainAt B1 W c l) => cmark_at B1 W c l h k hkl
  have hrc := fun W (h : ChainAt B1 W c l) => croot_at B1 W c l h k hkl
  have hpc := fun W (h : ChainAt B1 W c l) => cpath_told B1 W c l h k hkl p hpk hk
  have hlc := fun W (h : ChainAt B1 W c l) => clink_told B1 W c l h k hkl m hmk hm1 hk
  have hmd := fun W (h : ChainAt B2 W d (l.take k)) => cmark_at B2 W d (l.take k) h k (by rw [hlk]; exact Nat.le_refl _)
  have hrd := fun W (h : ChainAt B2 W d (l.take k)) => croot_at B2 W d (l.take k) h k (by rw [hlk]; exact Nat.le_refl _)
  have hpd := fun W (h : ChainAt B2 W d (l.take k)) => cpath_told B2 W d (l.take k) h k (by rw [hlk]; exact Nat.le_refl _) p hpk hk
  have hld := fun W (h : ChainAt B2 W d (l.take k)) => clink_told B2 W d (l.take k) h k (by rw [hlk]; exact Nat.le_refl _) m hmk hm1 hk
  rw [took] at hmd hrd hpd hld
  generalize mk (l.take k) = sm at hmc hmd
  generalize rt ((l.take k).map lf) = sr at hrc hrd
  generalize path nd e0 ((l.take k).map lf) p = sp at hpc hpd
  generalize link nd e0 ((l.take k).map lf) m true = sl_ at hlc hld
  have HMC := Lib.hid (And.intro hmc hmd)
  have HRC := Lib.hid (And.intro hrc hrd)
  have HPC := Lib.hid (And.intro hpc hpd)
  have HLC := Lib.hid (And.intro hlc hld)
  have HA2 := Lib.hid h
  clear hmc hrc hpc hlc hmd hrd hpd hld hlk hkl hpk hm1 hmk hk h
  conv => arg 2; whnf
  refine wp_cut 8 ?_
  intro T hT
  dsimp only [cutN]
  replace hT := Lib.hid hT
  go_wp2_with fail
  refine (HMC.out.1 _ (HA2.out.c (B1, c, l) (by simp))).mono ?_
  rintro e w3 ⟨rfl, hb⟩
  have HA3 := Lib.hid (HA2.out.below hb)
  clear hb HA2
  have HG := Lib.hid trivial
  go_wp2_with (have _ := HG; refine wpList_var_sum (by rfl) rfl _ _ rfl sm rfl rfl ?_; intro w3v hb hr _ _; obtain ⟨zc1, hz⟩ : ∃ x, x = w3.heap.size := ⟨_, rfl⟩; rw [← hz] at hr ⊢; have HA3v := Lib.hid ((HA3.out.below hb).addR hr); clear HG hb hr hz HA3)
  refine (HMC.out.2 _ (HA3v.out.c (B2, d, l.take k) (by simp))).mono ?_
  rintro e w4 ⟨rfl, hb⟩
  have HA4 := Lib.hid (HA3v.out.below hb)
  clear hb HA3v
  have HG := Lib.hid trivial
  go_wp2_with (have _ := HG; refine wpList_var_sum (by rfl) rfl _ _ rfl sm rfl rfl ?_; intro w4v hb hr _ _; obtain ⟨zd1, hz⟩ : ∃ x, x = w4.heap.size := ⟨_, rfl⟩; rw [← hz] at hr ⊢; have HA4v := Lib.hid ((HA4.out.below hb).addR hr); clear HG hb hr hz HA4)
  refine (HRC.out.1 _ (HA4v.out.c (B1, c, l) (by simp))).mono ?_
  rintro e w5 ⟨rfl, hb⟩
  have HA5 := Lib.hid (HA4v.out.below hb)
  clear hb HA4v
  have HG := Lib.hid trivial
  go_wp2_with (have _ := HG; refine wpList_var_sum (by rfl) rfl _ _ rfl sr rfl rfl ?_; intro w5v hb hr _ _; obtain ⟨zc2, hz⟩ : ∃ x, x = w5.heap.size := ⟨_, rfl⟩; rw [← hz] at hr ⊢; have HA5v := Lib.hid ((HA5.out.below hb).addR hr); clear HG hb hr hz HA5)
  refine (HRC.out.2 _ (HA5v.out.c (B2, d, l.take k) (by simp))).mono ?_
  rintro e w6 ⟨rfl, hb⟩
  have HA6 := Lib.hid (HA5v.out.below hb)
  clear hb HA5v
  have HG := Lib.hid trivial
  go_wp2_with (have _ := HG; refine wpList_var_sum (by rfl) rfl _ _ rfl sr rfl rfl ?_; intro w6v hb hr _ _; obtain ⟨zd2, hz⟩ : ∃ x, x = w6.heap.size := ⟨_, rfl⟩; rw [← hz] at hr ⊢; have HA6v := Lib.hid ((HA6.out.below hb).addR hr); clear HG hb hr hz HA6)
  refine (HPC.out.1 _ (HA6v.out.c (B1, c, l) (by simp))).mono ?_
  rintro e w7 ⟨vp1, rfl, hs, hb⟩
  obtain ⟨vp1a, vp1c, rfl, _, _, _⟩ := hs.sums
  have HA7 := Lib.hid ((HA6v.out.below hb).addS hs.sums)
  clear hb hs HA6v
  go_wp2_with fail
  refine (HPC.out.2 _ (HA7.out.c (B2, d, l.take k) (by simp))).mono ?_
  rintro e w8 ⟨vp2, rfl, hs, hb⟩
  obtain ⟨vp2a, vp2c, rfl, _, _, _⟩ := hs.sums
  have HA8 := Lib.hid ((HA7.out.below hb).addS hs.sums)
  clear hb hs HA7
  go_wp2_with fail
  refine (HLC.out.1 _ (HA8.out.c (B1, c, l) (by simp))).mono ?_
  rintro e w9 ⟨vl1, rfl, hs, hb⟩
  obtain ⟨vl1a, vl1c, rfl, _, _, _⟩ := hs.sums
  have HA9 := Lib.hid ((HA8.out.below hb).addS hs.sums)
  clear hb hs HA8
  go_wp2_with fail
  refine (HLC.out.2 _ (HA9.out.c (B2, d, l.take k) (by simp))).mono ?_
  rintro e w10 ⟨vl2, rfl, hs, hb⟩
  obtain ⟨vl2a, vl2c, rfl, _, _, _⟩ := hs.sums
  have HA10 := Lib.hid ((HA9.out.below hb).addS hs.sums)
  clear hb hs HA9
  go_wp2_with fail
  refine hT.out _ _ ?_
  refine grow_end w _ sm sr sp sl_ zc1 zd1 zc2 zd2 sp.length sl_.length _ _ _ _ _ _ _ _ ?_
  exact ⟨by simp, by simp, HA10.out.r, HA10.out.s, HA10.out.w⟩
set_option maxRecDepth 100000 in
set_option maxHeartbeats 4000000 in
theorem chainsGrow_any (l : List (List UInt8)) (v : Value) (q z0 z1 : Nat) (w : World) (hv : ListsAt w v l) (hq : q ≤ 255) (hz0 : z0 ≤ 255) (hz1 : z1 ≤ 255) (hn : l.length ≤ LIM) (hs : ∀ x ∈ l, x.length ≤ LIM) : Calls Try.prog 14 #[v, .int .u8 (q : Int), .agg #[.int .u8 (z0 : Int), .int .u8 (z1 : Int)]] w fun e w' => e = .returned (.bool true) ∧ Below w.heap.size w w' := by
  have HV := Lib.hid hv
  have HGR := Lib.hid (fun W (h : ListsAt W v l) => great12_any l v W h hn hs)
  obtain ⟨aa, ca, rfl, a1, a2, a3⟩ := hv
  clear a3
  obtain ⟨R, hR⟩ : ∃ R, R = gr12 l := ⟨_, rfl⟩
  rw [← hR] at HGR
  have HR := Lib.hid hR
  clear hR hs
  obtain ⟨n, hna⟩ : ∃ n, n = l.length := ⟨_, rfl⟩
  rw [← hna] at HV HGR a1 hn ⊢
  have HN := Lib.hid hna
  clear hna
  have hb0 := al (Below.refl _ w) (.cells #[.int .u8 (z0 : Int), .int .u8 (z1 : Int)] 68)
  have hr0 := range_new w #[.int .u8 (z0 : Int), .int .u8 (z1 : Int)] 68 _ rfl
  have HA0 := Lib.hid (show GV w (w.alloc (.cells #[.int .u8 (z0 : Int), .int .u8 (z1 : Int)] 68)) [] [(⟨w.heap.size, 0, none⟩, .int .u8 (z0 : Int)), (⟨w.heap.size, 1, none⟩, .int .u8 (z1 : Int))] [] [] from ⟨by simp, fun p hp => by simp only [List.mem_cons, List.not_mem_nil, or_false] at hp; rcases hp with rfl | rfl; exact hr0 0 _ rfl; exact hr0 1 _ rfl, by simp, by simp, hb0⟩)
  clear hb0 hr0
  obtain ⟨Z, hZ⟩ : ∃ Z, Z = w.heap.size := ⟨_, rfl⟩
  have hHA := HA0.out
  rw [← hZ] at hHA
  have HA := Lib.hid hHA
  clear hHA HA0
  by_cases hbig : R = true ∨ n = 0
  · have HBIG := Lib.hid hbig
    clear hbig
    go_enter Try.func14, Try.ntmps14
    go_wp2_with fail
    rw [← hZ]
    clear hZ
    generalize w.alloc (.cells #[.int .u8 (z0 : Int), .int .u8 (z1 : Int)] 68) = W0 at *
    refine (HGR.out _ (HV.out.below HA.out.w)).mono ?_
    rintro e w1 ⟨rfl, rfl⟩
    have key : ∀ {R : Bool} {n : Nat}, R = true ∨ n = 0 → R = true ∨ (R = false ∧ ((n : Int) == 0) = true) := by
      intro R n h
      cases R
      · rcases h with h | h
        · cases h
        · exact .inr ⟨rfl, by rw [h]; rfl⟩
      · exact .inl rfl
    rcases key HBIG.out with rfl | ⟨rfl, hn0⟩
    · clear key
      go_wp2_with fail
      refine (alive12_any _).mono ?_
      rintro e w2 ⟨rfl, hb⟩
      have HF := Lib.hid (HA.out.below hb); clear hb
      go_wp2_with fail
      exact bodyPost_ret (results_tmp rfl _ _ _) rfl ⟨rfl, HF.out.w⟩
    · clear key
      go_wp2_with fail
      refine (alive12_any _).mono ?_
      rintro e w2 ⟨rfl, hb⟩
      have HF := Lib.hid (HA.out.below hb); clear hb
      go_wp2_with fail
      exact bodyPost_ret (results_tmp rfl _ _ _) rfl ⟨rfl, HF.out.w⟩
  · have hRf : R = false := by cases R <;> simp_all
    have hn0 : 0 < n := Nat.pos_of_ne_zero (fun h => hbig (.inr h))
    subst hRf
    clear hbig
    have hsm := gr12_le HR.out.symm
    have n60 : n ≤ 60 := by rw [HN.out]; exact hsm.1
    have n60' : (n : Int) ≤ 60 := by omega
    clear hsm hn HR
    have hnz : ((n : Int) == 0) = false := by rw [beq_eq_false_iff_ne]; omega
    obtain ⟨k, hk⟩ : ∃ k, k = 1 + q % n := ⟨_, rfl⟩
    have hk1 : 1 ≤ k := by omega
    have hkn : k ≤ n := by have := Nat.mod_lt q hn0; omega
    obtain ⟨p, hp⟩ : ∃ p, p = z0 % k := ⟨_, rfl⟩
    have hpk : p < k := by rw [hp]; exact Nat.mod_lt _ hk1
    obtain ⟨m, hm⟩ : ∃ m, m = 1 + z1 % k := ⟨_, rfl⟩
    have hm1 : 1 ≤ m := by omega
    have hmk : m ≤ k := by have := Nat.mod_lt z1 hk1; omega
    have hn9 : n < 1000 := Nat.lt_of_le_of_lt n60 (by decide)
    have hwk : wrap64 (1 + (q : Int) % (n : Int)) = (k : Int) := by rw [wrapM q n hn0 hn9, hk]
    have hk9 : k < 1000 := Nat.lt_of_le_of_lt (Nat.le_trans hkn n60) (by decide)
    have hwm : wrap64 (1 + (z1 : Int) % (k : Int)) = (m : Int) := by rw [wrapM z1 k hk1 hk9, hm]
    have hwp : (z0 : Int) % (k : Int) = (p : Int) := by rw [← Int.natCast_emod, hp]
    have HWK := Lib.hid (And.intro hwk (And.intro hwp hwm))
    clear hwk hwp hwm hk hp hm hk9 hn9
    have HK := Lib.hid (And.intro hk1 (And.intro hkn (And.intro hpk (And.intro hm1 hmk))))
    have k0 : (1 : Int) ≤ (k : Int) := by omega
    have k2 : (k : Int) ≤ (n : Int) := by omega
    have k3 : (k : Int) ≤ (ca : Int) := by omega
    have k4 : (k : Int) ≤ 60 := by omega
    have p0 : (0 : Int) ≤ (p : Int) := by omega
    have m0 : (0 : Int) ≤ (m : Int) := by omega
    have m4 : (m : Int) ≤ 60 := by omega
    have q0 : (0 : Int) ≤ (q : Int) := by omega
    have q1 : (q : Int) ≤ 255 := by omega
    have z00 : (0 : Int) ≤ (z0 : Int) := by omega
    have z01 : (z0 : Int) ≤ 255 := by omega
    have z10 : (0 : Int) ≤ (z1 : Int) := by omega
    have z11 : (z1 : Int) ≤ 255 := by omega
    have n0 : (1 : Int) ≤ (n : Int) := by omega
    clear hk1 hkn hpk hm1 hmk hq hz0 hz1 hn0 n60
    unfold maxLen at a2
    have h0 : l ≠ [] := by intro h; have := HN.out; rw [h] at this; simp at this; omega
    obtain ⟨bl, ol, c9, he1, _, _⟩ := HV.out.form h0
    simp only [Value.slice.injEq] at he1
    obtain ⟨rfl, h9, rfl⟩ := he1
    clear h9 h0
    go_enter Try.func14, Try.ntmps14
    refine wp_cut 9 ?_
    intro T hT
    dsimp only [cutN]
    replace hT := Lib.hid hT
    go_wp2_with fail
    rw [← hZ]
    clear hZ
    generalize w.alloc (.cells #[.int .u8 (z0 : Int), .int .u8 (z1 : Int)] 68) = W0 at *
    refine (HGR.out _ (HV.out.below HA.out.w)).mono ?_
    rintro e w1 ⟨rfl, rfl⟩
    clear HGR
    go_wp2_with fail
    refine (made_any l _ W0 (by have := HV.out.below HA.out.w; rw [HN.out] at this ⊢; exact this) (by have := HN.out; omega)).mono ?_
    rintro e w1 ⟨hB, hc⟩
    rw [HWK.out.1]
    have HA1 := Lib.hid (HA.out.below hB)
    have hll : l.length < 1000000 := by have := HN.out; omega
    rcases hc with ⟨c, rfl, hC, -⟩ | rfl
    rotate_left
    · clear hB HA
      go_wp2_with fail
      refine (made_any (l.take k) _ w1 (by have := (HV.out.below HA1.out.w).take k (by have := HN.out; have := HK.out.2.1; omega); exact this) (by rw [List.length_take]; omega)).mono ?_
      rintro e w2 ⟨hB, hc⟩
      have HA2 := Lib.hid (HA1.out.below hB)
      have hor : ∃ o, e = .returned (.pointer o) := by
        rcases hc with ⟨d, rfl, -⟩ | rfl
        · exact ⟨_, rfl⟩
        · exact ⟨_, rfl⟩
      obtain ⟨o, rfl⟩ := hor
      clear hc hB HA1
      go_wp2_with fail
      refine (alive12_any _).mono ?_
      rintro e w3 ⟨rfl, hb⟩
      have HF := Lib.hid (HA2.out.below hb); clear hb
      go_wp2_with fail
      exact bodyPost_ret (results_tmp rfl _ _ _) rfl ⟨rfl, HF.out.w⟩
    · replace HA1 := Lib.hid (HA1.out.addC hC)
      have hlk : (l.take k).length = k := by rw [List.length_take]; have := HN.out; have := HK.out.2.1; omega
      have HLK := Lib.hid hlk
      have hkl : k ≤ l.length := by have := HN.out; have := HK.out.2.1; omega
      clear hB HA hC
      obtain ⟨B1, hB1⟩ : ∃ B, B = W0.heap.size := ⟨_, rfl⟩
      rw [← hB1] at HA1
      clear hB1
      go_wp2_with fail
      refine (made_any (l.take k) _ w1 (by have := (HV.out.below HA1.out.w).take k hkl; exact this) (by rw [HLK.out]; omega)).mono ?_
      rintro e w2 ⟨hB, hc⟩
      have HA2 := Lib.hid (HA1.out.below hB)
      rcases hc with ⟨d, rfl, hC, -⟩ | rfl
      rotate_left
      · clear hB HA1
        go_wp2_with fail
        refine (alive12_any _).mono ?_
        rintro e w3 ⟨rfl, hb⟩
        have HF := Lib.hid (HA2.out.below hb); clear hb
        go_wp2_with fail
        exact bodyPost_ret (results_tmp rfl _ _ _) rfl ⟨rfl, HF.out.w⟩
      · replace HA2 := Lib.hid (HA2.out.addC hC)
        obtain ⟨B2, hB2⟩ : ∃ B, B = w1.heap.size := ⟨_, rfl⟩
        rw [← hB2] at HA2
        clear hB2 hB HA1 hC
        have g0 := HA2.out.g (⟨Z, 0, none⟩, .int .u8 (z0 : Int)) (by simp)
        have g1 := HA2.out.g (⟨Z, 1, none⟩, .int .u8 (z1 : Int)) (by simp)
        go_wp2_with fail
        rw [HWK.out.2.1, HWK.out.2.2, wrapU p (by have := HK.out.2.2.1; omega), wrapU m (by have := HK.out.2.2.2.2; omega)]
        clear g0 g1
        refine hT.out _ _ ?_
        refine grow_mid w _ l c d B1 B2 k p m hkl HK.out.2.2.1 HK.out.2.2.2.1 HK.out.2.2.2.2 (by omega) ?_
        exact ⟨HA2.out.c, by simp, by simp, by simp, HA2.out.w⟩
end Go.Proofs.Ytdkcndgehgmadaa
