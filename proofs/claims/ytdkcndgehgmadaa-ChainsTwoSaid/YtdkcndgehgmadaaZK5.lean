/-
  Merged: K12, K13.
-/
import Derived.Test.YtdkcndgehgmadaaZK4
import Derived.Deep.Slices
-- Walks: append of lists of bytes.
open Go Go.RowKit Alm
namespace Go.Proofs.Ytdkcndgehgmadaa
/-- Slices, and the bytes that each one leads to. -/
def Each (W : World) (cs : List Value) (ls : List (List UInt8)) : Prop := cs.length = ls.length ∧ (∀ (j : Nat) (u : Value) (b : List UInt8), cs[j]? = some u → ls[j]? = some b → BytesAt W u b) ∧ ∀ u ∈ cs, u.oneCell' = true
theorem Each.nil (W : World) : Each W [] [] := ⟨rfl, by simp, by simp⟩
theorem Each.append {W : World} {cs ds : List Value} {ls ms : List (List UInt8)} (h : Each W cs ls) (k : Each W ds ms) : Each W (cs ++ ds) (ls ++ ms) := by
  refine ⟨by rw [List.length_append, List.length_append, h.1, k.1], fun j u b hu hb => ?_, fun u hu => ?_⟩
  · by_cases hj : j < cs.length
    · rw [List.getElem?_append_left hj] at hu
      rw [List.getElem?_append_left (by rw [← h.1]; exact hj)] at hb
      exact h.2.1 j u b hu hb
    · rw [List.getElem?_append_right (by omega)] at hu
      rw [List.getElem?_append_right (by rw [← h.1]; omega)] at hb
      rw [← h.1] at hb
      exact k.2.1 _ u b hu hb
  · rcases List.mem_append.1 hu with hu | hu
    · exact h.2.2 u hu
    · exact k.2.2 u hu
theorem ListsAt.each {w : World} {v : Value} {ls : List (List UInt8)} (h : ListsAt w v ls) (h0 : ls ≠ []) : ∃ b o cap cs, v = .slice (some ⟨b, o, none⟩) ls.length cap ∧ w.rangeAt b o cs ∧ Each w cs ls := by
  obtain ⟨a, cap, rfl, h1, h2, h3⟩ := h
  obtain ⟨b, o, rfl, h4⟩ := h3.resolve_left h0
  have one : ∀ i, i < ls.length → ∃ u, w.cell? ⟨b, o + i, none⟩ = some u ∧ ∃ hh : i < ls.length, BytesAt w u ls[i] := fun i hi => by
    obtain ⟨u, hu, hb⟩ := h4 i hi
    exact ⟨u, hu, hi, hb⟩
  obtain ⟨f, hf⟩ := Deep.choose_lt one
  have hget : ∀ j u, ((List.range ls.length).map f)[j]? = some u → j < ls.length ∧ u = f j := fun j u hj => by
    have hjl : j < ((List.range ls.length).map f).length := (List.getElem?_eq_some_iff.1 hj).1
    rw [List.length_map, List.length_range] at hjl
    refine ⟨hjl, ?_⟩
    simp [hjl] at hj
    exact hj.symm
  refine ⟨b, o, cap, (List.range ls.length).map f, rfl, fun j u hj => ?_, by simp, fun j u c hu hc => ?_, fun u hu => ?_⟩
  · obtain ⟨hj1, rfl⟩ := hget j u hj
    exact (hf j hj1).1
  · obtain ⟨hj1, rfl⟩ := hget j u hu
    obtain ⟨_, _, h5⟩ := hf j hj1
    rw [List.getElem?_eq_getElem hj1, Option.some.injEq] at hc
    rw [← hc]; exact h5
  · obtain ⟨i, hi, rfl⟩ := List.mem_map.1 hu
    obtain ⟨_, _, h5⟩ := hf i (List.mem_range.1 hi)
    obtain ⟨a9, c9, e9, _⟩ := h5
    rw [e9]; rfl
theorem lists_own {W0 W : World} {base : Nat} {v : Value} {cs : List Value} {ls : List (List UInt8)} (ho : W.ownsRow base 50 1 v ls.length cs) (hE : Each W0 cs ls) (hb : Below W0.heap.size W0 W) : ListsAt W v ls := by
  by_cases h0 : ls = []
  · subst h0
    rcases ho.2 with ⟨rfl, _⟩ | ⟨g, cap, cur, rfl, _, _, hnc, hcm, _⟩
    · exact ⟨none, 0, rfl, Nat.le_refl _, by decide, .inl rfl⟩
    · exact ⟨_, cap, rfl, hnc, hcm, .inl rfl⟩
  · obtain ⟨g, cap, rfl, h1, h2, _, hr⟩ := own_range ho (List.length_pos_iff.2 h0)
    refine ⟨_, cap, rfl, h1, h2, .inr ⟨g, 0, rfl, fun j hj => ?_⟩⟩
    have hjc : j < cs.length := by rw [hE.1]; exact hj
    refine ⟨cs[j], hr j _ (List.getElem?_eq_getElem hjc), ?_⟩
    exact bytes_below (hE.2.1 j _ _ (List.getElem?_eq_getElem hjc) (List.getElem?_eq_getElem hj)) hb (Nat.le_refl _)
theorem infoSliceZ : (Try.prog.info? 50).map (fun i => (i.zero, i.size, i.bytes)) = some (some (.slice none 0 0), 1, 24) := by kernel_rfl
theorem wpList_append_none {w : World} {ops : Array Oper} {rest : List Oper} {o : Oper} {a : Act} {Q : Exit → Act → World → Prop} (hgd : o.guard = none) (s x : Operand)
    (ho : o.op = .call { callee := .builtin .append, args := #[s, x], argTypes := #[67, 67] })
    (base : Nat) (i : TypeInfo) (hi : Try.prog.info? 50 = some i)
    (v : Value) (n : Nat) (xs : List Value) (hs : a.eval s = v) (hown : w.ownsRow base 50 1 v n xs) (ad : Option Addr) (c : Nat) (hx : a.eval x = .slice ad 0 c)
    (h : wpList Try.prog ops Q rest (a.put o.dst v) w) : wpList Try.prog ops Q (o :: rest) a w := by
  refine wpList_plain hgd fun K hK => ?_
  have hrun : (Builtin.append_ #[67, 67] o.type #[v, .slice ad 0 c]).run Try.prog w = .ok v w := by
    rcases hown.2 with ⟨rfl, rfl⟩ | ⟨g, cap, cur, rfl, _, _, hnc, _⟩
    · cases ad <;> simp [Builtin.append_, run_underlying Try.underlying67, sizeOf, typeInfo, hi, Builtin.lenOf, Builtin.firstCells, loadCells, loadCellsFrom]
    · cases ad <;> simp [Builtin.append_, run_underlying Try.underlying67, sizeOf, typeInfo, hi, Builtin.lenOf, Builtin.firstCells, loadCells, loadCellsFrom, hnc, storeCells]
  unfold Oper.wp
  simp [execOp, ho, resolve, invoke, builtin, hs, hx, hrun, Result.andThen]
  exact hK _ _ h
theorem wpList_append_lists {W0 w : World} {ops : Array Oper} {rest : List Oper} {o : Oper} {a : Act} {Q : Exit → Act → World → Prop} (hgd : o.guard = none) (s x : Operand)
    (ho : o.op = .call { callee := .builtin .append, args := #[s, x], argTypes := #[67, 67] })
    (hW0 : Below W0.heap.size W0 w) (v vx : Value) (cs : List Value) (ls xs : List (List UInt8)) (hs : a.eval s = v) (hown : w.ownsRow W0.heap.size 50 1 v ls.length cs) (hE : Each W0 cs ls)
    (hx : a.eval x = vx) (hl : ListsAt W0 vx xs) (hlen : ls.length + xs.length < 1000000)
    (h : ∀ a' c' w' cs', w'.ownsRow W0.heap.size 50 1 (.slice a' (ls ++ xs).length c') (ls ++ xs).length cs' → Each W0 cs' (ls ++ xs) → Below W0.heap.size W0 w' → wpList Try.prog ops Q rest (a.put o.dst (.slice a' (ls ++ xs).length c')) w') : wpList Try.prog ops Q (o :: rest) a w := by
  obtain ⟨i0, hi0, hz0⟩ := Option.map_eq_some_iff.1 infoSliceZ
  simp only [Prod.mk.injEq] at hz0
  by_cases h0 : xs = []
  · subst h0
    obtain ⟨ax, cx, rfl, _, _, _⟩ := hl
    refine wpList_append_none hgd s x ho W0.heap.size i0 hi0 v _ cs hs hown ax cx hx ?_
    rw [List.append_nil] at h
    have hform : ∃ a' c', v = .slice a' ls.length c' := by
      rcases hown.2 with ⟨rfl, e0⟩ | ⟨g, cap, cur, rfl, _⟩
      · exact ⟨none, 0, by rw [e0]⟩
      · exact ⟨_, _, rfl⟩
    obtain ⟨a', c', rfl⟩ := hform
    exact h a' c' w cs hown hE hW0
  · obtain ⟨b, off, cap, ds, rfl, hr, hE2⟩ := hl.each h0
    have hr' : w.rangeAt b off ds := (Keeps.of_below (X := fun _ => False) hW0).range hr (fun h => h)
    refine wpList_plain hgd fun K hK => ?_
    refine wp_append_lies w s x _ ho W0.heap.size _ i0 (.slice none 0 0) 1 24 Try.underlying67 hi0 hz0.1 hz0.2.1 hz0.2.2 rfl (by omega) v ls.length cs hs hown ⟨b, off, none⟩ xs.length cap ds hx (by rw [hE2.1, Nat.mul_one]) (fun j u hj => by rw [Addr.add_mid]; exact hr' j u hj) hE2.2.2 (List.length_pos_iff.2 h0) (by unfold maxLen; omega) (by omega) hW0.size w.heap.size rfl ?_
    intro g cap' w' ho' hg hat hlt
    have hE3 := hE.append hE2
    rw [← List.length_append] at ho' ⊢
    refine hK _ _ (h _ _ w' _ ho' hE3 ?_)
    exact ((Keeps.of_below (X := fun k => W0.heap.size ≤ k) hW0).trans (Keeps.of_grown (X := fun k => W0.heap.size ≤ k) hg (fun k hk => own_base hown k hk))).below (Nat.le_refl _) (fun k h => h)
end Go.Proofs.Ytdkcndgehgmadaa
-- Walks: almonerlaw12.ChainsTwo.
open Go Go.RowKit Alm
namespace Go.Proofs.Ytdkcndgehgmadaa
noncomputable def twoCode : Code := (Try.f16.body).getD .skip
set_option maxRecDepth 100000 in
set_option maxHeartbeats 4000000 in
theorem two_end {u0 u1 u2 u3 u4 u5 u6 u26 u27 u28 u29 u30 u31 u32 u33 u34 u35 u36 u37 u38 u39 u40 u41 u42 u43 u44 u45 u46 u47 u48 u49 u50 u51 u52 u53 u54 u55 u56 u57 u58 u59 u60 u61 u62 u63 u64 u65 u66 u67 u68 u69 u70 u71 u72 u73 u74 u75 u76 u77 u78 u79 u80 u81 u82 u83 u84 u85 u86 u87 u88 u89 u90 u91 u92 u93 u94 u95 u96 u97 u98 u99 u100 u101 u102 u103 u104 u105 u106 u107 u108 u109 u110 u111 u112 u113 u114 u115 u116 u117 u118 u119 u120 u121 u122 u123 u124 u125 u126 u127 u128 u129 u130 u131 u132 u133 u134 u135 u136 u137 u138 u139 u140 u141 u142 u143 u144 u145 u146 u147 u148 u149 u150 u151 u152 u153 u154 u155 u156 u157 u158 u159 u160 u161 u162 u163 u164 u165 u166 u167 u168 u169 u170 u171 u172 u173 u174 u175 u176 u177 u178 u179 u180 u181 u182 u183 u184 u185 : Value} (w W : World) (sr tx ty sm : Sum) (lx ly : List Sum) (L M : List (List UInt8)) (c d B1 B2 zr1 zr2 zt1 zt2 zm1 zm2 n1 n2 c1 c2 n s1 s2 : Nat) (a1 a2 : Option Addr)
    (h : GV w W [(B2, d, M), (B1, c, L)] [] [(zm2, sm), (zm1, sm), (zt2, ty), (zt1, tx), (zr2, sr), (zr1, sr)] [(.slice a2 n2 c2, ly), (.slice a1 n1 c1, lx)])
    (hs1 : L.length = s1) (hs2 : M.length = s2) (h1 : 1 ≤ n) (h2 : n ≤ s1) (h3 : n ≤ s2) (h4 : s1 ≤ 60) (h5 : s2 ≤ 60) (hlx : letBe n s1 sr tx lx = true) (hly : letBe n s2 sr ty ly = true) :
    Code.wp Try.prog (dropN 14 twoCode) (bodyPost Try.prog Try.f16 fun e w' => e = .returned (.bool true) ∧ Below w.heap.size w w') ⟨#[u0, u1, u2, u3, u4, u5, u6, .pointer (some ⟨c, 0, none⟩), .pointer (some ⟨d, 0, none⟩), .int .u64 (n : Int), .pointer (some ⟨zr1, 0, none⟩), .int .i64 0, .pointer (some ⟨zr2, 0, none⟩), .int .i64 0, .slice a1 n1 c1, .int .i64 0, .slice a2 n2 c2, .int .i64 0, .pointer (some ⟨zt1, 0, none⟩), .int .i64 0, .pointer (some ⟨zt2, 0, none⟩), .int .i64 0, .pointer (some ⟨zm1, 0, none⟩), .int .i64 0, .pointer (some ⟨zm2, 0, none⟩), .int .i64 0, u26, u27, u28, u29, u30, u31, u32, u33, u34, u35, u36, u37, u38, u39, u40, u41, u42, u43, u44, u45, u46, u47, u48, u49, u50, u51, u52, u53, u54, u55, u56, u57, u58, u59, u60, u61, u62, u63, u64, u65, u66, u67, u68, u69, u70, u71, u72, u73, u74, u75, u76, u77, u78, u79, u80, u81, u82, u83, u84, u85, u86, u87, u88, u89, u90, u91, u92, u93, u94, u95, u96, u97, u98, u99, u100, u101, u102, u103, u104, u105, u106, u107, u108, u109, u110, u111, u112, u113, u114, u115, u116, u117, u118, u119, u120, u121, u122, u123, u124, u125, u126, u127, u128, u129, u130, u131, u132, u133, u134, u135, u136, u137, u138, u139, u140, u141, u142, u143, u144, u145, u146, u147, u148, u149, u150, u151, u152, u153, u154, u155, u156, u157, u158, u159, u160, u161, u162, u163, u164, u165, u166, u167, u168, u169, u170, u171, u172, u173, u174, u175, u176, u177, u178, u179, u180, u181, u182, u183, u184, u185], []⟩ W := by
  have HA := Lib.hid h
  have HK := Lib.hid (And.intro h1 (And.intro h2 (And.intro h3 (And.intro h4 h5))))
  have HB := Lib.hid (And.intro hlx hly)
  have hz1 := fun V (h : ChainAt B1 V c L) => csize_at B1 V c L h
  have hz2 := fun V (h : ChainAt B2 V d M) => csize_at B2 V d M h
  rw [hs1] at hz1
  rw [hs2] at hz2
  have HZ := Lib.hid (And.intro hz1 hz2)
  clear h h1 h2 h3 h4 h5 hlx hly hz1 hz2 hs1 hs2
  have hes := eq_sums_same
  conv => arg 2; whnf
  go_wp2_with fail
  refine wp_region_sched (fun V => Below W.heap.size W V) [.e 0 true, .t 1, .s 2, .s 3, .t 4, .t 5, .t 6, .s 7, .s 8, .t 9, .t 10, .t 11, .t 12, .t 13, .t 17, .s 15, .s 16, .e 14 true, .e 18 true, .t 19, .t 20, .t 21, .t 22, .t 26, .s 24, .s 25, .e 23 true, .e 27 true, .t 28, .t 29] (by kernel_rfl) (by kernel_rfl) (by intro c a d v w h; cases d <;> exact h) ?_
  have HS := Lib.hid (Below.refl W.heap.size W).drew
  generalize W.drew = V at *
  refine wpS_k rfl (by rfl) (fun K hK => ?_)
  go_simp
  refine (alive12_any V).mono ?_
  rintro e V1 ⟨rfl, hb⟩
  have HS1 := Lib.hid (HS.out.trans (hb.mono HS.out.size))
  clear hb HS
  refine hK _ _ ⟨by exact HS1.out, ?_⟩; clear hK K
  try simp only [Act.put, List.setIfInBounds_toArray, List.set_cons_zero, List.set_cons_succ]
  iterate 1
    refine wpS_t rfl (v := ?_) (by rfl) (fun W => ?_) ?_
    rotate_left
    · go_simp
      try rfl
    try simp only [Act.put, List.setIfInBounds_toArray, List.set_cons_zero, List.set_cons_succ]
  refine wpS_load_sum (by exact HS1.out) rfl (by rfl) _ (by rfl) zr1 0 (by rfl) sr (fun W hW => (HA.out.below hW).r (zr1, sr) (by simp)) ?_
  try simp only [Act.put, List.setIfInBounds_toArray, List.set_cons_zero, List.set_cons_succ]
  refine wpS_load_sum (by exact HS1.out) rfl (by rfl) _ (by rfl) zr2 0 (by rfl) sr (fun W hW => (HA.out.below hW).r (zr2, sr) (by simp)) ?_
  try simp only [Act.put, List.setIfInBounds_toArray, List.set_cons_zero, List.set_cons_succ]
  iterate 3
    refine wpS_t rfl (v := ?_) (by rfl) (fun W => ?_) ?_
    rotate_left
    · go_simp
      try rfl
    try simp only [Act.put, List.setIfInBounds_toArray, List.set_cons_zero, List.set_cons_succ]
  refine wpS_load_sum (by exact HS1.out) rfl (by rfl) _ (by rfl) zm1 0 (by rfl) sm (fun W hW => (HA.out.below hW).r (zm1, sm) (by simp)) ?_
  try simp only [Act.put, List.setIfInBounds_toArray, List.set_cons_zero, List.set_cons_succ]
  refine wpS_load_sum (by exact HS1.out) rfl (by rfl) _ (by rfl) zm2 0 (by rfl) sm (fun W hW => (HA.out.below hW).r (zm2, sm) (by simp)) ?_
  try simp only [Act.put, List.setIfInBounds_toArray, List.set_cons_zero, List.set_cons_succ]
  iterate 6
    refine wpS_t rfl (v := ?_) (by rfl) (fun W => ?_) ?_
    rotate_left
    · go_simp
      try rfl
    try simp only [Act.put, List.setIfInBounds_toArray, List.set_cons_zero, List.set_cons_succ]
  refine wpS_load_sum (by exact HS1.out) rfl (by rfl) _ (by rfl) zr1 0 (by rfl) sr (fun W hW => (HA.out.below hW).r (zr1, sr) (by simp)) ?_
  try simp only [Act.put, List.setIfInBounds_toArray, List.set_cons_zero, List.set_cons_succ]
  refine wpS_load_sum (by exact HS1.out) rfl (by rfl) _ (by rfl) zt1 0 (by rfl) tx (fun W hW => (HA.out.below hW).r (zt1, tx) (by simp)) ?_
  try simp only [Act.put, List.setIfInBounds_toArray, List.set_cons_zero, List.set_cons_succ]
  refine wpS_k rfl (by rfl) (fun K hK => ?_)
  go_simp
  refine (HZ.out.1 V1 ((HA.out.below HS1.out).c (B1, c, L) (by simp))).mono ?_
  rintro e V2 ⟨rfl, rfl⟩
  refine hK _ _ ⟨by exact HS1.out, ?_⟩; clear hK K
  try simp only [Act.put, List.setIfInBounds_toArray, List.set_cons_zero, List.set_cons_succ]
  refine wpS_k rfl (by rfl) (fun K hK => ?_)
  go_simp
  refine (check_in n s1 sr tx _ lx V1 ((HA.out.below HS1.out).s (.slice a1 n1 c1, lx) (by simp)) HK.out.1 HK.out.2.1 (.inr (by have := HK.out.2.2.2.1; omega))).mono ?_
  rw [HB.out.1]
  rintro e V2 ⟨rfl, hb⟩
  have HS2 := Lib.hid (HS1.out.trans (hb.mono HS1.out.size))
  clear hb HS1
  refine hK _ _ ⟨by exact HS2.out, ?_⟩; clear hK K
  try simp only [Act.put, List.setIfInBounds_toArray, List.set_cons_zero, List.set_cons_succ]
  iterate 5
    refine wpS_t rfl (v := ?_) (by rfl) (fun W => ?_) ?_
    rotate_left
    · go_simp
      try rfl
    try simp only [Act.put, List.setIfInBounds_toArray, List.set_cons_zero, List.set_cons_succ]
  refine wpS_load_sum (by exact HS2.out) rfl (by rfl) _ (by rfl) zr2 0 (by rfl) sr (fun W hW => (HA.out.below hW).r (zr2, sr) (by simp)) ?_
  try simp only [Act.put, List.setIfInBounds_toArray, List.set_cons_zero, List.set_cons_succ]
  refine wpS_load_sum (by exact HS2.out) rfl (by rfl) _ (by rfl) zt2 0 (by rfl) ty (fun W hW => (HA.out.below hW).r (zt2, ty) (by simp)) ?_
  try simp only [Act.put, List.setIfInBounds_toArray, List.set_cons_zero, List.set_cons_succ]
  refine wpS_k rfl (by rfl) (fun K hK => ?_)
  go_simp
  refine (HZ.out.2 V2 ((HA.out.below HS2.out).c (B2, d, M) (by simp))).mono ?_
  rintro e V3 ⟨rfl, rfl⟩
  refine hK _ _ ⟨by exact HS2.out, ?_⟩; clear hK K
  try simp only [Act.put, List.setIfInBounds_toArray, List.set_cons_zero, List.set_cons_succ]
  refine wpS_k rfl (by rfl) (fun K hK => ?_)
  go_simp
  refine (check_in n s2 sr ty _ ly V2 ((HA.out.below HS2.out).s (.slice a2 n2 c2, ly) (by simp)) HK.out.1 HK.out.2.2.1 (.inr (by have := HK.out.2.2.2.2; omega))).mono ?_
  rw [HB.out.2]
  rintro e V3 ⟨rfl, hb⟩
  have HS3 := Lib.hid (HS2.out.trans (hb.mono HS2.out.size))
  clear hb HS2
  refine hK _ _ ⟨by exact HS3.out, ?_⟩; clear hK K
  try simp only [Act.put, List.setIfInBounds_toArray, List.set_cons_zero, List.set_cons_succ]
  iterate 2
    refine wpS_t rfl (v := ?_) (by rfl) (fun W => ?_) ?_
    rotate_left
    · go_simp
      try rfl
    try simp only [Act.put, List.setIfInBounds_toArray, List.set_cons_zero, List.set_cons_succ]
  refine wpS_done ?_
  go_wp2_with fail
  exact bodyPost_ret (results_tmp rfl _ _ _) rfl ⟨rfl, (HA.out.below HS3.out).w⟩
set_option maxRecDepth 100000 in
set_option maxHeartbeats 4000000 in
theorem two_calls {u1 u2 u3 u4 u5 u6 u9 u10 u11 u12 u13 u14 u15 u16 u17 u18 u19 u20 u21 u22 u23 u24 u25 u26 u27 u28 u29 u30 u31 u32 u33 u34 u35 u36 u37 u38 u39 u40 u41 u42 u43 u44 u45 u46 u47 u48 u49 u50 u51 u52 u53 u54 u55 u56 u57 u58 u59 u60 u61 u62 u63 u64 u65 u66 u67 u68 u69 u70 u71 u72 u73 u74 u75 u76 u77 u78 u79 u80 u81 u82 u83 u84 u85 u86 u87 u88 u89 u90 u91 u92 u93 u94 u95 u96 u97 u98 u99 u100 u101 u102 u103 u104 u105 u106 u107 u108 u109 u110 u111 u112 u113 u114 u115 u116 u117 u118 u119 u120 u121 u122 u123 u124 u125 u126 u127 u128 u129 u130 u131 u132 u133 u134 u135 u136 u137 u138 u139 u140 u141 u142 u143 u144 u145 u146 u147 u148 u149 u150 u151 u152 u153 u154 u155 u156 u157 u158 u159 u160 u161 u162 u163 u164 u165 u166 u167 u168 u169 u170 u171 u172 u173 u174 u175 u176 u177 u178 u179 u180 u181 u182 u183 u184 u185 : Value} (w W : World) (l a b : List (List UInt8)) (c d B1 B2 n ca : Nat) (al_ : Option Addr) (hn : n = l.length) (h1 : 1 ≤ n) (ha : (l ++ a).length ≤ 60) (hb : (l ++ b).length ≤ 60)
    (h : GV w W [(B2, d, l ++ b), (B1, c, l ++ a)] [] [] []) :
    Code.wp Try.prog (dropN 5 twoCode) (bodyPost Try.prog Try.f16 fun e w' => e = .returned (.bool true) ∧ Below w.heap.size w w') ⟨#[.slice al_ n ca, u1, u2, u3, u4, u5, u6, .pointer (some ⟨c, 0, none⟩), .pointer (some ⟨d, 0, none⟩), u9, u10, u11, u12, u13, u14, u15, u16, u17, u18, u19, u20, u21, u22, u23, u24, u25, u26, u27, u28, u29, u30, u31, u32, u33, u34, u35, u36, u37, u38, u39, u40, u41, u42, u43, u44, u45, u46, u47, u48, u49, u50, u51, u52, u53, u54, u55, u56, u57, u58, u59, u60, u61, u62, u63, u64, u65, u66, u67, u68, u69, u70, u71, u72, u73, u74, u75, u76, u77, u78, u79, u80, u81, u82, u83, u84, u85, u86, u87, u88, u89, u90, u91, u92, u93, u94, u95, u96, u97, u98, u99, u100, u101, u102, u103, u104, u105, u106, u107, u108, u109, u110, u111, u112, u113, u114, u115, u116, u117, u118, u119, u120, u121, u122, u123, u124, u125, u126, u127, u128, u129, u130, u131, u132, u133, u134, u135, u136, u137, u138, u139, u140, u141, u142, u143, u144, u145, u146, u147, u148, u149, u150, u151, u152, u153, u154, u155, u156, u157, u158, u159, u160, u161, u162, u163, u164, u165, u166, u167, u168, u169, u170, u171, u172, u173, u174, u175, u176, u177, u178, u179, u180, u181, u182, u183, u184, u185], []⟩ W := by
  have HA := Lib.hid h
  have hna : n ≤ (l ++ a).length := by rw [hn, List.length_append]; omega
  have hnb : n ≤ (l ++ b).length := by rw [hn, List.length_append]; omega
  have tka : (l ++ a).take n = l := by rw [hn, List.take_left' rfl]
  have tkb : (l ++ b).take n = l := by rw [hn, List.take_left' rfl]
  have twa : (l ++ a).take (l ++ a).length = l ++ a := List.take_length
  have twb : (l ++ b).take (l ++ b).length = l ++ b := List.take_length
  have hr1 := fun V (h : ChainAt B1 V c (l ++ a)) => croot_at B1 V c (l ++ a) h n hna
  have hr2 := fun V (h : ChainAt B2 V d (l ++ b)) => croot_at B2 V d (l ++ b) h n hnb
  have hm1 := fun V (h : ChainAt B1 V c (l ++ a)) => cmark_at B1 V c (l ++ a) h n hna
  have hm2 := fun V (h : ChainAt B2 V d (l ++ b)) => cmark_at B2 V d (l ++ b) h n hnb
  have hz1 := fun V (h : ChainAt B1 V c (l ++ a)) => csize_at B1 V c (l ++ a) h
  have hz2 := fun V (h : ChainAt B2 V d (l ++ b)) => csize_at B2 V d (l ++ b) h
  have hl1 := fun V (h : ChainAt B1 V c (l ++ a)) => clink_told B1 V c (l ++ a) h (l ++ a).length (Nat.le_refl _) n hna h1 (by omega)
  have hl2 := fun V (h : ChainAt B2 V d (l ++ b)) => clink_told B2 V d (l ++ b) h (l ++ b).length (Nat.le_refl _) n hnb h1 (by omega)
  have ht1 := fun V (h : ChainAt B1 V c (l ++ a)) => croot_at B1 V c (l ++ a) h (l ++ a).length (Nat.le_refl _)
  have ht2 := fun V (h : ChainAt B2 V d (l ++ b)) => croot_at B2 V d (l ++ b) h (l ++ b).length (Nat.le_refl _)
  rw [tka] at hr1 hm1
  rw [tkb] at hr2 hm2
  rw [twa] at hl1 ht1
  rw [twb] at hl2 ht2
  have hx : letBe n (l ++ a).length (rt (l.map lf)) (rt ((l ++ a).map lf)) (link nd e0 ((l ++ a).map lf) n true) = true := by
    have := letBe_link12 ((l ++ a).map lf) n h1 (by rw [List.length_map]; exact hna)
    rw [← List.map_take, tka, List.length_map] at this
    exact this
  have hy : letBe n (l ++ b).length (rt (l.map lf)) (rt ((l ++ b).map lf)) (link nd e0 ((l ++ b).map lf) n true) = true := by
    have := letBe_link12 ((l ++ b).map lf) n h1 (by rw [List.length_map]; exact hnb)
    rw [← List.map_take, tkb, List.length_map] at this
    exact this
  generalize rt (l.map lf) = sr at hr1 hr2 hx hy
  generalize mk l = sm at hm1 hm2
  generalize link nd e0 ((l ++ a).map lf) n true = lx at hl1 hx
  generalize link nd e0 ((l ++ b).map lf) n true = ly at hl2 hy
  generalize rt ((l ++ a).map lf) = tx at ht1 hx
  generalize rt ((l ++ b).map lf) = ty at ht2 hy
  obtain ⟨s1, hs1⟩ : ∃ s, (l ++ a).length = s := ⟨_, rfl⟩
  obtain ⟨s2, hs2⟩ : ∃ s, (l ++ b).length = s := ⟨_, rfl⟩
  rw [hs1] at hz1 hl1 ht1 hx hna ha
  rw [hs2] at hz2 hl2 ht2 hy hnb hb
  have H1 := Lib.hid (And.intro hr1 (And.intro hz1 (And.intro hl1 (And.intro ht1 hm1))))
  have H2 := Lib.hid (And.intro hr2 (And.intro hz2 (And.intro hl2 (And.intro ht2 hm2))))
  have HS := Lib.hid (And.intro hs1 (And.intro hs2 (And.intro h1 (And.intro hna (And.intro hnb (And.intro ha (And.intro hb (And.intro hx hy))))))))
  have n1 : (1 : Int) ≤ (n : Int) := by omega
  have n2 : (n : Int) ≤ 60 := by omega
  clear hr1 hr2 hm1 hm2 hz1 hz2 hl1 hl2 ht1 ht2 hx hy tka tkb twa twb hna hnb hs1 hs2 h1 ha hb hn h
  conv => arg 2; whnf
  refine wp_cut 9 ?_
  intro T hT
  dsimp only [cutN]
  replace hT := Lib.hid hT
  go_wp2_with fail
  refine (H1.out.1 _ (HA.out.c (B1, c, l ++ a) (by simp))).mono ?_
  rintro e w3 ⟨rfl, hb⟩
  have HA3 := Lib.hid (HA.out.below hb)
  clear hb HA
  have HG := Lib.hid trivial
  go_wp2_with (have _ := HG; refine wpList_var_sum (by rfl) rfl _ _ rfl sr rfl rfl ?_; intro w3v hb hr _ _; obtain ⟨zr1, hz⟩ : ∃ x, x = w3.heap.size := ⟨_, rfl⟩; rw [← hz] at hr ⊢; have HA3v := Lib.hid ((HA3.out.below hb).addR hr); clear HG hb hr hz HA3)
  refine (H2.out.1 _ (HA3v.out.c (B2, d, l ++ b) (by simp))).mono ?_
  rintro e w4 ⟨rfl, hb⟩
  have HA4 := Lib.hid (HA3v.out.below hb)
  clear hb HA3v
  have HG := Lib.hid trivial
  go_wp2_with (have _ := HG; refine wpList_var_sum (by rfl) rfl _ _ rfl sr rfl rfl ?_; intro w4v hb hr _ _; obtain ⟨zr2, hz⟩ : ∃ x, x = w4.heap.size := ⟨_, rfl⟩; rw [← hz] at hr ⊢; have HA4v := Lib.hid ((HA4.out.below hb).addR hr); clear HG hb hr hz HA4)
  refine (H1.out.2.1 _ (HA4v.out.c (B1, c, l ++ a) (by simp))).mono ?_
  rintro e w5 ⟨rfl, rfl⟩
  go_wp2_with fail
  refine (H1.out.2.2.1 _ (HA4v.out.c (B1, c, l ++ a) (by simp))).mono ?_
  rintro e w6 ⟨vx, rfl, hs, hb⟩
  obtain ⟨vxa, vxc, rfl, _, _, _⟩ := hs.sums
  have HA6 := Lib.hid ((HA4v.out.below hb).addS hs.sums)
  clear hb hs HA4v
  go_wp2_with fail
  refine (H2.out.2.1 _ (HA6.out.c (B2, d, l ++ b) (by simp))).mono ?_
  rintro e w7 ⟨rfl, rfl⟩
  go_wp2_with fail
  refine (H2.out.2.2.1 _ (HA6.out.c (B2, d, l ++ b) (by simp))).mono ?_
  rintro e w8 ⟨vy, rfl, hs, hb⟩
  obtain ⟨vya, vyc, rfl, _, _, _⟩ := hs.sums
  have HA8 := Lib.hid ((HA6.out.below hb).addS hs.sums)
  clear hb hs HA6
  go_wp2_with fail
  refine (H1.out.2.1 _ (HA8.out.c (B1, c, l ++ a) (by simp))).mono ?_
  rintro e w9 ⟨rfl, rfl⟩
  go_wp2_with fail
  refine (H1.out.2.2.2.1 _ (HA8.out.c (B1, c, l ++ a) (by simp))).mono ?_
  rintro e w10 ⟨rfl, hb⟩
  have HA10 := Lib.hid (HA8.out.below hb)
  clear hb HA8
  have HG := Lib.hid trivial
  go_wp2_with (have _ := HG; refine wpList_var_sum (by rfl) rfl _ _ rfl tx rfl rfl ?_; intro w10v hb hr _ _; obtain ⟨zt1, hz⟩ : ∃ x, x = w10.heap.size := ⟨_, rfl⟩; rw [← hz] at hr ⊢; have HA10v := Lib.hid ((HA10.out.below hb).addR hr); clear HG hb hr hz HA10)
  refine (H2.out.2.1 _ (HA10v.out.c (B2, d, l ++ b) (by simp))).mono ?_
  rintro e w11 ⟨rfl, rfl⟩
  go_wp2_with fail
  refine (H2.out.2.2.2.1 _ (HA10v.out.c (B2, d, l ++ b) (by simp))).mono ?_
  rintro e w12 ⟨rfl, hb⟩
  have HA12 := Lib.hid (HA10v.out.below hb)
  clear hb HA10v
  have HG := Lib.hid trivial
  go_wp2_with (have _ := HG; refine wpList_var_sum (by rfl) rfl _ _ rfl ty rfl rfl ?_; intro w12v hb hr _ _; obtain ⟨zt2, hz⟩ : ∃ x, x = w12.heap.size := ⟨_, rfl⟩; rw [← hz] at hr ⊢; have HA12v := Lib.hid ((HA12.out.below hb).addR hr); clear HG hb hr hz HA12)
  refine (H1.out.2.2.2.2 _ (HA12v.out.c (B1, c, l ++ a) (by simp))).mono ?_
  rintro e w13 ⟨rfl, hb⟩
  have HA13 := Lib.hid (HA12v.out.below hb)
  clear hb HA12v
  have HG := Lib.hid trivial
  go_wp2_with (have _ := HG; refine wpList_var_sum (by rfl) rfl _ _ rfl sm rfl rfl ?_; intro w13v hb hr _ _; obtain ⟨zm1, hz⟩ : ∃ x, x = w13.heap.size := ⟨_, rfl⟩; rw [← hz] at hr ⊢; have HA13v := Lib.hid ((HA13.out.below hb).addR hr); clear HG hb hr hz HA13)
  refine (H2.out.2.2.2.2 _ (HA13v.out.c (B2, d, l ++ b) (by simp))).mono ?_
  rintro e w14 ⟨rfl, hb⟩
  have HA14 := Lib.hid (HA13v.out.below hb)
  clear hb HA13v
  have HG := Lib.hid trivial
  go_wp2_with (have _ := HG; refine wpList_var_sum (by rfl) rfl _ _ rfl sm rfl rfl ?_; intro w14v hb hr _ _; obtain ⟨zm2, hz⟩ : ∃ x, x = w14.heap.size := ⟨_, rfl⟩; rw [← hz] at hr ⊢; have HA14v := Lib.hid ((HA14.out.below hb).addR hr); clear HG hb hr hz HA14)
  refine hT.out _ _ ?_
  exact two_end w _ sr tx ty sm lx ly (l ++ a) (l ++ b) c d B1 B2 zr1 zr2 zt1 zt2 zm1 zm2 lx.length ly.length _ _ n s1 s2 _ _ HA14v.out HS.out.1 HS.out.2.1 HS.out.2.2.1 HS.out.2.2.2.1 HS.out.2.2.2.2.1 HS.out.2.2.2.2.2.1 HS.out.2.2.2.2.2.2.1 HS.out.2.2.2.2.2.2.2.1 HS.out.2.2.2.2.2.2.2.2
theorem wpList_append_lists2 {W0 w : World} {ops : Array Oper} {rest : List Oper} {o : Oper} {a : Act} {Q : Exit → Act → World → Prop} (hgd : o.guard = none) (s x : Operand)
    (ho : o.op = .call { callee := .builtin .append, args := #[s, x], argTypes := #[67, 67] })
    (hW0 : Below W0.heap.size W0 w) (v vx : Value) (cs : List Value) (ls xs ms : List (List UInt8)) (n m : Nat) (hn : ls.length = n) (hms : ls ++ xs = ms) (hm : ms.length = m) (hs : a.eval s = v) (hown : w.ownsRow W0.heap.size 50 1 v n cs) (hE : Each W0 cs ls)
    (hx : a.eval x = vx) (hl : ListsAt W0 vx xs) (hlen : m < 1000000)
    (h : ∀ a' c' w' cs', w'.ownsRow W0.heap.size 50 1 (.slice a' m c') m cs' → Each W0 cs' ms → Below W0.heap.size W0 w' → wpList Try.prog ops Q rest (a.put o.dst (.slice a' m c')) w') : wpList Try.prog ops Q (o :: rest) a w := by
  subst hn hms hm
  exact wpList_append_lists hgd s x ho hW0 v vx cs ls xs hs hown hE hx hl (by rw [List.length_append] at hlen; exact hlen) h
set_option maxRecDepth 100000 in
set_option maxHeartbeats 4000000 in
theorem two_mid {u3 u4 u5 u6 u7 u8 u9 u10 u11 u12 u13 u14 u15 u16 u17 u18 u19 u20 u21 u22 u23 u24 u25 u26 u27 u28 u29 u30 u31 u32 u33 u34 u35 u36 u37 u38 u39 u40 u41 u42 u43 u44 u45 u46 u47 u48 u49 u50 u51 u52 u53 u54 u55 u56 u57 u58 u59 u60 u61 u62 u63 u64 u65 u66 u67 u68 u69 u70 u71 u72 u73 u74 u75 u76 u77 u78 u79 u80 u81 u82 u83 u84 u85 u86 u87 u88 u89 u90 u91 u92 u93 u94 u95 u96 u97 u98 u99 u100 u101 u102 u103 u104 u105 u106 u107 u108 u109 u110 u111 u112 u113 u114 u115 u116 u117 u118 u119 u120 u121 u122 u123 u124 u125 u126 u127 u128 u129 u130 u131 u132 u133 u134 u135 u136 u137 u138 u139 u140 u141 u142 u143 u144 u145 u146 u147 u148 u149 u150 u151 u152 u153 u154 u155 u156 u157 u158 u159 u160 u161 u162 u163 u164 u165 u166 u167 u168 u169 u170 u171 u172 u173 u174 u175 u176 u177 u178 u179 u180 u181 u182 u183 u184 u185 : Value} (w W : World) (l a b : List (List UInt8)) (n na nb cl ca cb : Nat) (al_ aa ab : Option Addr) (hl : ListsAt w (.slice al_ n cl) l) (hla : ListsAt w (.slice aa na ca) a) (hlb : ListsAt w (.slice ab nb cb) b) (hW : Below w.heap.size w W)
    (hn : l.length = n) (h1 : 1 ≤ n) (ha : (l ++ a).length ≤ 60) (hb : (l ++ b).length ≤ 60) :
    Code.wp Try.prog (dropN 2 twoCode) (bodyPost Try.prog Try.f16 fun e w' => e = .returned (.bool true) ∧ Below w.heap.size w w') ⟨#[.slice al_ n cl, .slice aa na ca, .slice ab nb cb, u3, u4, u5, u6, u7, u8, u9, u10, u11, u12, u13, u14, u15, u16, u17, u18, u19, u20, u21, u22, u23, u24, u25, u26, u27, u28, u29, u30, u31, u32, u33, u34, u35, u36, u37, u38, u39, u40, u41, u42, u43, u44, u45, u46, u47, u48, u49, u50, u51, u52, u53, u54, u55, u56, u57, u58, u59, u60, u61, u62, u63, u64, u65, u66, u67, u68, u69, u70, u71, u72, u73, u74, u75, u76, u77, u78, u79, u80, u81, u82, u83, u84, u85, u86, u87, u88, u89, u90, u91, u92, u93, u94, u95, u96, u97, u98, u99, u100, u101, u102, u103, u104, u105, u106, u107, u108, u109, u110, u111, u112, u113, u114, u115, u116, u117, u118, u119, u120, u121, u122, u123, u124, u125, u126, u127, u128, u129, u130, u131, u132, u133, u134, u135, u136, u137, u138, u139, u140, u141, u142, u143, u144, u145, u146, u147, u148, u149, u150, u151, u152, u153, u154, u155, u156, u157, u158, u159, u160, u161, u162, u163, u164, u165, u166, u167, u168, u169, u170, u171, u172, u173, u174, u175, u176, u177, u178, u179, u180, u181, u182, u183, u184, u185], []⟩ W := by
  have HA := Lib.hid (show GV w W [] [] [] [] from ⟨by simp, by simp, by simp, by simp, hW⟩)
  have HL := Lib.hid (And.intro hl (And.intro hla hlb))
  obtain ⟨s1, hs1⟩ : ∃ s, (l ++ a).length = s := ⟨_, rfl⟩
  obtain ⟨s2, hs2⟩ : ∃ s, (l ++ b).length = s := ⟨_, rfl⟩
  have hn60 : n ≤ 60 := by rw [List.length_append] at ha; omega
  have HN := Lib.hid (And.intro hn (And.intro hs1 (And.intro hs2 (show n ≤ 60 ∧ s1 ≤ 60 ∧ s2 ≤ 60 ∧ 1 ≤ n from ⟨hn60, by omega, by omega, h1⟩))))
  clear hl hla hlb hW hn h1 ha hb hs1 hs2 hn60
  conv => arg 2; whnf
  refine wp_cut 3 ?_
  intro T hT
  dsimp only [cutN]
  replace hT := Lib.hid hT
  have Gp1 := Lib.hid trivial
  go_wp2_with (first
    | (have _ := Gp1; at_builtin; refine wpList_append_lists2 rfl _ _ rfl (Below.refl _ W) (.slice none 0 0) (.slice al_ n cl) [] [] l l 0 n rfl rfl HN.out.1 rfl (World.ownsRow_nil _ _ _ _) (Each.nil _) rfl (HL.out.1.below HA.out.w) (by have := HN.out.2; omega) ?_; intro ap3 cp3 wp3 csp3 ho hE hb; have Hp3 := Lib.hid (And.intro ho (And.intro hE hb)); clear ho hE hb Gp1; have Gp2 := Lib.hid trivial)
    | (have _ := Gp2; at_builtin; refine wpList_append_lists2 rfl _ _ rfl Hp3.out.2.2 (.slice ap3 n cp3) (.slice aa na ca) csp3 l a (l ++ a) n s1 HN.out.1 rfl HN.out.2.1 rfl Hp3.out.1 Hp3.out.2.1 rfl (HL.out.2.1.below HA.out.w) (by have := HN.out.2; omega) ?_; intro ap4 cp4 wp4 csp4 ho hE hb; have Hp4 := Lib.hid (And.intro ho (And.intro hE hb)); clear ho hE hb Gp2 Hp3))
  refine (made_any (l ++ a) _ wp4 (lists_own (by rw [HN.out.2.1]; exact Hp4.out.1) Hp4.out.2.1 Hp4.out.2.2) (by rw [HN.out.2.1]; have := HN.out.2; omega)).mono ?_
  rintro e w1 ⟨hB, hc⟩
  have HA1 := Lib.hid (HA.out.below (Hp4.out.2.2.trans (hB.mono Hp4.out.2.2.size)))
  rcases hc with ⟨c, rfl, hC, -⟩ | rfl
  rotate_left
  · clear hB HA Hp4
    have Gq1 := Lib.hid trivial
    go_wp2_with (first
      | (have _ := Gq1; at_builtin; refine wpList_append_lists2 rfl _ _ rfl (Below.refl _ w1) (.slice none 0 0) (.slice al_ n cl) [] [] l l 0 n rfl rfl HN.out.1 rfl (World.ownsRow_nil _ _ _ _) (Each.nil _) rfl (HL.out.1.below HA1.out.w) (by have := HN.out.2; omega) ?_; intro aq3 cq3 wq3 csq3 ho hE hb; have Hq3 := Lib.hid (And.intro ho (And.intro hE hb)); clear ho hE hb Gq1; have Gq2 := Lib.hid trivial)
      | (have _ := Gq2; at_builtin; refine wpList_append_lists2 rfl _ _ rfl Hq3.out.2.2 (.slice aq3 n cq3) (.slice ab nb cb) csq3 l b (l ++ b) n s2 HN.out.1 rfl HN.out.2.2.1 rfl Hq3.out.1 Hq3.out.2.1 rfl (HL.out.2.2.below HA1.out.w) (by have := HN.out.2; omega) ?_; intro aq4 cq4 wq4 csq4 ho hE hb; have Hq4 := Lib.hid (And.intro ho (And.intro hE hb)); clear ho hE hb Gq2 Hq3))
    refine (made_any (l ++ b) _ wq4 (lists_own (by rw [HN.out.2.2.1]; exact Hq4.out.1) Hq4.out.2.1 Hq4.out.2.2) (by rw [HN.out.2.2.1]; have := HN.out.2; omega)).mono ?_
    rintro e w2 ⟨hB, hc⟩
    have HA2 := Lib.hid (HA1.out.below (Hq4.out.2.2.trans (hB.mono Hq4.out.2.2.size)))
    have hor : ∃ o, e = .returned (.pointer o) := by
      rcases hc with ⟨d, rfl, -⟩ | rfl
      · exact ⟨_, rfl⟩
      · exact ⟨_, rfl⟩
    obtain ⟨o, rfl⟩ := hor
    clear hc hB HA1 Hq4
    go_wp2_with fail
    refine (alive12_any _).mono ?_
    rintro e w9 ⟨rfl, hb⟩
    have HF := Lib.hid (HA2.out.below hb); clear hb
    go_wp2_with fail
    exact bodyPost_ret (results_tmp rfl _ _ _) rfl ⟨rfl, HF.out.w⟩
  · replace HA1 := Lib.hid (HA1.out.addC hC)
    obtain ⟨B1, hB1⟩ : ∃ B, B = wp4.heap.size := ⟨_, rfl⟩
    rw [← hB1] at HA1
    clear hB1 hB HA hC Hp4
    have Gq1 := Lib.hid trivial
    go_wp2_with (first
      | (have _ := Gq1; at_builtin; refine wpList_append_lists2 rfl _ _ rfl (Below.refl _ w1) (.slice none 0 0) (.slice al_ n cl) [] [] l l 0 n rfl rfl HN.out.1 rfl (World.ownsRow_nil _ _ _ _) (Each.nil _) rfl (HL.out.1.below HA1.out.w) (by have := HN.out.2; omega) ?_; intro aq3 cq3 wq3 csq3 ho hE hb; have Hq3 := Lib.hid (And.intro ho (And.intro hE hb)); clear ho hE hb Gq1; have Gq2 := Lib.hid trivial)
      | (have _ := Gq2; at_builtin; refine wpList_append_lists2 rfl _ _ rfl Hq3.out.2.2 (.slice aq3 n cq3) (.slice ab nb cb) csq3 l b (l ++ b) n s2 HN.out.1 rfl HN.out.2.2.1 rfl Hq3.out.1 Hq3.out.2.1 rfl (HL.out.2.2.below HA1.out.w) (by have := HN.out.2; omega) ?_; intro aq4 cq4 wq4 csq4 ho hE hb; have Hq4 := Lib.hid (And.intro ho (And.intro hE hb)); clear ho hE hb Gq2 Hq3))
    refine (made_any (l ++ b) _ wq4 (lists_own (by rw [HN.out.2.2.1]; exact Hq4.out.1) Hq4.out.2.1 Hq4.out.2.2) (by rw [HN.out.2.2.1]; have := HN.out.2; omega)).mono ?_
    rintro e w2 ⟨hB, hc⟩
    have HA2 := Lib.hid (HA1.out.below (Hq4.out.2.2.trans (hB.mono Hq4.out.2.2.size)))
    rcases hc with ⟨d, rfl, hC, -⟩ | rfl
    rotate_left
    · clear hB HA1 Hq4
      go_wp2_with fail
      refine (alive12_any _).mono ?_
      rintro e w9 ⟨rfl, hb⟩
      have HF := Lib.hid (HA2.out.below hb); clear hb
      go_wp2_with fail
      exact bodyPost_ret (results_tmp rfl _ _ _) rfl ⟨rfl, HF.out.w⟩
    · replace HA2 := Lib.hid (HA2.out.addC hC)
      obtain ⟨B2, hB2⟩ : ∃ B, B = wq4.heap.size := ⟨_, rfl⟩
      rw [← hB2] at HA2
      clear hB2 hB HA1 hC Hq4
      go_wp2_with fail
      refine hT.out _ _ ?_
      exact two_calls w _ l a b c d B1 B2 n cl al_ HN.out.1.symm HN.out.2.2.2.2.2.2 (by rw [HN.out.2.1]; exact HN.out.2.2.2.2.1) (by rw [HN.out.2.2.1]; exact HN.out.2.2.2.2.2.1) HA2.out
set_option maxRecDepth 100000 in
set_option maxHeartbeats 4000000 in
theorem chainsTwo_any (l a b : List (List UInt8)) (v va vb : Value) (w : World) (hv : ListsAt w v l) (hva : ListsAt w va a) (hvb : ListsAt w vb b) (hn : l.length ≤ LIM) (hs : ∀ x ∈ l, x.length ≤ LIM) (hna : a.length ≤ LIM) (hsa : ∀ x ∈ a, x.length ≤ LIM) (hnb : b.length ≤ LIM) (hsb : ∀ x ∈ b, x.length ≤ LIM) :
    Calls Try.prog 16 #[v, va, vb] w fun e w' => e = .returned (.bool true) ∧ Below w.heap.size w w' := by
  have HL := Lib.hid (And.intro hv (And.intro hva hvb))
  have HG1 := Lib.hid (great12_any l v w hv hn hs)
  have HG2 := Lib.hid (great12_any a va w hva hna hsa)
  have HG3 := Lib.hid (great12_any b vb w hvb hnb hsb)
  obtain ⟨al_, cl, rfl, c1, _, hz⟩ := hv
  clear hz
  obtain ⟨aa, ca, rfl, c2, _, hz⟩ := hva
  clear hz
  obtain ⟨ab, cb, rfl, c3, _, hz⟩ := hvb
  clear hz
  obtain ⟨R1, hR1⟩ : ∃ R, R = gr12 l := ⟨_, rfl⟩
  obtain ⟨R2, hR2⟩ : ∃ R, R = gr12 a := ⟨_, rfl⟩
  obtain ⟨R3, hR3⟩ : ∃ R, R = gr12 b := ⟨_, rfl⟩
  rw [← hR1] at HG1
  rw [← hR2] at HG2
  rw [← hR3] at HG3
  have HR := Lib.hid (And.intro hR1 (And.intro hR2 hR3))
  clear hR1 hR2 hR3 hs hsa hsb hn hna hnb
  obtain ⟨n, hn⟩ : ∃ n, l.length = n := ⟨_, rfl⟩
  obtain ⟨na, hna⟩ : ∃ n, a.length = n := ⟨_, rfl⟩
  obtain ⟨nb, hnb⟩ : ∃ n, b.length = n := ⟨_, rfl⟩
  rw [hn] at HL HG1 c1 ⊢
  rw [hna] at HL HG2 c2 ⊢
  rw [hnb] at HL HG3 c3 ⊢
  have HN := Lib.hid (And.intro hn (And.intro hna hnb))
  have HA := Lib.hid (show GV w w [] [] [] [] from ⟨by simp, by simp, by simp, by simp, Below.refl _ _⟩)
  clear hn hna hnb c1 c2 c3
  cases R1 with
  | true =>
    go_enter Try.func16, Try.ntmps16
    refine wp_cut 2 ?_
    intro T hT
    dsimp only [cutN]
    clear hT
    go_wp2_with fail
    refine HG1.out.mono ?_
    rintro e w1 ⟨rfl, rfl⟩
    go_wp2_with fail
    refine (alive12_any _).mono ?_
    rintro e w9 ⟨rfl, hb⟩
    have HF := Lib.hid (HA.out.below hb); clear hb
    go_wp2_with fail
    exact bodyPost_ret (results_tmp rfl _ _ _) rfl ⟨rfl, HF.out.w⟩
  | false =>
  cases R2 with
  | true =>
    go_enter Try.func16, Try.ntmps16
    refine wp_cut 2 ?_
    intro T hT
    dsimp only [cutN]
    clear hT
    go_wp2_with fail
    refine HG1.out.mono ?_
    rintro e w1 ⟨rfl, rfl⟩
    go_wp2_with fail
    refine HG2.out.mono ?_
    rintro e w1 ⟨rfl, rfl⟩
    go_wp2_with fail
    refine (alive12_any _).mono ?_
    rintro e w9 ⟨rfl, hb⟩
    have HF := Lib.hid (HA.out.below hb); clear hb
    go_wp2_with fail
    exact bodyPost_ret (results_tmp rfl _ _ _) rfl ⟨rfl, HF.out.w⟩
  | false =>
  cases R3 with
  | true =>
    go_enter Try.func16, Try.ntmps16
    refine wp_cut 2 ?_
    intro T hT
    dsimp only [cutN]
    clear hT
    go_wp2_with fail
    refine HG1.out.mono ?_
    rintro e w1 ⟨rfl, rfl⟩
    go_wp2_with fail
    refine HG2.out.mono ?_
    rintro e w1 ⟨rfl, rfl⟩
    go_wp2_with fail
    refine HG3.out.mono ?_
    rintro e w1 ⟨rfl, rfl⟩
    go_wp2_with fail
    refine (alive12_any _).mono ?_
    rintro e w9 ⟨rfl, hb⟩
    have HF := Lib.hid (HA.out.below hb); clear hb
    go_wp2_with fail
    exact bodyPost_ret (results_tmp rfl _ _ _) rfl ⟨rfl, HF.out.w⟩
  | false =>
    have g1 := (gr12_le HR.out.1.symm).1
    have g2 := (gr12_le HR.out.2.1.symm).1
    have g3 := (gr12_le HR.out.2.2.symm).1
    rw [HN.out.1] at g1
    rw [HN.out.2.1] at g2
    rw [HN.out.2.2] at g3
    by_cases h0 : n = 0
    · subst h0
      have hz : (((0 : Nat) : Int) == 0) = true := rfl
      go_enter Try.func16, Try.ntmps16
      refine wp_cut 2 ?_
      intro T hT
      dsimp only [cutN]
      clear hT
      go_wp2_with fail
      refine HG1.out.mono ?_
      rintro e w1 ⟨rfl, rfl⟩
      go_wp2_with fail
      refine HG2.out.mono ?_
      rintro e w1 ⟨rfl, rfl⟩
      go_wp2_with fail
      refine HG3.out.mono ?_
      rintro e w1 ⟨rfl, rfl⟩
      go_wp2_with fail
      refine (alive12_any _).mono ?_
      rintro e w9 ⟨rfl, hb⟩
      have HF := Lib.hid (HA.out.below hb); clear hb
      go_wp2_with fail
      exact bodyPost_ret (results_tmp rfl _ _ _) rfl ⟨rfl, HF.out.w⟩
    · have hz : ((n : Int) == 0) = false := by rw [beq_eq_false_iff_ne]; omega
      have i1 : (n : Int) ≤ 60 := by omega
      have i2 : (na : Int) ≤ 60 := by omega
      have i3 : (nb : Int) ≤ 60 := by omega
      have i4 : (1 : Int) ≤ (n : Int) := by omega
      by_cases h6 : 60 < n + na + nb
      · have h6' : (60 : Int) < (n : Int) + (na : Int) + (nb : Int) := by omega
        clear h6 h0 g1 g2 g3
        go_enter Try.func16, Try.ntmps16
        refine wp_cut 2 ?_
        intro T hT
        dsimp only [cutN]
        clear hT
        go_wp2_with fail
        refine HG1.out.mono ?_
        rintro e w1 ⟨rfl, rfl⟩
        go_wp2_with fail
        refine HG2.out.mono ?_
        rintro e w1 ⟨rfl, rfl⟩
        go_wp2_with fail
        refine HG3.out.mono ?_
        rintro e w1 ⟨rfl, rfl⟩
        go_wp2_with fail
        refine (alive12_any _).mono ?_
        rintro e w9 ⟨rfl, hb⟩
        have HF := Lib.hid (HA.out.below hb); clear hb
        go_wp2_with fail
        exact bodyPost_ret (results_tmp rfl _ _ _) rfl ⟨rfl, HF.out.w⟩
      · have h6' : ¬ (60 : Int) < (n : Int) + (na : Int) + (nb : Int) := by omega
        have HK := Lib.hid (show 1 ≤ n ∧ n + na ≤ 60 ∧ n + nb ≤ 60 from ⟨by omega, by omega, by omega⟩)
        clear h6 h0 g1 g2 g3
        go_enter Try.func16, Try.ntmps16
        refine wp_cut 2 ?_
        intro T hT
        dsimp only [cutN]
        replace hT := Lib.hid hT
        go_wp2_with fail
        refine HG1.out.mono ?_
        rintro e w1 ⟨rfl, rfl⟩
        go_wp2_with fail
        refine HG2.out.mono ?_
        rintro e w1 ⟨rfl, rfl⟩
        go_wp2_with fail
        refine HG3.out.mono ?_
        rintro e w1 ⟨rfl, rfl⟩
        go_wp2_with fail
        refine hT.out _ _ ?_
        exact two_mid w w l a b n na nb cl ca cb al_ aa ab HL.out.1 HL.out.2.1 HL.out.2.2 (Below.refl _ _) HN.out.1 HK.out.1 (by rw [List.length_append, HN.out.1, HN.out.2.1]; exact HK.out.2.1) (by rw [List.length_append, HN.out.1, HN.out.2.2]; exact HK.out.2.2)
end Go.Proofs.Ytdkcndgehgmadaa
