/-
  Merged: K11.
-/
import Derived.Test.YtdkcndgehgmadaaZK3
import Derived.Test.YtdkcndgehgmadaaZP
import Derived.Test.YtdkcndgehgmadaaG10
-- Walks: almonerlaw12.ChainsProved.
open Go Go.RowKit Alm
namespace Go.Proofs.Ytdkcndgehgmadaa
theorem wrapN (z k : Nat) (hk : 0 < k) (h : k < 1000) : IntKind.u64.wrap (1 + (z : Int) % (k : Int)) = ((1 + z % k : Nat) : Int) := by
  have := Nat.mod_lt z hk
  rw [IntKind.wrap_u64, ← Int.natCast_emod]; omega
noncomputable def provCode : Code := (Try.f21.body).getD .skip
theorem pathBe_path12 (l : List Sum) (k : Nat) (x : Sum) (h : l[k]? = some x) : pathBe x k l.length (path nd e0 l k) (rt l) = true := by
  have hk : k < l.length := (List.getElem?_eq_some_iff.1 h).1
  have := leads_path nd e0 l k x h []
  rw [List.append_nil] at this
  unfold pathBe
  rw [this, rt_eq]
  simp [hk]
theorem letBe_link12 (l : List Sum) (m : Nat) (h1 : 1 ≤ m) (h2 : m ≤ l.length) : letBe m l.length (rt (l.take m)) (rt l) (link nd e0 l m true) = true := by
  unfold letBe
  have := leads2_link nd e0 l m true (rt (l.take m)) h1 h2 (fun _ => by rw [rt_eq]) []
  rw [List.append_nil] at this
  rw [this, rt_eq]
  simp [h1, h2]
set_option maxRecDepth 100000 in
set_option maxHeartbeats 4000000 in
theorem prov_end {u1 u2 u3 u4 u5 u17 u18 u19 u20 u21 u22 u23 u24 u25 u26 u27 u28 u29 u30 u31 u32 u33 u34 u35 u36 u37 u38 u39 u40 u41 u42 u43 u44 u45 u46 u47 u48 u49 u50 u51 u52 u53 u54 u55 u56 u57 u58 u59 u60 u61 u62 u63 u64 u65 u66 u67 u68 u69 u70 u71 u72 u73 u74 u75 u76 u77 u78 u79 u80 u81 u82 u83 u84 u85 u86 u87 u88 u89 u90 u91 u92 u93 u94 u95 u96 u97 u98 u99 u100 u101 u102 u103 u104 u105 u106 u107 u108 u109 u110 u111 : Value} (w W : World) (sr so : Sum) (sp sq : List Sum) (x : List UInt8) (u : Value) (zr zo n1 n2 c1 c2 bl ol n ca k p m : Nat) (a1 a2 : Option Addr)
    (h : GV w W [] [(⟨bl, ol + p, none⟩, u)] [(zo, so), (zr, sr)] [(.slice a2 n2 c2, sq), (.slice a1 n1 c1, sp)]) (hu : BytesAt W u x) (hx : x.length ≤ 40000)
    (hp : p < k) (hk : k ≤ 60) (hm1 : 1 ≤ m) (hmk : m ≤ k) (hkn : k ≤ n) (hpb : pathBe (lf x) p k sp sr = true) (hlb : letBe m k so sr sq = true) :
    Code.wp Try.prog (dropN 11 provCode) (bodyPost Try.prog Try.f21 fun e w' => e = .returned (.bool true) ∧ Below w.heap.size w w') ⟨#[.slice (some ⟨bl, ol, none⟩) n ca, u1, u2, u3, u4, u5, .int .u64 (k : Int), .int .u64 (p : Int), .int .u64 (m : Int), .pointer (some ⟨zr, 0, none⟩), .int .i64 0, .pointer (some ⟨zo, 0, none⟩), .int .i64 0, .slice a1 n1 c1, .int .i64 0, .slice a2 n2 c2, .int .i64 0, u17, u18, u19, u20, u21, u22, u23, u24, u25, u26, u27, u28, u29, u30, u31, u32, u33, u34, u35, u36, u37, u38, u39, u40, u41, u42, u43, u44, u45, u46, u47, u48, u49, u50, u51, u52, u53, u54, u55, u56, u57, u58, u59, u60, u61, u62, u63, u64, u65, u66, u67, u68, u69, u70, u71, u72, u73, u74, u75, u76, u77, u78, u79, u80, u81, u82, u83, u84, u85, u86, u87, u88, u89, u90, u91, u92, u93, u94, u95, u96, u97, u98, u99, u100, u101, u102, u103, u104, u105, u106, u107, u108, u109, u110, u111], []⟩ W := by
  have HA := Lib.hid h
  have HU := Lib.hid (And.intro hu hx)
  have HK := Lib.hid (And.intro hp (And.intro hk (And.intro hm1 hmk)))
  have HB := Lib.hid (And.intro hpb hlb)
  have p0 : (0 : Int) ≤ (p : Int) := by omega
  have p1 : (p : Int) < (n : Int) := by omega
  clear h hu hx hp hk hm1 hmk hkn hpb hlb
  conv => arg 2; whnf
  go_wp2_with fail
  refine wp_region_sched (fun V => Below W.heap.size W V) [.e 0 true, .t 1, .t 2, .t 3, .t 4, .t 5, .t 6, .t 7, .t 8, .t 9, .t 10, .t 11, .t 12, .t 13, .t 14, .t 15, .t 16, .t 17, .t 18, .t 19, .t 20, .t 23, .t 24, .t 25, .s 21, .s 26, .e 22 true, .e 27 true, .t 28, .t 29, .t 30, .t 31, .t 34, .s 32, .s 33, .e 35 true, .t 36, .t 37] (by kernel_rfl) (by kernel_rfl) (by intro c a d v w h; cases d <;> exact h) ?_
  have HS := Lib.hid (Below.refl W.heap.size W).drew
  generalize W.drew = V at *
  refine wpS_k rfl (by rfl) (fun K hK => ?_)
  go_simp
  refine (alive12_any V).mono ?_
  rintro e V1 ⟨rfl, hb⟩
  have HS1 := Lib.hid (HS.out.trans (hb.mono HS.out.size))
  clear hb HS
  refine hK _ _ ⟨by exact HS1.out, ?_⟩; clear hK K
  try simp only [Act.put, List.setIfInBounds_toArray, List.set_cons_zero, List.set_cons_succ]
  iterate 23
    refine wpS_t rfl (v := ?_) (by rfl) (fun W => ?_) ?_
    rotate_left
    · go_simp
      try rfl
    try simp only [Act.put, List.setIfInBounds_toArray, List.set_cons_zero, List.set_cons_succ]
  refine wpS_s (by exact HS1.out) rfl (v := u) (by rfl) (fun V2 hV => ?_) ?_
  · have g := (HA.out.below hV).g (⟨bl, ol + p, none⟩, u) (by simp)
    go_simp
  try simp only [Act.put, List.setIfInBounds_toArray, List.set_cons_zero, List.set_cons_succ]
  refine wpS_load_sum (by exact HS1.out) rfl (by rfl) _ (by rfl) zr 0 (by rfl) sr (fun W hW => (HA.out.below hW).r (zr, sr) (by simp)) ?_
  try simp only [Act.put, List.setIfInBounds_toArray, List.set_cons_zero, List.set_cons_succ]
  have HLF := Lib.hid (lf_any x u V1 (bytes_below HU.out.1 HS1.out (Nat.le_refl _)) (by have := HU.out.2; omega))
  obtain ⟨y, hy⟩ : ∃ y, y = lf x := ⟨_, rfl⟩
  have hpb := HB.out.1
  rw [← hy] at HLF hpb
  have HPB := Lib.hid hpb
  clear hy hpb
  refine wpS_k rfl (by rfl) (fun K hK => ?_)
  go_simp
  refine HLF.out.mono ?_
  rintro e V2 ⟨rfl, hb⟩
  have HS2 := Lib.hid (HS1.out.trans (hb.mono HS1.out.size))
  clear hb HS1 HLF
  refine hK _ _ ⟨by exact HS2.out, ?_⟩; clear hK K
  try simp only [Act.put, List.setIfInBounds_toArray, List.set_cons_zero, List.set_cons_succ]
  refine wpS_k rfl (by rfl) (fun K hK => ?_)
  go_simp
  refine (pcheck_in y p k _ sp sr V2 ((HA.out.below HS2.out).s (.slice a1 n1 c1, sp) (by simp)) HK.out.1 (by have := HK.out.2.1; omega)).mono ?_
  rw [HPB.out]
  rintro e V3 ⟨rfl, hb⟩
  have HS3 := Lib.hid (HS2.out.trans (hb.mono HS2.out.size))
  clear hb HS2
  refine hK _ _ ⟨by exact HS3.out, ?_⟩; clear hK K
  try simp only [Act.put, List.setIfInBounds_toArray, List.set_cons_zero, List.set_cons_succ]
  iterate 5
    refine wpS_t rfl (v := ?_) (by rfl) (fun W => ?_) ?_
    rotate_left
    · go_simp
      try rfl
    try simp only [Act.put, List.setIfInBounds_toArray, List.set_cons_zero, List.set_cons_succ]
  refine wpS_load_sum (by exact HS3.out) rfl (by rfl) _ (by rfl) zo 0 (by rfl) so (fun W hW => (HA.out.below hW).r (zo, so) (by simp)) ?_
  try simp only [Act.put, List.setIfInBounds_toArray, List.set_cons_zero, List.set_cons_succ]
  refine wpS_load_sum (by exact HS3.out) rfl (by rfl) _ (by rfl) zr 0 (by rfl) sr (fun W hW => (HA.out.below hW).r (zr, sr) (by simp)) ?_
  try simp only [Act.put, List.setIfInBounds_toArray, List.set_cons_zero, List.set_cons_succ]
  refine wpS_k rfl (by rfl) (fun K hK => ?_)
  go_simp
  refine (check_in m k so sr _ sq V3 ((HA.out.below HS3.out).s (.slice a2 n2 c2, sq) (by simp)) HK.out.2.2.1 HK.out.2.2.2 (.inr (by have := HK.out.2.1; omega))).mono ?_
  rw [HB.out.2]
  rintro e V4 ⟨rfl, hb⟩
  have HS4 := Lib.hid (HS3.out.trans (hb.mono HS3.out.size))
  clear hb HS3
  refine hK _ _ ⟨by exact HS4.out, ?_⟩; clear hK K
  try simp only [Act.put, List.setIfInBounds_toArray, List.set_cons_zero, List.set_cons_succ]
  iterate 2
    refine wpS_t rfl (v := ?_) (by rfl) (fun W => ?_) ?_
    rotate_left
    · go_simp
      try rfl
    try simp only [Act.put, List.setIfInBounds_toArray, List.set_cons_zero, List.set_cons_succ]
  refine wpS_done ?_
  go_wp2_with fail
  exact bodyPost_ret (results_tmp rfl _ _ _) rfl ⟨rfl, (HA.out.below HS4.out).w⟩
set_option maxRecDepth 100000 in
set_option maxHeartbeats 4000000 in
theorem prov_mid {u1 u2 u4 u7 u8 u9 u10 u11 u12 u13 u14 u15 u16 u17 u18 u19 u20 u21 u22 u23 u24 u25 u26 u27 u28 u29 u30 u31 u32 u33 u34 u35 u36 u37 u38 u39 u40 u41 u42 u43 u44 u45 u46 u47 u48 u49 u50 u51 u52 u53 u54 u55 u56 u57 u58 u59 u60 u61 u62 u63 u64 u65 u66 u67 u68 u69 u70 u71 u72 u73 u74 u75 u76 u77 u78 u79 u80 u81 u82 u83 u84 u85 u86 u87 u88 u89 u90 u91 u92 u93 u94 u95 u96 u97 u98 u99 u100 u101 u102 u103 u104 u105 u106 u107 u108 u109 u110 u111 : Value} (w W : World) (l : List (List UInt8)) (c B1 Z bl ol n ca k z1 z2 : Nat) (hn : n = l.length) (n60 : n ≤ 60) (hk1 : 1 ≤ k) (hkn : k ≤ n) (h1 : z1 ≤ 255) (h2 : z2 ≤ 255)
    (hl : ListsAt w (.slice (some ⟨bl, ol, none⟩) n ca) l) (hs : ∀ x ∈ l, x.length ≤ 40000)
    (h : GV w W [(B1, c, l)] [(⟨Z, 1, none⟩, .int .u8 (z1 : Int)), (⟨Z, 2, none⟩, .int .u8 (z2 : Int))] [] []) :
    Code.wp Try.prog (dropN 5 provCode) (bodyPost Try.prog Try.f21 fun e w' => e = .returned (.bool true) ∧ Below w.heap.size w w') ⟨#[.slice (some ⟨bl, ol, none⟩) n ca, u1, u2, .pointer (some ⟨Z, 0, none⟩), u4, .pointer (some ⟨c, 0, none⟩), .int .u64 (k : Int), u7, u8, u9, u10, u11, u12, u13, u14, u15, u16, u17, u18, u19, u20, u21, u22, u23, u24, u25, u26, u27, u28, u29, u30, u31, u32, u33, u34, u35, u36, u37, u38, u39, u40, u41, u42, u43, u44, u45, u46, u47, u48, u49, u50, u51, u52, u53, u54, u55, u56, u57, u58, u59, u60, u61, u62, u63, u64, u65, u66, u67, u68, u69, u70, u71, u72, u73, u74, u75, u76, u77, u78, u79, u80, u81, u82, u83, u84, u85, u86, u87, u88, u89, u90, u91, u92, u93, u94, u95, u96, u97, u98, u99, u100, u101, u102, u103, u104, u105, u106, u107, u108, u109, u110, u111], []⟩ W := by
  obtain ⟨p, hp⟩ : ∃ p, p = z1 % k := ⟨_, rfl⟩
  have hpk : p < k := by rw [hp]; exact Nat.mod_lt _ hk1
  obtain ⟨m, hm⟩ : ∃ m, m = 1 + z2 % k := ⟨_, rfl⟩
  have hm1 : 1 ≤ m := by omega
  have hmk : m ≤ k := by have := Nat.mod_lt z2 hk1; omega
  have hwm := wrapN z2 k hk1 (by omega)
  rw [← hm] at hwm
  have HWK := Lib.hid (And.intro (show (z1 : Int) % (k : Int) = (p : Int) from by rw [← Int.natCast_emod, hp]) hwm)
  clear hwm hp hm
  have hpl : p < l.length := by omega
  have hkl : k ≤ l.length := by omega
  obtain ⟨u, hc, hu⟩ := hl.cell (sp := none) hpl
  have hx : l[p].length ≤ 40000 := hs _ (List.getElem_mem hpl)
  have hlk : ((l.take k).map lf).length = k := by rw [List.length_map, List.length_take]; omega
  have hpb : pathBe (lf l[p]) p k (path nd e0 ((l.take k).map lf) p) (rt ((l.take k).map lf)) = true := by
    have := pathBe_path12 ((l.take k).map lf) p (lf l[p]) (by rw [List.getElem?_map, List.getElem?_take_of_lt hpk, List.getElem?_eq_getElem hpl]; rfl)
    rw [hlk] at this
    exact this
  have hlb : letBe m k (rt ((l.take m).map lf)) (rt ((l.take k).map lf)) (link nd e0 ((l.take k).map lf) m true) = true := by
    have := letBe_link12 ((l.take k).map lf) m hm1 (by rw [hlk]; exact hmk)
    rw [hlk, ← List.map_take, List.take_take, Nat.min_eq_left hmk] at this
    exact this
  have hmc := fun W (h : ChainAt B1 W c l) => croot_at B1 W c l h k hkl
  have hrc := fun W (h : ChainAt B1 W c l) => croot_at B1 W c l h m (Nat.le_trans hmk hkl)
  have hpc := fun W (h : ChainAt B1 W c l) => cpath_told B1 W c l h k hkl p hpk (by omega)
  have hlc := fun W (h : ChainAt B1 W c l) => clink_told B1 W c l h k hkl m hmk hm1 (by omega)
  generalize rt ((l.take k).map lf) = sr at hmc hpb hlb
  generalize rt ((l.take m).map lf) = so at hrc hlb
  generalize path nd e0 ((l.take k).map lf) p = sp at hpc hpb
  generalize link nd e0 ((l.take k).map lf) m true = sq at hlc hlb
  generalize l[p] = x at *
  have HMC := Lib.hid (And.intro hmc (And.intro hrc (And.intro hpc hlc)))
  have HPB := Lib.hid (And.intro hpb (And.intro hlb (And.intro hx (And.intro hu hc))))
  have HK := Lib.hid (And.intro hpk (And.intro hm1 (And.intro hmk (And.intro hkn n60))))
  have HA := Lib.hid h
  have g1 := h.g (⟨Z, 1, none⟩, .int .u8 (z1 : Int)) (by simp)
  have g2 := h.g (⟨Z, 2, none⟩, .int .u8 (z2 : Int)) (by simp)
  have k0 : (1 : Int) ≤ (k : Int) := by omega
  have k4 : (k : Int) ≤ 60 := by omega
  have y0 : (0 : Int) ≤ (z1 : Int) := by omega
  have y1 : (z1 : Int) ≤ 255 := by omega
  have y2 : (0 : Int) ≤ (z2 : Int) := by omega
  have y3 : (z2 : Int) ≤ 255 := by omega
  clear hmc hrc hpc hlc hpb hlb hx hu hc hlk hkl hpl hpk hm1 hmk hk1 hkn h1 h2 hl hs hn n60 h
  conv => arg 2; whnf
  refine wp_cut 6 ?_
  intro T hT
  dsimp only [cutN]
  replace hT := Lib.hid hT
  go_wp2_with fail
  rw [HWK.out.1, HWK.out.2]
  clear g1 g2
  refine (HMC.out.1 _ (HA.out.c (B1, c, l) (by simp))).mono ?_
  rintro e w3 ⟨rfl, hb⟩
  have HA3 := Lib.hid (HA.out.below hb)
  clear hb HA
  have HG := Lib.hid trivial
  go_wp2_with (have _ := HG; refine wpList_var_sum (by rfl) rfl _ _ rfl sr rfl rfl ?_; intro w3v hb hr _ _; obtain ⟨zr, hz⟩ : ∃ x, x = w3.heap.size := ⟨_, rfl⟩; rw [← hz] at hr ⊢; have HA3v := Lib.hid ((HA3.out.below hb).addR hr); clear HG hb hr hz HA3)
  refine (HMC.out.2.1 _ (HA3v.out.c (B1, c, l) (by simp))).mono ?_
  rintro e w4 ⟨rfl, hb⟩
  have HA4 := Lib.hid (HA3v.out.below hb)
  clear hb HA3v
  have HG := Lib.hid trivial
  go_wp2_with (have _ := HG; refine wpList_var_sum (by rfl) rfl _ _ rfl so rfl rfl ?_; intro w4v hb hr _ _; obtain ⟨zo, hz⟩ : ∃ x, x = w4.heap.size := ⟨_, rfl⟩; rw [← hz] at hr ⊢; have HA4v := Lib.hid ((HA4.out.below hb).addR hr); clear HG hb hr hz HA4)
  refine (HMC.out.2.2.1 _ (HA4v.out.c (B1, c, l) (by simp))).mono ?_
  rintro e w5 ⟨vp, rfl, hs, hb⟩
  obtain ⟨vpa, vpc, rfl, _, _, _⟩ := hs.sums
  have HA5 := Lib.hid ((HA4v.out.below hb).addS hs.sums)
  clear hb hs HA4v
  go_wp2_with fail
  refine (HMC.out.2.2.2 _ (HA5.out.c (B1, c, l) (by simp))).mono ?_
  rintro e w6 ⟨vq, rfl, hs, hb⟩
  obtain ⟨vqa, vqc, rfl, _, _, _⟩ := hs.sums
  have HA6 := Lib.hid ((HA5.out.below hb).addS hs.sums)
  clear hb hs HA5
  go_wp2_with fail
  refine hT.out _ _ ?_
  refine prov_end w _ sr so sp sq x u zr zo sp.length sq.length _ _ bl ol n ca k p m _ _ ?_ ?_ HPB.out.2.2.1 HK.out.1 (by have := HK.out.2.2.2; omega) HK.out.2.1 HK.out.2.2.1 HK.out.2.2.2.1 HPB.out.1 HPB.out.2.1
  · exact ⟨by simp, fun q hq => by rw [List.mem_singleton.1 hq]; exact bc HPB.out.2.2.2.2 HA6.out.w, HA6.out.r, HA6.out.s, HA6.out.w⟩
  · exact bytes_below HPB.out.2.2.2.1 HA6.out.w (Nat.le_refl _)
set_option maxRecDepth 100000 in
set_option maxHeartbeats 4000000 in
theorem chainsProved_any (l : List (List UInt8)) (v : Value) (z0 z1 z2 : Nat) (w : World) (hv : ListsAt w v l) (hz0 : z0 ≤ 255) (hz1 : z1 ≤ 255) (hz2 : z2 ≤ 255) (hn : l.length ≤ LIM) (hs : ∀ x ∈ l, x.length ≤ LIM) : Calls Try.prog 21 #[v, .agg #[.int .u8 (z0 : Int), .int .u8 (z1 : Int), .int .u8 (z2 : Int)]] w fun e w' => e = .returned (.bool true) ∧ Below w.heap.size w w' := by
  have HV := Lib.hid hv
  have HGR := Lib.hid (fun W (h : ListsAt W v l) => great12_any l v W h hn hs)
  obtain ⟨aa, ca, rfl, a1, a2, a3⟩ := hv
  clear a3
  obtain ⟨R, hR⟩ : ∃ R, R = gr12 l := ⟨_, rfl⟩
  rw [← hR] at HGR
  have HR := Lib.hid hR
  clear hR hs
  obtain ⟨n, hna⟩ : ∃ n, n = l.length := ⟨_, rfl⟩
  rw [← hna] at HV HGR a1 hn ⊢
  have HN := Lib.hid hna
  clear hna
  have hb0 := al (Below.refl _ w) (.cells #[.int .u8 (z0 : Int), .int .u8 (z1 : Int), .int .u8 (z2 : Int)] 87)
  have hr0 := range_new w #[.int .u8 (z0 : Int), .int .u8 (z1 : Int), .int .u8 (z2 : Int)] 87 _ rfl
  have HA0 := Lib.hid (show GV w (w.alloc (.cells #[.int .u8 (z0 : Int), .int .u8 (z1 : Int), .int .u8 (z2 : Int)] 87)) [] [(⟨w.heap.size, 0, none⟩, .int .u8 (z0 : Int)), (⟨w.heap.size, 1, none⟩, .int .u8 (z1 : Int)), (⟨w.heap.size, 2, none⟩, .int .u8 (z2 : Int))] [] [] from ⟨by simp, fun p hp => by simp only [List.mem_cons, List.not_mem_nil, or_false] at hp; rcases hp with rfl | rfl | rfl; exact hr0 0 _ rfl; exact hr0 1 _ rfl; exact hr0 2 _ rfl, by simp, by simp, hb0⟩)
  clear hb0 hr0
  obtain ⟨Z, hZ⟩ : ∃ Z, Z = w.heap.size := ⟨_, rfl⟩
  have hHA := HA0.out
  rw [← hZ] at hHA
  have HA := Lib.hid hHA
  clear hHA HA0
  by_cases hbig : R = true ∨ n = 0
  · have HBIG := Lib.hid hbig
    clear hbig
    go_enter Try.func21, Try.ntmps21
    go_wp2_with fail
    rw [← hZ]
    clear hZ
    generalize w.alloc (.cells #[.int .u8 (z0 : Int), .int .u8 (z1 : Int), .int .u8 (z2 : Int)] 87) = W0 at *
    refine (HGR.out _ (HV.out.below HA.out.w)).mono ?_
    rintro e w1 ⟨rfl, rfl⟩
    have key : ∀ {R : Bool} {n : Nat}, R = true ∨ n = 0 → R = true ∨ (R = false ∧ ((n : Int) == 0) = true) := by
      intro R n h
      cases R
      · rcases h with h | h
        · cases h
        · exact .inr ⟨rfl, by rw [h]; rfl⟩
      · exact .inl rfl
    rcases key HBIG.out with rfl | ⟨rfl, hn0⟩
    · clear key
      go_wp2_with fail
      refine (alive12_any _).mono ?_
      rintro e w2 ⟨rfl, hb⟩
      have HF := Lib.hid (HA.out.below hb); clear hb
      go_wp2_with fail
      exact bodyPost_ret (results_tmp rfl _ _ _) rfl ⟨rfl, HF.out.w⟩
    · clear key
      go_wp2_with fail
      refine (alive12_any _).mono ?_
      rintro e w2 ⟨rfl, hb⟩
      have HF := Lib.hid (HA.out.below hb); clear hb
      go_wp2_with fail
      exact bodyPost_ret (results_tmp rfl _ _ _) rfl ⟨rfl, HF.out.w⟩
  · have hRf : R = false := by cases R <;> simp_all
    have hn0 : 0 < n := Nat.pos_of_ne_zero (fun h => hbig (.inr h))
    subst hRf
    clear hbig
    have hsm := gr12_le HR.out.symm
    have n60 : n ≤ 60 := by rw [HN.out]; exact hsm.1
    have HSM := Lib.hid hsm.2
    have n60' : (n : Int) ≤ 60 := by omega
    clear hsm hn HR
    have hnz : ((n : Int) == 0) = false := by rw [beq_eq_false_iff_ne]; omega
    have hwk := wrapM z0 n hn0 (Nat.lt_of_le_of_lt n60 (by decide))
    obtain ⟨k, hk⟩ : ∃ k, k = 1 + z0 % n := ⟨_, rfl⟩
    rw [← hk] at hwk
    have hk1 : 1 ≤ k := by rw [hk]; exact Nat.le_add_right _ _
    have hkn : k ≤ n := by rw [hk]; exact (Nat.add_comm 1 _ ▸ Nat.mod_lt z0 hn0)
    have HWK := Lib.hid hwk
    clear hwk hk
    have HK := Lib.hid (And.intro hk1 (And.intro hkn (And.intro n60 (And.intro hz1 hz2))))
    have k0 : (1 : Int) ≤ (k : Int) := by omega
    have k4 : (k : Int) ≤ 60 := by omega
    have z00 : (0 : Int) ≤ (z0 : Int) := by omega
    have z01 : (z0 : Int) ≤ 255 := by omega
    have n0 : (1 : Int) ≤ (n : Int) := by omega
    clear hk1 hkn hz0 hz1 hz2 hn0 n60
    unfold maxLen at a2
    have h0 : l ≠ [] := by intro h; have := HN.out; rw [h] at this; simp at this; omega
    obtain ⟨bl, ol, c9, he1, _, _⟩ := HV.out.form h0
    simp only [Value.slice.injEq] at he1
    obtain ⟨rfl, h9, rfl⟩ := he1
    clear h9 h0
    go_enter Try.func21, Try.ntmps21
    refine wp_cut 5 ?_
    intro T hT
    dsimp only [cutN]
    replace hT := Lib.hid hT
    go_wp2_with fail
    rw [← hZ]
    clear hZ
    generalize w.alloc (.cells #[.int .u8 (z0 : Int), .int .u8 (z1 : Int), .int .u8 (z2 : Int)] 87) = W0 at *
    refine (HGR.out _ (HV.out.below HA.out.w)).mono ?_
    rintro e w1 ⟨rfl, rfl⟩
    clear HGR
    go_wp2_with fail
    refine (made_any l _ W0 (by have := HV.out.below HA.out.w; rw [HN.out] at this ⊢; exact this) (by have := HN.out; have := HK.out.2.2.1; omega)).mono ?_
    rintro e w1 ⟨hB, hc⟩
    have HA1 := Lib.hid (HA.out.below hB)
    rcases hc with ⟨c, rfl, hC, -⟩ | rfl
    rotate_left
    · clear hB HA
      go_wp2_with fail
      refine (alive12_any _).mono ?_
      rintro e w3 ⟨rfl, hb⟩
      have HF := Lib.hid (HA1.out.below hb); clear hb
      go_wp2_with fail
      exact bodyPost_ret (results_tmp rfl _ _ _) rfl ⟨rfl, HF.out.w⟩
    · replace HA1 := Lib.hid (HA1.out.addC hC)
      clear hB HA hC
      obtain ⟨B1, hB1⟩ : ∃ B, B = W0.heap.size := ⟨_, rfl⟩
      rw [← hB1] at HA1
      clear hB1
      have g0 := HA1.out.g (⟨Z, 0, none⟩, .int .u8 (z0 : Int)) (by simp)
      go_wp2_with fail
      rw [HWK.out, wrapU k (by have := HK.out.2.1; have := HK.out.2.2.1; omega)]
      clear g0
      refine hT.out _ _ ?_
      exact prov_mid w _ l c B1 Z bl ol n ca k z1 z2 HN.out HK.out.2.2.1 HK.out.1 HK.out.2.1 HK.out.2.2.2.1 HK.out.2.2.2.2 HV.out HSM.out ⟨HA1.out.c, fun p hp => HA1.out.g p (List.mem_cons_of_mem _ hp), HA1.out.r, HA1.out.s, HA1.out.w⟩
end Go.Proofs.Ytdkcndgehgmadaa
