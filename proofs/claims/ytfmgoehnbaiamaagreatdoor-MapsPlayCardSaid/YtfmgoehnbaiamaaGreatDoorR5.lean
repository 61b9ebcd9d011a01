/-
  Walks: the document's sum: a block taken: the times, and the end.
-/
import Derived.Test.YtfmgoehnbaiamaaGreatDoorZAW
open Go Go.RowKit Alm
namespace Go.Proofs.YtfmgoehnbaiamaaGreatDoor
theorem uv_notx (x : UInt32) : bits .xor .u32 4294967295 (uv x) = uv (~~~x) := by
  have h := uv_xor 4294967295 x
  rw [show uv 4294967295 = 4294967295 from rfl] at h
  rw [h]
  congr 1
theorem build_eight (x0 x1 x2 x3 x4 x5 x6 x7 : UInt32) : ∀ w, (Instr.build 201 #[(0, .int .u32 (uv x0)), (1, .int .u32 (uv x1)), (2, .int .u32 (uv x2)), (3, .int .u32 (uv x3)), (4, .int .u32 (uv x4)), (5, .int .u32 (uv x5)), (6, .int .u32 (uv x6)), (7, .int .u32 (uv x7))]).run Tryz.prog w = .ok (.agg (cells32 [x0, x1, x2, x3, x4, x5, x6, x7]).toArray) w := by
  intro w; kernel_rfl
theorem wpList_build_eight {ops : Array Oper} {rest : List Oper} {op : Oper} {a : Act} {w : World} {Q : Exit → Act → World → Prop} (hgd : op.guard = none) (parts : Array (Nat × Operand)) (ho : op.op = .build 201 parts)
    (x0 x1 x2 x3 x4 x5 x6 x7 : UInt32) (hp : (parts.toList.map fun (i, x) => (i, a.eval x)) = [(0, Value.int .u32 (uv x0)), (1, Value.int .u32 (uv x1)), (2, Value.int .u32 (uv x2)), (3, Value.int .u32 (uv x3)), (4, Value.int .u32 (uv x4)), (5, Value.int .u32 (uv x5)), (6, Value.int .u32 (uv x6)), (7, Value.int .u32 (uv x7))])
    (h : wpList Tryz.prog ops Q rest (a.put op.dst (.agg (cells32 [x0, x1, x2, x3, x4, x5, x6, x7]).toArray)) w) : wpList Tryz.prog ops Q (op :: rest) a w :=
  wpList_build_by hgd 201 parts ho _ (fun W => by
    have : (parts.map fun (i, x) => (i, a.eval x)) = #[(0, Value.int .u32 (uv x0)), (1, Value.int .u32 (uv x1)), (2, Value.int .u32 (uv x2)), (3, Value.int .u32 (uv x3)), (4, Value.int .u32 (uv x4)), (5, Value.int .u32 (uv x5)), (6, Value.int .u32 (uv x6)), (7, Value.int .u32 (uv x7))] := by
      apply Array.toList_inj.1
      rw [Array.toList_map]; exact hp
    rw [this]
    exact build_eight _ _ _ _ _ _ _ _ W) h
theorem all_cells32 (l : List UInt32) : (cells32 l).toArray.all (·.oneCell') = true := all_oneCell_toArray (fun v hv => by
  obtain ⟨x, _, rfl⟩ := List.mem_map.1 hv
  rfl)
theorem size_c32 {l : List UInt32} (h : l.length = 8) : (cells32 l).toArray.size = 8 := by rw [List.size_toArray]; unfold cells32; rw [List.length_map, h]
theorem wpList_load_eight {ops : Array Oper} {rest : List Oper} {op : Oper} {a : Act} {w : World} {Q : Exit → Act → World → Prop} (hgd : op.guard = none) (x : Operand) (ho : op.op = .load 201 x)
    (b : Nat) (hx : a.eval x = .pointer (some ⟨b, 0, none⟩)) (l : List UInt32) (hl : l.length = 8) (hc : w.rangeAt b 0 (cells32 l))
    (hk : wpList Tryz.prog ops Q rest (a.put op.dst (.agg (cells32 l).toArray)) w) : wpList Tryz.prog ops Q (op :: rest) a w :=
  wpList_load_mid hgd _ x ho b 0 hx (cells32 l) _ hc Tryz.underlying201 rfl (by unfold cells32; rw [List.length_map, hl]; exact infoEight) hk
theorem wpList_store_eight {ops : Array Oper} {rest : List Oper} {op : Oper} {a : Act} {w : World} {Q : Exit → Act → World → Prop} (hgd : op.guard = none) (x y : Operand) (ho : op.op = .store 201 x y)
    (b : Nat) (hx : a.eval x = .pointer (some ⟨b, 0, none⟩)) (l : List UInt32) (hl : l.length = 8) (hy : a.eval y = .agg (cells32 l).toArray) (ht : w.there b 0 8)
    (hk : wpList Tryz.prog ops Q rest (a.put op.dst undef) (w.setCells b 0 (cells32 l))) : wpList Tryz.prog ops Q (op :: rest) a w :=
  wpList_store_mid hgd _ x y ho b 0 _ hx hy (by rw [size_c32 hl]; exact ht) (by rw [size_c32 hl]; exact infoEight) (all_cells32 _) hk
theorem wrapn {k : Nat} (h : k < 1000000) : wrap64 ((k : Int) + 1) = ((k + 1 : Nat) : Int) := by
  unfold wrap64
  omega
theorem list8 (l : List UInt32) (h : l.length = 8) : l = [l.getD 0 0, l.getD 1 0, l.getD 2 0, l.getD 3 0, l.getD 4 0, l.getD 5 0, l.getD 6 0, l.getD 7 0] := by
  match l, h with
  | [a0, a1, a2, a3, a4, a5, a6, a7], _ => rfl
theorem TK.alloc {w W : World} {Sb Rb Wb : Nat} {s l : List UInt32} (h : TK w W Sb Rb Wb s l) (o : Obj) : TK w (W.alloc o) Sb Rb Wb s l := ⟨al h.below o, h.s.alloc o, h.r.alloc o, h.l.alloc o, h.o⟩
/-- What Take has in hand, the eight numbers too. -/
structure TN (w W : World) (Sb Rb Wb Nb : Nat) (s l n : List UInt32) : Prop where
  k : TK w W Sb Rb Wb s l
  n : Row32 W Nb 201 n
  o : w.heap.size ≤ Nb ∧ Sb ≠ Nb ∧ Rb ≠ Nb ∧ Wb ≠ Nb
theorem TN.drew {w W : World} {Sb Rb Wb Nb : Nat} {s l n : List UInt32} (h : TN w W Sb Rb Wb Nb s l n) : TN w W.drew Sb Rb Wb Nb s l n := ⟨h.k.drew, h.n, h.o⟩
theorem TN.whole {w W : World} {Sb Rb Wb Nb : Nat} {s l n : List UInt32} (h : TN w W Sb Rb Wb Nb s l n) (n' : List UInt32) (hl : n.length = n'.length) : TN w (W.setCells Nb 0 (cells32 n')) Sb Rb Wb Nb s l n' :=
  ⟨⟨setCells_below _ h.o.1 _ _ _ _ h.k.below, h.k.s.setCells _ h.o.2.1 _ _, h.k.r.setCells _ h.o.2.2.1 _ _, h.k.l.setCells _ h.o.2.2.2 _ _, h.k.o⟩, h.n.whole hl, h.o⟩
theorem length_cells32 (l : List UInt32) : (cells32 l).length = l.length := by simp [cells32]
set_option maxRecDepth 100000 in
set_option maxHeartbeats 4000000 in
theorem take_end {u0 u1 u3 u5 u6 u7 u8 u9 u11 u12 u13 u14 u15 u16 u17 u18 u19 u20 u21 u22 u23 u24 u25 u26 u27 u28 u29 u30 u31 u32 u33 u34 u35 u36 u37 u38 u39 u40 u41 u42 u43 u44 u45 u46 u47 u48 u49 u50 u51 u52 u53 u54 u55 u56 u57 u58 u59 u60 u61 u62 u63 u64 u65 u66 u67 u68 u69 u70 u71 u72 u73 u74 u75 u76 u77 u78 u79 u80 u81 u82 u83 u84 u85 u86 u87 u88 u89 u90 u91 u92 u93 u94 u95 u96 u97 u98 u99 u100 u101 u102 u103 u104 u105 u106 u107 u108 u109 u110 u111 u112 u113 u114 u115 u116 u117 u118 u119 u120 u121 u122 u123 u124 u125 u126 u127 u128 u129 u130 u131 u132 u133 u134 u135 u136 u137 u138 u139 u140 u141 u142 u143 u144 u145 u146 u147 u148 u149 u150 u151 u152 u153 u154 u155 u156 u157 u158 u159 u160 u161 u162 u163 u164 u165 u166 u167 u168 u169 u170 u171 u172 u173 u174 u175 u176 u177 u178 u179 u180 u181 u182 u183 u184 u185 u186 u187 u188 u189 u190 u191 u192 u193 u194 u195 u196 u197 u198 u199 u200 u201 u202 u203 u204 : Value} (s n l : List UInt32) (b : List UInt8) (w W : World) (Sb Rb Wb Nb : Nat) (h : TN w W Sb Rb Wb Nb s l n) (hs : s.length = 8) (hn : n.length = 8)
    (ht : took s b = (List.range 8).map fun i => s.getD i 0 + n.getD i 0) :
    Code.wp Tryz.prog (dropN 5 takeCode) (bodyPost Tryz.prog Tryz.f158 fun e w' => e = .returned (.agg (cells32 (took s b)).toArray) ∧ Below w.heap.size w w') ⟨#[u0, u1, .pointer (some ⟨Sb, 0, none⟩), u3, .pointer (some ⟨Rb, 0, none⟩), u5, u6, u7, u8, u9, .pointer (some ⟨Nb, 0, none⟩), u11, u12, u13, u14, u15, u16, u17, u18, u19, u20, u21, u22, u23, u24, u25, u26, u27, u28, u29, u30, u31, u32, u33, u34, u35, u36, u37, u38, u39, u40, u41, u42, u43, u44, u45, u46, u47, u48, u49, u50, u51, u52, u53, u54, u55, u56, u57, u58, u59, u60, u61, u62, u63, u64, u65, u66, u67, u68, u69, u70, u71, u72, u73, u74, u75, u76, u77, u78, u79, u80, u81, u82, u83, u84, u85, u86, u87, u88, u89, u90, u91, u92, u93, u94, u95, u96, u97, u98, u99, u100, u101, u102, u103, u104, u105, u106, u107, u108, u109, u110, u111, u112, u113, u114, u115, u116, u117, u118, u119, u120, u121, u122, u123, u124, u125, u126, u127, u128, u129, u130, u131, u132, u133, u134, u135, u136, u137, u138, u139, u140, u141, u142, u143, u144, u145, u146, u147, u148, u149, u150, u151, u152, u153, u154, u155, u156, u157, u158, u159, u160, u161, u162, u163, u164, u165, u166, u167, u168, u169, u170, u171, u172, u173, u174, u175, u176, u177, u178, u179, u180, u181, u182, u183, u184, u185, u186, u187, u188, u189, u190, u191, u192, u193, u194, u195, u196, u197, u198, u199, u200, u201, u202, u203, u204], []⟩ W := by
  have ht2 : took s b = [s.getD 0 0 + n.getD 0 0, s.getD 1 0 + n.getD 1 0, s.getD 2 0 + n.getD 2 0, s.getD 3 0 + n.getD 3 0, s.getD 4 0 + n.getD 4 0, s.getD 5 0 + n.getD 5 0, s.getD 6 0 + n.getD 6 0, s.getD 7 0 + n.getD 7 0] := ht
  clear ht
  have hr := h.k.r.whole (l' := [s.getD 0 0 + n.getD 0 0, s.getD 1 0 + n.getD 1 0, s.getD 2 0 + n.getD 2 0, s.getD 3 0 + n.getD 3 0, s.getD 4 0 + n.getD 4 0, s.getD 5 0 + n.getD 5 0, s.getD 6 0 + n.getD 6 0, s.getD 7 0 + n.getD 7 0]) rfl
  have hth : W.there Rb 0 8 := h.k.r.there
  have hw := setCells_below Rb h.k.o.2.1 (cells32 [s.getD 0 0 + n.getD 0 0, s.getD 1 0 + n.getD 1 0, s.getD 2 0 + n.getD 2 0, s.getD 3 0 + n.getD 3 0, s.getD 4 0 + n.getD 4 0, s.getD 5 0 + n.getD 5 0, s.getD 6 0 + n.getD 6 0, s.getD 7 0 + n.getD 7 0]) 0 _ _ h.k.below
  have c0 := h.k.s.cell (i := 0) (by omega)
  have d0 := h.n.cell (i := 0) (by omega)
  have c1 := h.k.s.cell (i := 1) (by omega)
  have d1 := h.n.cell (i := 1) (by omega)
  have c2 := h.k.s.cell (i := 2) (by omega)
  have d2 := h.n.cell (i := 2) (by omega)
  have c3 := h.k.s.cell (i := 3) (by omega)
  have d3 := h.n.cell (i := 3) (by omega)
  have c4 := h.k.s.cell (i := 4) (by omega)
  have d4 := h.n.cell (i := 4) (by omega)
  have c5 := h.k.s.cell (i := 5) (by omega)
  have d5 := h.n.cell (i := 5) (by omega)
  have c6 := h.k.s.cell (i := 6) (by omega)
  have d6 := h.n.cell (i := 6) (by omega)
  have c7 := h.k.s.cell (i := 7) (by omega)
  have d7 := h.n.cell (i := 7) (by omega)
  rw [ht2]
  clear ht2
  generalize s.getD 0 0 = x0 at *
  generalize n.getD 0 0 = y0 at *
  generalize s.getD 1 0 = x1 at *
  generalize n.getD 1 0 = y1 at *
  generalize s.getD 2 0 = x2 at *
  generalize n.getD 2 0 = y2 at *
  generalize s.getD 3 0 = x3 at *
  generalize n.getD 3 0 = y3 at *
  generalize s.getD 4 0 = x4 at *
  generalize n.getD 4 0 = y4 at *
  generalize s.getD 5 0 = x5 at *
  generalize n.getD 5 0 = y5 at *
  generalize s.getD 6 0 = x6 at *
  generalize n.getD 6 0 = y6 at *
  generalize s.getD 7 0 = x7 at *
  generalize n.getD 7 0 = y7 at *
  have HR := Lib.hid hr
  have HT := Lib.hid hth
  have HW := Lib.hid hw
  clear hr hth hw h hs hn
  have a0 := uv_add x0 y0
  have a1 := uv_add x1 y1
  have a2 := uv_add x2 y2
  have a3 := uv_add x3 y3
  have a4 := uv_add x4 y4
  have a5 := uv_add x5 y5
  have a6 := uv_add x6 y6
  have a7 := uv_add x7 y7
  conv => arg 2; whnf
  go_wp2_with (first
    | (refine wpList_build_eight rfl _ rfl (x0 + y0) (x1 + y1) (x2 + y2) (x3 + y3) (x4 + y4) (x5 + y5) (x6 + y6) (x7 + y7) (by rfl) ?_)
    | (refine wpList_store_eight rfl _ _ rfl Rb rfl [x0 + y0, x1 + y1, x2 + y2, x3 + y3, x4 + y4, x5 + y5, x6 + y6, x7 + y7] rfl rfl HT.out ?_))
  exact bodyPost_ret (results_mid Tryz.results158 _ _ Rb 0 (cells32 [x0 + y0, x1 + y1, x2 + y2, x3 + y3, x4 + y4, x5 + y5, x6 + y6, x7 + y7]) _ rfl HR.out.range Tryz.underlying201 rfl infoEight) rfl ⟨rfl, HW.out⟩
set_option maxRecDepth 100000 in
set_option maxHeartbeats 4000000 in
theorem take_mid {u0 u1 u3 u6 u7 u8 u9 u10 u11 u12 u13 u14 u15 u16 u17 u18 u19 u20 u21 u22 u23 u24 u25 u26 u27 u28 u29 u30 u31 u32 u33 u34 u35 u36 u37 u38 u39 u40 u41 u42 u43 u44 u45 u46 u47 u48 u49 u50 u51 u52 u53 u54 u55 u56 u57 u58 u59 u60 u61 u62 u63 u64 u65 u66 u67 u68 u69 u70 u71 u72 u73 u74 u75 u76 u77 u78 u79 u80 u81 u82 u83 u84 u85 u86 u87 u88 u89 u90 u91 u92 u93 u94 u95 u96 u97 u98 u99 u100 u101 u102 u103 u104 u105 u106 u107 u108 u109 u110 u111 u112 u113 u114 u115 u116 u117 u118 u119 u120 u121 u122 u123 u124 u125 u126 u127 u128 u129 u130 u131 u132 u133 u134 u135 u136 u137 u138 u139 u140 u141 u142 u143 u144 u145 u146 u147 u148 u149 u150 u151 u152 u153 u154 u155 u156 u157 u158 u159 u160 u161 u162 u163 u164 u165 u166 u167 u168 u169 u170 u171 u172 u173 u174 u175 u176 u177 u178 u179 u180 u181 u182 u183 u184 u185 u186 u187 u188 u189 u190 u191 u192 u193 u194 u195 u196 u197 u198 u199 u200 u201 u202 u203 u204 : Value} (s : List UInt32) (b : List UInt8) (w W : World) (Sb Rb Wb : Nat) (h : TK w W Sb Rb Wb s (rws b 64)) (hs : s.length = 8) :
    Code.wp Tryz.prog (dropN 3 takeCode) (bodyPost Tryz.prog Tryz.f158 fun e w' => e = .returned (.agg (cells32 (took s b)).toArray) ∧ Below w.heap.size w w') ⟨#[u0, u1, .pointer (some ⟨Sb, 0, none⟩), u3, .pointer (some ⟨Rb, 0, none⟩), .pointer (some ⟨Wb, 0, none⟩), u6, u7, u8, u9, u10, u11, u12, u13, u14, u15, u16, u17, u18, u19, u20, u21, u22, u23, u24, u25, u26, u27, u28, u29, u30, u31, u32, u33, u34, u35, u36, u37, u38, u39, u40, u41, u42, u43, u44, u45, u46, u47, u48, u49, u50, u51, u52, u53, u54, u55, u56, u57, u58, u59, u60, u61, u62, u63, u64, u65, u66, u67, u68, u69, u70, u71, u72, u73, u74, u75, u76, u77, u78, u79, u80, u81, u82, u83, u84, u85, u86, u87, u88, u89, u90, u91, u92, u93, u94, u95, u96, u97, u98, u99, u100, u101, u102, u103, u104, u105, u106, u107, u108, u109, u110, u111, u112, u113, u114, u115, u116, u117, u118, u119, u120, u121, u122, u123, u124, u125, u126, u127, u128, u129, u130, u131, u132, u133, u134, u135, u136, u137, u138, u139, u140, u141, u142, u143, u144, u145, u146, u147, u148, u149, u150, u151, u152, u153, u154, u155, u156, u157, u158, u159, u160, u161, u162, u163, u164, u165, u166, u167, u168, u169, u170, u171, u172, u173, u174, u175, u176, u177, u178, u179, u180, u181, u182, u183, u184, u185, u186, u187, u188, u189, u190, u191, u192, u193, u194, u195, u196, u197, u198, u199, u200, u201, u202, u203, u204], []⟩ W := by
  have hth : (W.alloc (.cells (cells32 (List.replicate 8 0)).toArray 201)).there W.heap.size 0 8 := (Row32.new (t := 201) (W := W) _ rfl rfl).there
  have hN0 : TN w ((W.alloc (.cells (cells32 (List.replicate 8 0)).toArray 201)).setCells W.heap.size 0 (cells32 s)) Sb Rb Wb W.heap.size s (rws b 64) (rtimes s b 0) := by
    refine TN.whole (n := List.replicate 8 0) ⟨h.alloc _, Row32.new _ rfl rfl, h.below.size, ?_, ?_, ?_⟩ _ (by show (List.replicate 8 (0 : UInt32)).length = s.length; rw [hs]; rfl)
    · have := h.s.lt; omega
    · have := h.r.lt; omega
    · have := h.l.lt; omega
  have HSR := Lib.hid h.s.range
  have HT := Lib.hid hth
  have HN0 := Lib.hid hN0
  have HS := Lib.hid hs
  clear h hth hN0 hs
  conv => arg 2; whnf
  refine Alm.wp_cut 2 ?_
  intro T hT
  dsimp only [cutN]
  replace hT := Lib.hid hT
  go_wp2_with (first
    | (refine wpList_load_eight rfl _ rfl Sb rfl s HS.out HSR.out ?_)
    | (refine wpList_store_eight rfl _ _ rfl W.heap.size rfl s HS.out rfl HT.out ?_))
  clear HSR HT
  go_loopw [11, 12, 13] (fun i _ _ V => ∃ k : Nat, k ≤ 64 ∧ i = .int .i64 (k : Int) ∧ TN w V Sb Rb Wb W.heap.size s (rws b 64) (rtimes s b k)) (fun i _ _ _ => 64 - (intOf i).toNat)
  case atStart => exact ⟨0, by omega, rfl, HN0.out⟩
  case round =>
    clear HN0
    obtain ⟨k, hk, rfl, hT0⟩ := hrel
    generalize W.heap.size = Nb at *
    by_cases hlt : k < 64
    · have hlt' : (k : Int) < 64 := by omega
      have k0 : (0 : Int) ≤ (k : Int) := by omega
      have HT1 := Lib.hid hT0.drew
      clear hT0
      have HK := Lib.hid hlt
      go_wp2_with fail
      refine wp_region_sched (fun V => V = wr.drew) [.t 0, .t 2, .t 5, .t 6, .t 9, .t 12, .t 16, .t 21, .t 23, .t 26, .t 29, .s 1, .s 7, .s 10, .s 13, .s 17, .s 22, .s 24, .t 25, .s 27, .t 28, .s 30, .t 31, .t 32, .e 3 true, .t 4, .t 8, .e 11 true, .e 14 true, .t 15, .e 18 true, .t 19, .t 20, .t 33, .t 34] (by kernel_rfl) (by kernel_rfl) (by intro c a d v w h; cases d <;> exact h) ?_
      generalize wr.drew = V at *
      have hlen := length_rtimes s b HS.out k
      have hst : rtimes s b (k + 1) = rtime (table.getD k 0) ((rws b 64).getD k 0) (rtimes s b k) := rfl
      have HAD := Lib.hid (fun W => added_any k W hlt)
      have hT1 := HT1.out
      have cw := hT1.k.l.cell (i := k) (by rw [length_rws]; exact hlt)
      generalize rtimes s b k = n at *
      generalize (rws b 64).getD k 0 = wk at *
      generalize table.getD k 0 = tk at *
      have d0 := hT1.n.cell (i := 0) (by rw [hlen]; omega)
      have c4 := hT1.n.cell (i := 4) (by rw [hlen]; omega)
      have c5 := hT1.n.cell (i := 5) (by rw [hlen]; omega)
      have c6 := hT1.n.cell (i := 6) (by rw [hlen]; omega)
      have c7 := hT1.n.cell (i := 7) (by rw [hlen]; omega)
      clear d0
      have hr : radds tk wk n = n.getD 7 0 + tk + wk + (rotr (n.getD 4 0) 6 ^^^ rotr (n.getD 4 0) 11 ^^^ rotr (n.getD 4 0) 25) + ((n.getD 4 0 &&& n.getD 5 0) ||| (~~~(n.getD 4 0) &&& n.getD 6 0)) := rfl
      generalize h4 : n.getD 4 0 = x4 at *
      generalize h5 : n.getD 5 0 = x5 at *
      generalize h6 : n.getD 6 0 = x6 at *
      generalize h7 : n.getD 7 0 = x7 at *
      have HX := Lib.hid (And.intro h4 (And.intro h5 (And.intro h6 h7)))
      have HST := Lib.hid hst
      have HR := Lib.hid hr
      have HL := Lib.hid hlen
      clear h4 h5 h6 h7 hst hr hlen hT1 hlt
      have ua := uv_add
      have ux := uv_xor
      have ud := uv_and
      have uo := uv_or
      have un := uv_notx
      iterate 11
        refine wpS_t rfl (v := ?_) (by rfl) (fun W => ?_) ?_
        rotate_left
        · go_simp
          try rfl
        try simp only [Act.put, List.setIfInBounds_toArray, List.set_cons_zero, List.set_cons_succ]
      refine wpS_s rfl rfl (v := ?_) (by rfl) (fun W hSW => ?_) ?_
      rotate_left
      · subst hSW
        go_simp
        try rfl
      try simp only [Act.put, List.setIfInBounds_toArray, List.set_cons_zero, List.set_cons_succ]
      refine wpS_s rfl rfl (v := ?_) (by rfl) (fun W hSW => ?_) ?_
      rotate_left
      · subst hSW
        go_simp
        try rfl
      try simp only [Act.put, List.setIfInBounds_toArray, List.set_cons_zero, List.set_cons_succ]
      refine wpS_s rfl rfl (v := ?_) (by rfl) (fun W hSW => ?_) ?_
      rotate_left
      · subst hSW
        go_simp
        try rfl
      try simp only [Act.put, List.setIfInBounds_toArray, List.set_cons_zero, List.set_cons_succ]
      refine wpS_s rfl rfl (v := ?_) (by rfl) (fun W hSW => ?_) ?_
      rotate_left
      · subst hSW
        go_simp
        try rfl
      try simp only [Act.put, List.setIfInBounds_toArray, List.set_cons_zero, List.set_cons_succ]
      refine wpS_s rfl rfl (v := ?_) (by rfl) (fun W hSW => ?_) ?_
      rotate_left
      · subst hSW
        go_simp
        try rfl
      try simp only [Act.put, List.setIfInBounds_toArray, List.set_cons_zero, List.set_cons_succ]
      refine wpS_s rfl rfl (v := ?_) (by rfl) (fun W hSW => ?_) ?_
      rotate_left
      · subst hSW
        go_simp
        try rfl
      try simp only [Act.put, List.setIfInBounds_toArray, List.set_cons_zero, List.set_cons_succ]
      refine wpS_s rfl rfl (v := ?_) (by rfl) (fun W hSW => ?_) ?_
      rotate_left
      · subst hSW
        go_simp
        try rfl
      try simp only [Act.put, List.setIfInBounds_toArray, List.set_cons_zero, List.set_cons_succ]
      iterate 1
        refine wpS_t rfl (v := ?_) (by rfl) (fun W => ?_) ?_
        rotate_left
        · go_simp
          try rfl
        try simp only [Act.put, List.setIfInBounds_toArray, List.set_cons_zero, List.set_cons_succ]
      refine wpS_s rfl rfl (v := ?_) (by rfl) (fun W hSW => ?_) ?_
      rotate_left
      · subst hSW
        go_simp
        try rfl
      try simp only [Act.put, List.setIfInBounds_toArray, List.set_cons_zero, List.set_cons_succ]
      iterate 1
        refine wpS_t rfl (v := ?_) (by rfl) (fun W => ?_) ?_
        rotate_left
        · go_simp
          try rfl
        try simp only [Act.put, List.setIfInBounds_toArray, List.set_cons_zero, List.set_cons_succ]
      refine wpS_s rfl rfl (v := ?_) (by rfl) (fun W hSW => ?_) ?_
      rotate_left
      · subst hSW
        go_simp
        try rfl
      try simp only [Act.put, List.setIfInBounds_toArray, List.set_cons_zero, List.set_cons_succ]
      iterate 2
        refine wpS_t rfl (v := ?_) (by rfl) (fun W => ?_) ?_
        rotate_left
        · go_simp
          try rfl
        try simp only [Act.put, List.setIfInBounds_toArray, List.set_cons_zero, List.set_cons_succ]
      refine wpS_k rfl (by rfl) (fun K hK => ?_)
      go_simp
      refine (HAD.out V).mono ?_
      rintro e V1 ⟨rfl, rfl⟩
      refine hK _ _ ⟨by rfl, ?_⟩; clear hK K
      try simp only [Act.put, List.setIfInBounds_toArray, List.set_cons_zero, List.set_cons_succ]
      iterate 2
        refine wpS_t rfl (v := ?_) (by rfl) (fun W => ?_) ?_
        rotate_left
        · go_simp
          try rfl
        try simp only [Act.put, List.setIfInBounds_toArray, List.set_cons_zero, List.set_cons_succ]
      refine wpS_k rfl (by rfl) (fun K hK => ?_)
      go_simp
      refine (refr_6 x4 V).mono ?_
      rintro e V1 ⟨rfl, rfl⟩
      refine hK _ _ ⟨by rfl, ?_⟩; clear hK K
      try simp only [Act.put, List.setIfInBounds_toArray, List.set_cons_zero, List.set_cons_succ]
      refine wpS_k rfl (by rfl) (fun K hK => ?_)
      go_simp
      refine (refr_11 x4 V).mono ?_
      rintro e V1 ⟨rfl, rfl⟩
      refine hK _ _ ⟨by rfl, ?_⟩; clear hK K
      try simp only [Act.put, List.setIfInBounds_toArray, List.set_cons_zero, List.set_cons_succ]
      iterate 1
        refine wpS_t rfl (v := ?_) (by rfl) (fun W => ?_) ?_
        rotate_left
        · go_simp
          try rfl
        try simp only [Act.put, List.setIfInBounds_toArray, List.set_cons_zero, List.set_cons_succ]
      refine wpS_k rfl (by rfl) (fun K hK => ?_)
      go_simp
      refine (refr_25 x4 V).mono ?_
      rintro e V1 ⟨rfl, rfl⟩
      refine hK _ _ ⟨by rfl, ?_⟩; clear hK K
      try simp only [Act.put, List.setIfInBounds_toArray, List.set_cons_zero, List.set_cons_succ]
      iterate 4
        refine wpS_t rfl (v := ?_) (by rfl) (fun W => ?_) ?_
        rotate_left
        · go_simp
          try rfl
        try simp only [Act.put, List.setIfInBounds_toArray, List.set_cons_zero, List.set_cons_succ]
      refine wpS_done ?_
      go_wp2_with fail
      rw [show IntKind.u32.max = 4294967295 from rfl, un x4, ud (~~~x4) x6, uo, ua, ← HR.out]
      have hq : rmore n = (rotr (n.getD 0 0) 2 ^^^ rotr (n.getD 0 0) 13 ^^^ rotr (n.getD 0 0) 22) + ((n.getD 0 0 &&& n.getD 1 0) ||| (n.getD 0 0 &&& n.getD 2 0) ||| (n.getD 1 0 &&& n.getD 2 0)) := rfl
      have hst2 : rtime tk wk n = [radds tk wk n + rmore n, n.getD 0 0, n.getD 1 0, n.getD 2 0, n.getD 3 0 + radds tk wk n, n.getD 4 0, n.getD 5 0, n.getD 6 0] := rfl
      have HT2 := Lib.hid HT1.out.drew
      clear HR HX HT1 cw c4 c5 c6 c7 HAD h
      generalize radds tk wk n = p at *
      have hlen := HL.out
      have c0 := HT2.out.n.cell (i := 0) (by rw [hlen]; omega)
      have c1 := HT2.out.n.cell (i := 1) (by rw [hlen]; omega)
      have c2 := HT2.out.n.cell (i := 2) (by rw [hlen]; omega)
      have c3 := HT2.out.n.cell (i := 3) (by rw [hlen]; omega)
      have c4 := HT2.out.n.cell (i := 4) (by rw [hlen]; omega)
      have c5 := HT2.out.n.cell (i := 5) (by rw [hlen]; omega)
      have c6 := HT2.out.n.cell (i := 6) (by rw [hlen]; omega)
      have hth : V.drew.there Nb 0 8 := by have := HT2.out.n.there; rwa [hlen] at this
      have HTH := Lib.hid hth
      clear hlen hth
      generalize n.getD 0 0 = x0 at *
      generalize n.getD 1 0 = x1 at *
      generalize n.getD 2 0 = x2 at *
      generalize n.getD 3 0 = x3 at *
      generalize n.getD 4 0 = y4 at *
      generalize n.getD 5 0 = y5 at *
      generalize n.getD 6 0 = y6 at *
      have HQ := Lib.hid (And.intro hq hst2)
      clear hq hst2
      refine wp_region_sched (fun W => W = V.drew) [.t 0, .t 3, .t 7, .t 11, .t 13, .t 16, .t 18, .t 22, .t 24, .s 1, .s 4, .s 8, .s 12, .s 14, .t 15, .s 17, .s 19, .t 20, .t 21, .s 23, .s 25, .t 26, .t 27, .e 2 true, .e 5 true, .t 6, .e 9 true, .t 10, .t 28, .t 29] (by kernel_rfl) (by kernel_rfl) (by intro c a d v w h; cases d <;> exact h) ?_
      generalize V.drew = V2 at *
      iterate 9
        refine wpS_t rfl (v := ?_) (by rfl) (fun W => ?_) ?_
        rotate_left
        · go_simp
          try rfl
        try simp only [Act.put, List.setIfInBounds_toArray, List.set_cons_zero, List.set_cons_succ]
      refine wpS_s rfl rfl (v := ?_) (by rfl) (fun W hSW => ?_) ?_
      rotate_left
      · subst hSW
        go_simp
        try rfl
      try simp only [Act.put, List.setIfInBounds_toArray, List.set_cons_zero, List.set_cons_succ]
      refine wpS_s rfl rfl (v := ?_) (by rfl) (fun W hSW => ?_) ?_
      rotate_left
      · subst hSW
        go_simp
        try rfl
      try simp only [Act.put, List.setIfInBounds_toArray, List.set_cons_zero, List.set_cons_succ]
      refine wpS_s rfl rfl (v := ?_) (by rfl) (fun W hSW => ?_) ?_
      rotate_left
      · subst hSW
        go_simp
        try rfl
      try simp only [Act.put, List.setIfInBounds_toArray, List.set_cons_zero, List.set_cons_succ]
      refine wpS_s rfl rfl (v := ?_) (by rfl) (fun W hSW => ?_) ?_
      rotate_left
      · subst hSW
        go_simp
        try rfl
      try simp only [Act.put, List.setIfInBounds_toArray, List.set_cons_zero, List.set_cons_succ]
      refine wpS_s rfl rfl (v := ?_) (by rfl) (fun W hSW => ?_) ?_
      rotate_left
      · subst hSW
        go_simp
        try rfl
      try simp only [Act.put, List.setIfInBounds_toArray, List.set_cons_zero, List.set_cons_succ]
      iterate 1
        refine wpS_t rfl (v := ?_) (by rfl) (fun W => ?_) ?_
        rotate_left
        · go_simp
          try rfl
        try simp only [Act.put, List.setIfInBounds_toArray, List.set_cons_zero, List.set_cons_succ]
      refine wpS_s rfl rfl (v := ?_) (by rfl) (fun W hSW => ?_) ?_
      rotate_left
      · subst hSW
        go_simp
        try rfl
      try simp only [Act.put, List.setIfInBounds_toArray, List.set_cons_zero, List.set_cons_succ]
      refine wpS_s rfl rfl (v := ?_) (by rfl) (fun W hSW => ?_) ?_
      rotate_left
      · subst hSW
        go_simp
        try rfl
      try simp only [Act.put, List.setIfInBounds_toArray, List.set_cons_zero, List.set_cons_succ]
      iterate 2
        refine wpS_t rfl (v := ?_) (by rfl) (fun W => ?_) ?_
        rotate_left
        · go_simp
          try rfl
        try simp only [Act.put, List.setIfInBounds_toArray, List.set_cons_zero, List.set_cons_succ]
      refine wpS_s rfl rfl (v := ?_) (by rfl) (fun W hSW => ?_) ?_
      rotate_left
      · subst hSW
        go_simp
        try rfl
      try simp only [Act.put, List.setIfInBounds_toArray, List.set_cons_zero, List.set_cons_succ]
      refine wpS_s rfl rfl (v := ?_) (by rfl) (fun W hSW => ?_) ?_
      rotate_left
      · subst hSW
        go_simp
        try rfl
      try simp only [Act.put, List.setIfInBounds_toArray, List.set_cons_zero, List.set_cons_succ]
      iterate 2
        refine wpS_t rfl (v := ?_) (by rfl) (fun W => ?_) ?_
        rotate_left
        · go_simp
          try rfl
        try simp only [Act.put, List.setIfInBounds_toArray, List.set_cons_zero, List.set_cons_succ]
      refine wpS_k rfl (by rfl) (fun K hK => ?_)
      go_simp
      refine (refr_2 x0 V2).mono ?_
      rintro e V1 ⟨rfl, rfl⟩
      refine hK _ _ ⟨by rfl, ?_⟩; clear hK K
      try simp only [Act.put, List.setIfInBounds_toArray, List.set_cons_zero, List.set_cons_succ]
      refine wpS_k rfl (by rfl) (fun K hK => ?_)
      go_simp
      refine (refr_13 x0 V2).mono ?_
      rintro e V1 ⟨rfl, rfl⟩
      refine hK _ _ ⟨by rfl, ?_⟩; clear hK K
      try simp only [Act.put, List.setIfInBounds_toArray, List.set_cons_zero, List.set_cons_succ]
      iterate 1
        refine wpS_t rfl (v := ?_) (by rfl) (fun W => ?_) ?_
        rotate_left
        · go_simp
          try rfl
        try simp only [Act.put, List.setIfInBounds_toArray, List.set_cons_zero, List.set_cons_succ]
      refine wpS_k rfl (by rfl) (fun K hK => ?_)
      go_simp
      refine (refr_22 x0 V2).mono ?_
      rintro e V1 ⟨rfl, rfl⟩
      refine hK _ _ ⟨by rfl, ?_⟩; clear hK K
      try simp only [Act.put, List.setIfInBounds_toArray, List.set_cons_zero, List.set_cons_succ]
      iterate 3
        refine wpS_t rfl (v := ?_) (by rfl) (fun W => ?_) ?_
        rotate_left
        · go_simp
          try rfl
        try simp only [Act.put, List.setIfInBounds_toArray, List.set_cons_zero, List.set_cons_succ]
      refine wpS_done ?_
      rw [← HQ.out.1]
      generalize hrm : rmore n = r at *
      have HN := Lib.hid HQ.out.2
      clear HQ hrm un uo ud ux
      go_wp2_with (refine wpList_build_eight rfl _ rfl (p + r) x0 x1 x2 (x3 + p) y4 y5 y6 (by rfl) ?_; refine Hid.out ?_)
      refine Lib.hid ?_
      try simp only [Act.put, List.setIfInBounds_toArray, List.set_cons_zero, List.set_cons_succ]
      refine wpList_store_eight (by rfl) _ _ (by rfl) Nb (by rfl) [p + r, x0, x1, x2, x3 + p, y4, y5, y6] (by rfl) (by rfl) HTH.out ?_
      clear c0 c1 c2 c3 c4 c5 c6 ua
      go_wp2_with fail
      have hfin : TN w (V2.setCells Nb 0 (cells32 [p + r, x0, x1, x2, x3 + p, y4, y5, y6])) Sb Rb Wb Nb s (rws b 64) (rtimes s b (k + 1)) := by
        rw [HST.out, HN.out]
        exact HT2.out.whole [p + r, x0, x1, x2, x3 + p, y4, y5, y6] (by rw [HL.out]; rfl)
      clear HN HST HL HT2 HTH
      have hk5 := HK.out
      try rw [wrapn (Nat.lt_trans hk5 (by decide))]
      try rw [show (k : Int) + 1 = ((k + 1 : Nat) : Int) from rfl]
      refine ⟨⟨k + 1, hk5, rfl, hfin⟩, ?_⟩
      clear hfin hT
      simp only [intOf, Int.toNat_natCast]
      omega
    · obtain rfl : k = 64 := by omega
      have hT1 := Lib.hid hT0
      clear hT0
      go_wp2_with fail
      refine hT.out _ _ ?_
      exact take_end s (rtimes s b 64) (rws b 64) b w wr Sb Rb Wb Nb hT1.out HS.out (length_rtimes s b HS.out 64) (by rw [← rtook_eq s b HS.out]; rfl)
end Go.Proofs.YtfmgoehnbaiamaaGreatDoor
