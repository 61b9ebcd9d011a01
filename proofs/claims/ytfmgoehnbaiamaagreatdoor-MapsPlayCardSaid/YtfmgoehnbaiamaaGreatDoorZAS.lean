/-
  Joined: U7, Cut.
-/
import Derived.Test.YtfmgoehnbaiamaaGreatDoorZAR
import Derived.Test.YtfmgoehnbaiamaaGreatDoorBase
-- Walks: maps: Pairs.
open Go Go.RowKit Alm
namespace Go.Proofs.YtfmgoehnbaiamaaGreatDoor
open Go.Maps (Keyed)
set_option maxRecDepth 100000 in
theorem build_pe (b0 b1 b2 b3 b4 b5 b6 b7 b8 b9 b10 b11 b12 b13 b14 b15 b16 b17 b18 b19 b20 b21 b22 b23 b24 b25 b26 b27 b28 b29 b30 b31 : UInt8) (a : Option Addr) (n c : Nat) (w : World) : (Instr.build 41 #[(0, .agg #[.int .u8 ((b0.toNat : Nat) : Int), .int .u8 ((b1.toNat : Nat) : Int), .int .u8 ((b2.toNat : Nat) : Int), .int .u8 ((b3.toNat : Nat) : Int), .int .u8 ((b4.toNat : Nat) : Int), .int .u8 ((b5.toNat : Nat) : Int), .int .u8 ((b6.toNat : Nat) : Int), .int .u8 ((b7.toNat : Nat) : Int), .int .u8 ((b8.toNat : Nat) : Int), .int .u8 ((b9.toNat : Nat) : Int), .int .u8 ((b10.toNat : Nat) : Int), .int .u8 ((b11.toNat : Nat) : Int), .int .u8 ((b12.toNat : Nat) : Int), .int .u8 ((b13.toNat : Nat) : Int), .int .u8 ((b14.toNat : Nat) : Int), .int .u8 ((b15.toNat : Nat) : Int), .int .u8 ((b16.toNat : Nat) : Int), .int .u8 ((b17.toNat : Nat) : Int), .int .u8 ((b18.toNat : Nat) : Int), .int .u8 ((b19.toNat : Nat) : Int), .int .u8 ((b20.toNat : Nat) : Int), .int .u8 ((b21.toNat : Nat) : Int), .int .u8 ((b22.toNat : Nat) : Int), .int .u8 ((b23.toNat : Nat) : Int), .int .u8 ((b24.toNat : Nat) : Int), .int .u8 ((b25.toNat : Nat) : Int), .int .u8 ((b26.toNat : Nat) : Int), .int .u8 ((b27.toNat : Nat) : Int), .int .u8 ((b28.toNat : Nat) : Int), .int .u8 ((b29.toNat : Nat) : Int), .int .u8 ((b30.toNat : Nat) : Int), .int .u8 ((b31.toNat : Nat) : Int)]), (1, .slice a n c)]).run Tryz.prog w = .ok (.agg #[.int .u8 ((b0.toNat : Nat) : Int), .int .u8 ((b1.toNat : Nat) : Int), .int .u8 ((b2.toNat : Nat) : Int), .int .u8 ((b3.toNat : Nat) : Int), .int .u8 ((b4.toNat : Nat) : Int), .int .u8 ((b5.toNat : Nat) : Int), .int .u8 ((b6.toNat : Nat) : Int), .int .u8 ((b7.toNat : Nat) : Int), .int .u8 ((b8.toNat : Nat) : Int), .int .u8 ((b9.toNat : Nat) : Int), .int .u8 ((b10.toNat : Nat) : Int), .int .u8 ((b11.toNat : Nat) : Int), .int .u8 ((b12.toNat : Nat) : Int), .int .u8 ((b13.toNat : Nat) : Int), .int .u8 ((b14.toNat : Nat) : Int), .int .u8 ((b15.toNat : Nat) : Int), .int .u8 ((b16.toNat : Nat) : Int), .int .u8 ((b17.toNat : Nat) : Int), .int .u8 ((b18.toNat : Nat) : Int), .int .u8 ((b19.toNat : Nat) : Int), .int .u8 ((b20.toNat : Nat) : Int), .int .u8 ((b21.toNat : Nat) : Int), .int .u8 ((b22.toNat : Nat) : Int), .int .u8 ((b23.toNat : Nat) : Int), .int .u8 ((b24.toNat : Nat) : Int), .int .u8 ((b25.toNat : Nat) : Int), .int .u8 ((b26.toNat : Nat) : Int), .int .u8 ((b27.toNat : Nat) : Int), .int .u8 ((b28.toNat : Nat) : Int), .int .u8 ((b29.toNat : Nat) : Int), .int .u8 ((b30.toNat : Nat) : Int), .int .u8 ((b31.toNat : Nat) : Int), .slice a n c]) w := by kernel_rfl
theorem list32x (l : List UInt8) (h : l.length = 32) : ∃ b0 b1 b2 b3 b4 b5 b6 b7 b8 b9 b10 b11 b12 b13 b14 b15 b16 b17 b18 b19 b20 b21 b22 b23 b24 b25 b26 b27 b28 b29 b30 b31, l = [b0, b1, b2, b3, b4, b5, b6, b7, b8, b9, b10, b11, b12, b13, b14, b15, b16, b17, b18, b19, b20, b21, b22, b23, b24, b25, b26, b27, b28, b29, b30, b31] := by
  match l, h with
  | [b0, b1, b2, b3, b4, b5, b6, b7, b8, b9, b10, b11, b12, b13, b14, b15, b16, b17, b18, b19, b20, b21, b22, b23, b24, b25, b26, b27, b28, b29, b30, b31], _ => exact ⟨b0, b1, b2, b3, b4, b5, b6, b7, b8, b9, b10, b11, b12, b13, b14, b15, b16, b17, b18, b19, b20, b21, b22, b23, b24, b25, b26, b27, b28, b29, b30, b31, rfl⟩
theorem build_pair (x : PE) (w : World) : (Instr.build 41 #[(0, sv x.1), (1, peV x)]).run Tryz.prog w = .ok (.agg (encP x).toArray) w := by
  obtain ⟨b0, b1, b2, b3, b4, b5, b6, b7, b8, b9, b10, b11, b12, b13, b14, b15, b16, b17, b18, b19, b20, b21, b22, b23, b24, b25, b26, b27, b28, b29, b30, b31, h⟩ := list32x x.1.toList (by simp)
  have h1 : cellsOf x.1 = [.int .u8 ((b0.toNat : Nat) : Int), .int .u8 ((b1.toNat : Nat) : Int), .int .u8 ((b2.toNat : Nat) : Int), .int .u8 ((b3.toNat : Nat) : Int), .int .u8 ((b4.toNat : Nat) : Int), .int .u8 ((b5.toNat : Nat) : Int), .int .u8 ((b6.toNat : Nat) : Int), .int .u8 ((b7.toNat : Nat) : Int), .int .u8 ((b8.toNat : Nat) : Int), .int .u8 ((b9.toNat : Nat) : Int), .int .u8 ((b10.toNat : Nat) : Int), .int .u8 ((b11.toNat : Nat) : Int), .int .u8 ((b12.toNat : Nat) : Int), .int .u8 ((b13.toNat : Nat) : Int), .int .u8 ((b14.toNat : Nat) : Int), .int .u8 ((b15.toNat : Nat) : Int), .int .u8 ((b16.toNat : Nat) : Int), .int .u8 ((b17.toNat : Nat) : Int), .int .u8 ((b18.toNat : Nat) : Int), .int .u8 ((b19.toNat : Nat) : Int), .int .u8 ((b20.toNat : Nat) : Int), .int .u8 ((b21.toNat : Nat) : Int), .int .u8 ((b22.toNat : Nat) : Int), .int .u8 ((b23.toNat : Nat) : Int), .int .u8 ((b24.toNat : Nat) : Int), .int .u8 ((b25.toNat : Nat) : Int), .int .u8 ((b26.toNat : Nat) : Int), .int .u8 ((b27.toNat : Nat) : Int), .int .u8 ((b28.toNat : Nat) : Int), .int .u8 ((b29.toNat : Nat) : Int), .int .u8 ((b30.toNat : Nat) : Int), .int .u8 ((b31.toNat : Nat) : Int)] := by unfold cellsOf; rw [h]; rfl
  show (Instr.build 41 #[(0, .agg (cellsOf x.1).toArray), (1, .slice x.2.1 x.2.2.1 x.2.2.2)]).run Tryz.prog w = .ok (.agg (cellsOf x.1 ++ [Value.slice x.2.1 x.2.2.1 x.2.2.2]).toArray) w
  rw [h1]
  exact build_pe b0 b1 b2 b3 b4 b5 b6 b7 b8 b9 b10 b11 b12 b13 b14 b15 b16 b17 b18 b19 b20 b21 b22 b23 b24 b25 b26 b27 b28 b29 b30 b31 _ _ _ w
theorem exec_build_pair {f : Operand → Value} {o : Oper} (parts : Array (Nat × Operand)) (ho : o.op = .build 41 parts) (x : PE) (hp : (parts.toList.map fun (i, y) => (i, f y)) = [(0, sv x.1), (1, peV x)]) (W : World) :
    (execOp f o).run Tryz.prog W = .ok (.value (.agg (encP x).toArray)) W := by
  have : (parts.map fun (i, y) => (i, f y)) = #[(0, sv x.1), (1, peV x)] := by
    apply Array.toList_inj.1
    rw [Array.toList_map]; exact hp
  unfold execOp
  simp only [ho, Sem.run_bind, Sem.run_pure, Result.andThen_ok, this, build_pair]
theorem info_pair : ∃ i z, Tryz.prog.info? 41 = some i ∧ i.zero = some z ∧ i.size = 33 ∧ i.bytes = 56 ∧ z.cells.size = 33 := by
  have h : (Tryz.prog.info? 41).map (fun i => (i.zero.map fun z => z.cells.size, i.size, i.bytes)) = some (some 33, 33, 56) := by kernel_rfl
  obtain ⟨i, hi, h2⟩ := Option.map_eq_some_iff.1 h
  simp only [Prod.mk.injEq] at h2
  obtain ⟨z, hz, hz2⟩ := Option.map_eq_some_iff.1 h2.1
  exact ⟨i, z, hi, hz, h2.2.1, h2.2.2, hz2⟩
/-- A literal of pairs. -/
theorem wp_build_pairs {w : World} {o : Oper} {a : Act} {K : Act → World → Prop} {Q : Exit → Act → World → Prop} (len : Nat) (parts : Array (Nat × Operand)) (ho : o.op = .buildSlice 22 len parts) (l : List PE) (hl : l.length = len) (h0 : 0 < len) (h1 : len ≤ 1000)
    (hp : (parts.toList.map fun (i, x) => (i, a.eval x)) = (((l.map fun s => Value.agg (encP s).toArray)).zipIdx 0).map fun x => (x.2, x.1))
    (h : K (a.put o.dst (.slice (some ⟨w.heap.size, 0, none⟩) len len)) (w.alloc (.cells (cellsP l).toArray 41))) : o.wp Tryz.prog a w K Q := by
  obtain ⟨i, z, hi, hz, hs, hb, hzs⟩ := info_pair
  refine wp_buildSlice _ 41 len parts ho (cellsP l).toArray i z Tryz.underlying22 hi hz (by rw [hs]; omega) (by rw [hs]; omega) ?_ h
  have hc : (l.map fun s => Value.agg (encP s).toArray).flatMap (fun v => v.cells.toList) = cellsP l := by
    rw [List.flatMap_map, cellsP]; rfl
  rw [Array.toList_map, hp, hs, Great.fill_whole (by omega) (l.map fun s => Value.agg (encP s).toArray) _ (fun v hv => by obtain ⟨s, _, rfl⟩ := List.mem_map.1 hv; show (encP s).toArray.size = 33; rw [List.size_toArray, length_encP]) (by simp [hl]), hc]
/-- append of one pair, where there is room. -/
theorem wp_append_pair_fits {w : World} {o : Oper} {a : Act} {K : Act → World → Prop} {Q : Exit → Act → World → Prop} (s x : Operand)
    (ho : o.op = .call { callee := .builtin .append, args := #[s, x], argTypes := #[22, 22] })
    (base g n cap : Nat) (l : List PE) (hs : a.eval s = .slice (some ⟨g, 0, none⟩) n cap) (hown : w.ownsRow base 41 33 (.slice (some ⟨g, 0, none⟩) n cap) n (cellsP l))
    (b off c : Nat) (y : PE) (hx : a.eval x = .slice (some ⟨b, off, none⟩) 1 c) (hr : w.rangeAt b off (encP y)) (hroom : n + 1 ≤ cap)
    (h : ∀ w', w'.ownsRow base 41 33 (.slice (some ⟨g, 0, none⟩) (n + 1) cap) (n + 1) (cellsP (l ++ [y])) → w.grownBy w' (some g) → K (a.put o.dst (.slice (some ⟨g, 0, none⟩) (n + 1) cap)) w') : o.wp Tryz.prog a w K Q := by
  obtain ⟨i, z, hi, hz, h1, h2, h3⟩ := info_pair
  obtain ⟨w', hrun, r1, r2⟩ := run_append_fits (P := Tryz.prog) w base 22 o.type _ i 33 Tryz.underlying22 hi h1 g n cap (cellsP l) hown ⟨b, off, none⟩ 1 c (encP y) (by rw [length_encP]) (fun j u hj => by rw [Addr.add_mid]; exact hr j u hj) (one_encP y) hroom
  unfold Oper.wp
  simp [execOp, ho, resolve, invoke, builtin, hs, hx, hrun, Result.andThen]
  refine h w' ?_ r2
  rw [cellsP_append, cellsP_one]; exact r1
set_option maxRecDepth 100000 in
theorem clip_pairs (w : World) (v : Value) (P : List Keys.Pr) (h : PairsAt w v P) : Calls Tryz.prog 56 #[v] w fun e w' => ∃ v', e = .returned v' ∧ PairsAt w v' P ∧ w = w' := by
  obtain ⟨a, cap, cs, rfl, h1, h2, h3, h4, h5⟩ := h
  have hn : PairsAt w (.slice a P.length P.length) P := ⟨a, P.length, cs, rfl, Nat.le_refl _, by omega, h3, h4, h5⟩
  have HN := Lib.hid hn; clear hn h3 h4 h5
  obtain ⟨n, hn⟩ : ∃ n, n = P.length := ⟨_, rfl⟩
  rw [← hn] at HN h1 ⊢
  clear hn
  have k1 : (n : Int) ≤ (cap : Int) := by omega
  unfold maxLen at h2
  cases a with
  | none =>
    have h0 : (none : Option Addr) = none := rfl
    go_enter Tryz.func56, Tryz.ntmps56
    go_wp2_with fail
    refine bodyPost_ret (results_tmp rfl _ _ _) rfl ?_
    exact ⟨_, rfl, HN.out, rfl⟩
  | some a =>
    go_enter Tryz.func56, Tryz.ntmps56
    go_wp2_with fail
    refine bodyPost_ret (results_tmp rfl _ _ _) rfl ?_
    exact ⟨_, rfl, HN.out, rfl⟩
theorem bytes_lt {w : World} {v : Value} {l : List UInt8} (h : BytesAt w v l) (hl : l ≠ []) {k : Nat} (hk : v.ownBlock = some k) : k < w.heap.size := by
  obtain ⟨a, cap, rfl, _, _, h3⟩ := h
  obtain ⟨b, o, rfl, hr⟩ := h3.resolve_left hl
  simp only [Value.ownBlock, Option.some.injEq] at hk
  subst hk
  exact range_lt hr (by intro h; have := length_cells8 l; rw [h] at this; exact hl (List.length_eq_zero_iff.1 this.symm))
theorem grown_below {w w' : World} (h : Below w.heap.size w w') : w.grownBy w' none := ⟨h.os, h.tape, h.output, h.size, fun k hk _ => h.block k hk⟩
/-- What a round of Pairs has in hand. -/
structure PR (w : World) (p b n q z : Nat) (l : List Ent) (N k : Nat) (cs : List (PE × List UInt8)) (left : Lit → Bool) (cnt : Nat) (x : Sum) (v : Value) (bs : List UInt8) (W : World) : Prop where
  map : MapIn W p b n l
  val : BytesAt W v bs
  each : ∀ c ∈ cs, BytesAt W (peV c.1) c.2 ∧ ∀ i, (peV c.1).ownBlock = some i → w.heap.size < i
  below : Below w.heap.size w W
  own : W.ownsRow w.heap.size 41 33 (.slice (some ⟨w.heap.size, 0, none⟩) k N) k (cellsP (cs.map Prod.fst))
  rng : W.ranges Tryz.prog 24 rEl b q n (encD l) left cnt
  key : W.rangeAt z 0 (cellsOf x)
  lt : w.heap.size < W.heap.size
theorem PR.next {w : World} {p b n q z : Nat} {l : List Ent} {N k : Nat} {cs : List (PE × List UInt8)} {left : Lit → Bool} {cnt : Nat} {x : Sum} {v : Value} {bs : List UInt8} {W W' : World} (h : PR w p b n q z l N k cs left cnt x v bs W) (hb : Below W.heap.size W W') : PR w p b n q z l N k cs left cnt x v bs W' :=
  have kk : Keeps (fun _ => False) W W' := Keeps.of_below hb
  ⟨h.map.below hb, bytes_below h.val hb (Nat.le_refl _), fun c hc => ⟨bytes_below (h.each c hc).1 hb (Nat.le_refl _), (h.each c hc).2⟩, h.below.trans (hb.mono h.below.size), kk.owns h.own (fun _ _ h => h),
    h.rng.kept (grown_below hb) (by simp) (by simp), kk.range h.key (fun h => h), Nat.lt_of_lt_of_le h.lt hb.size⟩
theorem PR.drew {w : World} {p b n q z : Nat} {l : List Ent} {N k : Nat} {cs : List (PE × List UInt8)} {left : Lit → Bool} {cnt : Nat} {x : Sum} {v : Value} {bs : List UInt8} {W : World} (h : PR w p b n q z l N k cs left cnt x v bs W) : PR w p b n q z l N k cs left cnt x v bs W.drew :=
  h.next (Below.refl _ _).drew
set_option maxRecDepth 100000 in
set_option maxHeartbeats 2000000 in
theorem mpairs_any (w : World) (p b n : Nat) (l : List Ent) (h : MapIn w p b n l) (hn : l.length < 100000) : Calls Tryz.prog 15 #[.pointer (some ⟨p, 0, none⟩)] w fun e w' => ∃ v, e = .returned v ∧ PairsAt w' v (prs l) ∧ Below w.heap.size w w' := by
  obtain ⟨i0, z0p, hi0, hz0, hs0, hb0, hzs0⟩ := info_pair
  have hc := h.cell
  have hsize : Maps.size (encD l) = l.length := by simp [Maps.size, encD]
  have HI := Lib.hid (And.intro hi0 (And.intro hz0 (And.intro hs0 (And.intro hb0 hzs0))))
  have HM := Lib.hid h
  have HZ := Lib.hid hsize
  have HL := Lib.hid hn
  clear hi0 hz0 hs0 hb0 hzs0 h hsize hn
  obtain ⟨N, hN⟩ : ∃ N, N = l.length := ⟨_, rfl⟩
  rw [← hN] at HZ HL
  have HN := Lib.hid hN
  clear hN
  go_enter Tryz.func15, Tryz.ntmps15
  go_wp2_with (first
    | (go_at_call 48; refine (mnone_live _ p b hc).mono ?_; rintro e w1 ⟨rfl, rfl⟩)
    | (at_len; refine wpList_len_own _ rfl _ 91 rfl 24 39 Tryz.underlying91 rEl b n (encD l) rfl HM.out.map ?_; rw [HZ.out])
    | (at_make; refine wpList_make_own _ rfl _ _ _ rfl w.heap.size 41 i0 z0p 33 Tryz.underlying22 HI.out.1 HI.out.2.1 HI.out.2.2.1 .i64 .i64 (N : Int) N rfl rfl rfl (by rw [HI.out.2.2.2.1]; have := HL.out; omega) (by unfold maxLen; have := HL.out; omega) (Nat.le_refl _) ?_; intro w2 ho2 hg2; have HM2 := Lib.hid (HM.out.keep (X := fun _ => False) (Keeps.of_grown hg2 (fun k hk => by cases hk)) (fun h => h) (fun h => h) (fun _ _ _ _ h => h)); have hc2 := HM2.out.cell; have HB2 := Lib.hid (Keeps.below (B := w.heap.size) (Keeps.of_grown (X := fun _ => False) hg2 (fun k hk => by cases hk)) (Nat.le_refl _) (fun _ h => h.elim)); have HO2 := Lib.hid ho2; clear hg2 hc ho2)
    | (at_range; refine wpList_range_own _ rfl _ 91 rfl 24 39 keyLaw Tryz.underlying91 rEl b n (encD l) rfl HM2.out.map ?_; intro w3 hrg3 hg3 hs3))
  have k3 : Keeps (fun _ => False) w2 w3 := Keeps.of_grown hg3 (fun k hk => by cases hk)
  have hM3 : MapIn w3 p b n l := HM2.out.keep k3 (fun h => h) (fun h => h) (fun _ _ _ _ h => h)
  have hB3 : Below w.heap.size w w3 := HB2.out.trans (k3.below HB2.out.size (fun _ h => h.elim))
  have hO3 := k3.owns HO2.out (fun _ _ h => h)
  rw [HZ.out] at hrg3
  have hq : w.heap.size < w2.heap.size := own_lt HO2.out rfl
  have hbq : b < w2.heap.size := HM2.out.lt.2
  have hbw : b < w.heap.size := HM.out.lt.2
  have H3 := Lib.hid (And.intro hM3 (And.intro hB3 (And.intro hO3 hrg3)))
  have HQ := Lib.hid (And.intro hq (And.intro hbq hbw))
  clear hrg3 hg3 hs3 k3 hM3 hB3 hO3 hq hbq hbw HM2 hc2 HB2 HO2
  generalize w2.heap.size = q at *
  go_frame
  go_loopw [3] (fun s W => ∃ (left : Lit → Bool) (cnt k : Nat) (cs : List (PE × List UInt8)), s = .slice (some ⟨w.heap.size, 0, none⟩) k N ∧ cs.length = k ∧ k + cnt ≤ N ∧ Coll l left cs ∧ (∀ c ∈ cs, BytesAt W (peV c.1) c.2 ∧ ∀ i, (peV c.1).ownBlock = some i → w.heap.size < i) ∧ MapIn W p b n l ∧ Below w.heap.size w W ∧
    W.ownsRow w.heap.size 41 33 (.slice (some ⟨w.heap.size, 0, none⟩) k N) k (cellsP (cs.map Prod.fst)) ∧ W.ranges Tryz.prog 24 rEl b q n (encD l) left cnt) (fun _ W => W.rangeLeft b q)
  case atStart => exact ⟨_, N, 0, [], rfl, rfl, by omega, Coll.start l, (fun _ h => (List.not_mem_nil h).elim), H3.out.1, H3.out.2.1, H3.out.2.2.1, H3.out.2.2.2⟩
  case round =>
    clear H3
    obtain ⟨left, cnt, k, cs, rfl, hk, hkc, hcoll, hbs, hM, hB, hO, hrg⟩ := hrel
    have HK := Lib.hid (And.intro hk (And.intro hkc hcoll))
    have HR := Lib.hid (And.intro hbs (And.intro hM (And.intro hB (And.intro hO hrg))))
    clear hk hkc hcoll hbs hM hB hO hrg
    go_wp2_with (at_next; refine wpList_next_ranges _ rfl _ rfl 24 keyLaw rEl (fun x : Sum => sv x) (fun c : Option Addr × Nat × Nat => Value.slice c.1 c.2.1 c.2.2) (fun key kl h => by obtain ⟨x, hx, _⟩ := keyOf_inv h; exact ⟨x, hx⟩) (fun v y h => rEl_inv h) b q n _ left cnt rfl HR.out.2.2.2.2 ?_ ?_)
    case refine_1 =>
      intro h0 hl0
      obtain ⟨hbs, hM, hB, hO, hrg⟩ := HR.out
      obtain ⟨hk, hkc, hcoll⟩ := HK.out
      rcases hO.2 with ⟨hv, _⟩ | ⟨g', cap', cur, hv, hbase, hg, hnc, hcm, hsz, htk⟩
      · cases hv
      simp only [Value.slice.injEq, Option.some.injEq, Addr.mk.injEq, and_true, true_and] at hv
      obtain ⟨rfl, rfl⟩ := hv
      have hlen : (cs.map Prod.fst).length = k := by rw [List.length_map, hk]
      have hsort := sort_any wr w.heap.size N (cs.map Prod.fst) cur _ hg (by rw [hlen, Nat.mul_comm]; exact htk) (by rw [hlen]; exact hnc) hcm (by rw [hsz, Nat.mul_comm]) (by rw [hlen]; have := HL.out; omega)
      rw [hlen] at hsort
      have HSO := Lib.hid hsort
      have HX := Lib.hid (And.intro hl0 (And.intro hnc hcm))
      clear h0 hl0 hbs hM hB hO hrg hk hkc hcoll hbase hg hnc hcm hsz htk hlen hsort
      go_wp2_with fail
      refine HSO.out.mono ?_
      rintro e w5 ⟨rfl, l', hperm, hsorted, hr5, hk5, hlt5⟩
      obtain ⟨hbs, hM, hB, hO, hrg⟩ := HR.out
      obtain ⟨hk, hkc, hcoll⟩ := HK.out
      obtain ⟨cs', hp', rfl⟩ := perm_of_map Prod.fst hperm cs rfl
      have hdone := hcoll.done HX.out.1 hM.rise hp' (by
        have := hsorted
        rw [List.pairwise_map] at this
        exact this)
      have hlen : (prs l).length = k := by rw [← hdone, List.length_map, hp'.length_eq, hk]
      have hk5' : Keeps (fun i => i = w.heap.size) w5 w5 := Keeps.refl _ _
      have hbs5 : ∀ c ∈ cs', BytesAt w5 (peV c.1) c.2 := fun c hc => by
        have hc0 := hp'.mem_iff.1 hc
        obtain ⟨hb0, hb1⟩ := hbs c hc0
        exact bytes_keep hk5 hb0 (fun i hi hx => by have := hb1 i hi; omega)
      have hP : PairsAt w5 (.slice (some ⟨w.heap.size, 0, none⟩) k N) (prs l) := ⟨_, N, cs', by rw [hlen], by rw [hlen]; exact HX.out.2.1, HX.out.2.2, hdone, hbs5, .inr ⟨_, 0, rfl, hr5⟩⟩
      have hB5 : Below w.heap.size w w5 := hB.trans (hk5.below hB.size (fun k hk => by rw [hk]; exact Nat.le_refl _))
      have H5 := Lib.hid (And.intro hP hB5)
      clear hP hB5 hbs5 hk5' hlen hdone hp' hbs hM hB hO hrg hk hkc hcoll hperm hsorted hr5 hk5 hlt5 HSO HX HK HR
      go_wp2_with (go_at_call 56; refine (clip_pairs w5 _ (prs l) H5.out.1).mono ?_; rintro e w6 ⟨v', rfl, hP6, rfl⟩; have H6 := Lib.hid hP6; clear hP6)
      refine bodyPost_ret (results_tmp rfl _ _ _) rfl ?_
      exact ⟨_, rfl, H6.out, H5.out.2⟩
    case refine_2 =>
      intro x ad m c kl y ps w4 cnt4 hkey hleft hR hat hrg4 hlt4 hg4 hs4 hen
      obtain ⟨x', hx', rfl⟩ := keyOf_inv hkey
      obtain rfl : x = x' := sv_inj hx'
      have hy : y = .held (.slice ad m c) := by
        simp only [rEl, Option.some.injEq, Prod.mk.injEq] at hR
        exact hR.1.symm
      subst hy
      obtain ⟨e0, he0, rfl, hev⟩ := at_found hat
      obtain ⟨hbs, hM, hB, hO, hrg⟩ := HR.out
      obtain ⟨hk, hkc, hcoll⟩ := HK.out
      have kk : Keeps (fun i => i = q) wr w4 := Keeps.of_grown hg4 (fun k hk => by cases hk; rfl)
      have hon := on_iter hrg
      have hM4 := hM.maps hon kk (by have := HQ.out; omega)
      have hv4 : BytesAt w4 (.slice ad m c) e0.2.2 := by rw [← hev]; exact (hM4.vals e0 he0).1
      have hlen4 : e0.2.2.length ≤ 256 := (hM4.vals e0 he0).2.2
      have hbs4 : ∀ c ∈ cs, BytesAt w4 (peV c.1) c.2 ∧ ∀ i, (peV c.1).ownBlock = some i → w.heap.size < i := fun c hc => ⟨bytes_maps hon kk (hbs c hc).1, (hbs c hc).2⟩
      have hB4 : Below w.heap.size w w4 := hB.trans (kk.below hB.size (fun k hk => by rw [hk]; exact Nat.le_of_lt HQ.out.1))
      have hO4 := kk.owns hO (fun k hk hx => by simp only [Value.ownBlock, Option.some.injEq] at hk; have := HQ.out; omega)
      have hmem : (e0.1, e0.2.2) ∈ prs l := List.mem_map.2 ⟨e0, he0, rfl⟩
      have hle := hrg4.left_eq
      have H4 := Lib.hid (And.intro hM4 (And.intro hv4 (And.intro hlen4 (And.intro hbs4 (And.intro hB4 (And.intro hO4 hrg4))))))
      have HY := Lib.hid (And.intro hleft (And.intro hmem (And.intro hlt4 (And.intro hrg.left_eq hs4))))
      have hsz4 : w.heap.size < w4.heap.size := own_lt hO4 rfl
      have HS4 := Lib.hid hsz4
      clear hkey hleft hR hat hrg4 hlt4 hg4 hs4 hev hx' hbs hM hB hO hrg hk hkc hcoll kk hon hM4 hv4 hlen4 hbs4 hB4 hO4 hmem hle HR hsz4
      generalize e0.2.2 = bs at *
      generalize e0.1 = x at *
      clear he0 e0
      go_wp2_with (refine wpList_var_sum (by rfl) rfl _ _ rfl x rfl rfl ?_; intro W6 hb6 hr6 _; have H6 := Lib.hid (And.intro hb6 hr6); clear hb6 hr6 hen)
      obtain ⟨z, hz⟩ : ∃ z, z = w4.heap.size := ⟨_, rfl⟩
      have hP : PR w p b n q z l N k cs (fun z => left z && !z.sameKey (.string x.toList)) cnt4 x (.slice ad m c) bs W6 := by
        obtain ⟨h1, h2, h3, h4, h5, h6, h7⟩ := H4.out
        have hb := H6.out.1
        have kk : Keeps (fun _ => False) w4 W6 := Keeps.of_below hb
        exact ⟨h1.below hb, bytes_below h2 hb (Nat.le_refl _), fun c hc => ⟨bytes_below (h4 c hc).1 hb (Nat.le_refl _), (h4 c hc).2⟩, h5.trans (hb.mono h5.size), kk.owns h6 (fun _ _ h => h), h7.kept (grown_below hb) (by simp) (by simp), by rw [hz]; exact H6.out.2, Nat.lt_of_lt_of_le HS4.out hb.size⟩
      have HP := Lib.hid hP.drew
      have HBL := Lib.hid H4.out.2.2.1
      rw [← hz]
      clear hP H4 H6 hz
      obtain ⟨lf, hlf⟩ : ∃ f : Lit → Bool, f = fun z => left z && !z.sameKey (.string x.toList) := ⟨_, rfl⟩
      rw [← hlf] at HP
      have HLF := Lib.hid hlf
      clear hlf
      refine wp_region_sched (fun V => PR w p b n q z l N k cs lf cnt4 x (.slice ad m c) bs V) [.t 0, .t 2, .s 1, .e 3 true, .e 4 true, .t 5, .e 6 false, .e 7 false, .t 8] (by kernel_rfl) (by kernel_rfl) (by intro c a d v w h; cases d <;> exact h) ?_
      change wpS _ _ _ _ _ _ _ (World.drew _)
      generalize W6.drew = V at *
      iterate 2
        refine wpS_t rfl (v := ?_) (by rfl) (fun W => ?_) ?_
        rotate_left
        · go_simp
          try rfl
        try simp only [Act.put, List.setIfInBounds_toArray, List.set_cons_zero, List.set_cons_succ]
      refine wpS_load_sum HP.out rfl (by rfl) _ (by rfl) z 0 (by rfl) x (fun W hW => hW.key) ?_
      try simp only [Act.put, List.setIfInBounds_toArray, List.set_cons_zero, List.set_cons_succ]
      refine wpS_k rfl (by rfl) (fun K hK => ?_)
      go_simp
      refine (clone_bytes V _ bs HP.out.val (by have := HBL.out; omega)).mono ?_
      rintro e V1 ⟨v1, rfl, hn1, hb1⟩
      have HP1 := Lib.hid (HP.out.next hb1)
      have HN1 := Lib.hid (show BytesNew V1 V.heap.size v1 bs from hn1)
      have hlv := HP.out.lt
      have HLV := Lib.hid hlv
      clear hn1 hb1 HP hlv
      refine hK _ _ ⟨by exact HP1.out, ?_⟩; clear hK K
      try simp only [Act.put, List.setIfInBounds_toArray, List.set_cons_zero, List.set_cons_succ]
      refine wpS_k rfl (by rfl) (fun K hK => ?_)
      go_simp
      refine (clip_bytes V1 V.heap.size v1 bs HN1.out).mono ?_
      rintro e V2 ⟨v2, rfl, hn2, rfl⟩
      obtain ⟨⟨ad2, cap2, rfl, h21, h22, h23⟩, h24⟩ := hn2
      have HN2 := Lib.hid (And.intro (show BytesAt V1 (peV (x, ad2, bs.length, cap2)) bs from ⟨ad2, cap2, rfl, h21, h22, h23⟩) (show ∀ i, (peV (x, ad2, bs.length, cap2)).ownBlock = some i → w.heap.size < i from fun i hi => Nat.lt_of_lt_of_le HLV.out (h24 i hi).1))
      clear h21 h22 h23 h24 HN1 HLV
      refine hK _ _ ⟨by exact HP1.out, ?_⟩; clear hK K
      try simp only [Act.put, List.setIfInBounds_toArray, List.set_cons_zero, List.set_cons_succ]
      refine wpS_t rfl (v := .agg (encP (x, ad2, bs.length, cap2)).toArray) (by rfl) (fun W => exec_build_pair _ rfl (x, ad2, bs.length, cap2) (by rfl) W) ?_
      try simp only [Act.put, List.setIfInBounds_toArray, List.set_cons_zero, List.set_cons_succ]
      obtain ⟨y, hy⟩ : ∃ y : PE, y = (x, ad2, bs.length, cap2) := ⟨_, rfl⟩
      have hyx : y.1 = x := by rw [hy]
      rw [← hy] at HN2 ⊢
      refine wpS_e rfl (by rfl) (fun K hK => ?_)
      refine wp_build_pairs 1 _ (by rfl) [y] rfl (by omega) (by omega) (by rfl) ?_
      have HP2 := Lib.hid (And.intro (HP1.out.next (al (Below.refl _ _) (.cells (cellsP [y]).toArray 41))) (And.intro (bytes_below HN2.out.1 (al (Below.refl _ _) (.cells (cellsP [y]).toArray 41)) (Nat.le_refl _)) (show (V1.alloc (.cells (cellsP [y]).toArray 41)).rangeAt V1.heap.size 0 (encP y) by rw [← cellsP_one]; exact range_new _ _ _ _ rfl)))
      have HYX := Lib.hid (And.intro hy hyx)
      have HN3 := Lib.hid HN2.out.2
      have hlt1 := HP1.out.lt
      have HLT := Lib.hid hlt1
      clear HP1 HN2 hy hyx hlt1
      refine hK _ _ ?_; clear hK K
      try simp only [Act.put, List.setIfInBounds_toArray, List.set_cons_zero, List.set_cons_succ]
      generalize V1.alloc (.cells (cellsP [y]).toArray 41) = V3 at *
      refine wpS_e rfl (by rfl) (fun K hK => ?_)
      refine wp_append_pair_fits _ _ (by rfl) w.heap.size w.heap.size k N (cs.map Prod.fst) (by rfl) HP2.out.1.own V1.heap.size 0 1 y (by rfl) HP2.out.2.2 (by have := HK.out.2.1; have := HY.out.2.2.1; omega) ?_
      intro W7 ho7 hg7
      have kk : Keeps (fun i => i = w.heap.size) V3 W7 := Keeps.of_grown hg7 (fun k hk => by cases hk; rfl)
      have hcs7 : ∀ c ∈ cs ++ [(y, bs)], BytesAt W7 (peV c.1) c.2 ∧ ∀ i, (peV c.1).ownBlock = some i → w.heap.size < i := fun c hc => by
        rcases List.mem_append.1 hc with hc | hc
        · have := HP2.out.1.each c hc
          exact ⟨bytes_keep kk this.1 (fun i hi hx => by have := this.2 i hi; omega), this.2⟩
        · rw [List.mem_singleton] at hc
          subst hc
          exact ⟨bytes_keep kk HP2.out.2.1 (fun i hi hx => by have := HN3.out i hi; omega), HN3.out⟩
      have hM7 : MapIn W7 p b n l := HP2.out.1.map.keep kk (by have := HM.out.lt.1; omega) (by have := HQ.out.2.2; omega) (fun e he k hk hx => by
        have h := HM.out.vals e he
        have := bytes_lt h.1 h.2.1 hk
        omega)
      have hB7 : Below w.heap.size w W7 := HP2.out.1.below.trans (kk.below HP2.out.1.below.size (fun k hk => by rw [hk]; exact Nat.le_refl _))
      have hR7 := HP2.out.1.rng.kept hg7 (by simp; have := HQ.out.2.2; omega) (by simp; have := HQ.out.1; omega)
      rw [HLF.out] at hR7
      have hle := hR7.left_eq
      have H7 := Lib.hid (And.intro hcs7 (And.intro hM7 (And.intro hB7 (And.intro ho7 (And.intro hR7 hle)))))
      clear kk hcs7 hM7 hB7 hR7 hle hg7 ho7
      refine hK _ _ ?_; clear hK K
      try simp only [Act.put, List.setIfInBounds_toArray, List.set_cons_zero, List.set_cons_succ]
      iterate 1
        refine wpS_t rfl (v := ?_) (by rfl) (fun W => ?_) ?_
        rotate_left
        · go_simp
          try rfl
        try simp only [Act.put, List.setIfInBounds_toArray, List.set_cons_zero, List.set_cons_succ]
      refine wpS_done ?_
      go_wp2_with fail
      refine ⟨⟨_, cnt4, k + 1, cs ++ [(y, bs)], rfl, by rw [List.length_append, HK.out.1]; rfl, by have := HK.out.2.1; have := HY.out.2.2.1; omega, HK.out.2.2.step HY.out.1 HYX.out.2 HY.out.2.1, H7.out.1, H7.out.2.1, H7.out.2.2.1, by rw [List.map_append]; exact H7.out.2.2.2.1, H7.out.2.2.2.2.1⟩, ?_⟩
      rw [H7.out.2.2.2.2.2, HY.out.2.2.2.1]
      exact HY.out.2.2.1
end Go.Proofs.YtfmgoehnbaiamaaGreatDoor
-- Plain: a walk cut in two: the code behind a place behind a letter.
open Go Go.RowKit
namespace Alm
/-- The code behind n steps of a row. -/
def dropN : Nat → Code → Code
  | 0, c => c
  | n + 1, .seq _ b => dropN n b
  | _ + 1, c => c
/-- A row of code, with T in place of what is behind n steps. -/
def cutN : Nat → Code → Code → Code
  | 0, T, _ => T
  | n + 1, T, .seq a b => .seq a (cutN n T b)
  | _ + 1, _, c => c
theorem cutN_drop : ∀ (n : Nat) (c : Code), cutN n (dropN n c) c = c
  | 0, _ => by unfold cutN dropN; rfl
  | n + 1, c => by
    cases c <;> first | (unfold cutN dropN; rw [cutN_drop n]) | (unfold cutN; rfl)
theorem wp_cut {P : Program} {c : Code} {Q : Exit → Act → World → Prop} {a : Act} {w : World} (n : Nat)
    (h : ∀ T, (∀ a' w', Code.wp P (dropN n c) Q a' w' → Code.wp P T Q a' w') → Code.wp P (cutN n T c) Q a w) : Code.wp P c Q a w := by
  have := h (dropN n c) (fun _ _ h => h)
  rwa [cutN_drop] at this
end Alm
