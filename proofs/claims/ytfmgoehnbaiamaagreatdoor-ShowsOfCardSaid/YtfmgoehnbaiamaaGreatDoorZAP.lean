/-
  Joined: R8, W6.
-/
import Derived.Test.YtfmgoehnbaiamaaGreatDoorR5
import Derived.Test.YtfmgoehnbaiamaaGreatDoorZAL
import Derived.Lib.AppendZeros
-- Walks: the document's sum: Sum.
open Go Go.RowKit Alm
namespace Go.Proofs.YtfmgoehnbaiamaaGreatDoor
theorem sum_nums {i t : Nat} (hi : i < 32) (ht : t = 8 * (3 - i % 4)) : Int.tmod (i : Int) 4 = ((i % 4 : Nat) : Int) ∧ wrap64 (8 * ((i % 4 : Nat) : Int)) = ((8 * (i % 4) : Nat) : Int) ∧ wrap64 (24 - ((8 * (i % 4) : Nat) : Int)) = (t : Int) ∧ (t : Int) < 32 ∧ Int.tdiv (i : Int) 4 = ((i / 4 : Nat) : Int) := by
  refine ⟨by rw [Int.tmod_eq_emod_of_nonneg (by omega)]; omega, by unfold wrap64; omega, by unfold wrap64; omega, by omega, by rw [Int.tdiv_eq_ediv_of_nonneg (by omega)]; omega⟩
set_option maxRecDepth 100000 in
set_option maxHeartbeats 2000000 in
theorem refsum_any (s : List UInt32) (w : World) (hs : s.length = 8) : Calls Tryz.prog 159 #[.agg (cells32 s).toArray] w fun e w' => e = .returned (sv (sumBytes (told32 s 32) (length_told32 _ _))) ∧ Below w.heap.size w w' := by
  have h8 := list8 s hs
  have H8 := Lib.hid h8
  have hE : Row32 ((w.alloc (.cells (cells32 s).toArray 201)).alloc (.cells (cells8 (List.replicate 32 0)).toArray 24)) w.heap.size 201 s := (Row32.new _ rfl rfl).alloc _
  have e0 := hE.cell (i := 0) (by omega)
  have e1 := hE.cell (i := 1) (by omega)
  have e2 := hE.cell (i := 2) (by omega)
  have e3 := hE.cell (i := 3) (by omega)
  have e4 := hE.cell (i := 4) (by omega)
  have e5 := hE.cell (i := 5) (by omega)
  have e6 := hE.cell (i := 6) (by omega)
  have e7 := hE.cell (i := 7) (by omega)
  have hs2 : s = [s.getD 0 0, s.getD 1 0, s.getD 2 0, s.getD 3 0, s.getD 4 0, s.getD 5 0, s.getD 6 0, s.getD 7 0] := h8
  obtain ⟨x0, h0⟩ : ∃ x, x = s.getD 0 0 := ⟨_, rfl⟩
  obtain ⟨x1, h1⟩ : ∃ x, x = s.getD 1 0 := ⟨_, rfl⟩
  obtain ⟨x2, h2⟩ : ∃ x, x = s.getD 2 0 := ⟨_, rfl⟩
  obtain ⟨x3, h3⟩ : ∃ x, x = s.getD 3 0 := ⟨_, rfl⟩
  obtain ⟨x4, h4⟩ : ∃ x, x = s.getD 4 0 := ⟨_, rfl⟩
  obtain ⟨x5, h5⟩ : ∃ x, x = s.getD 5 0 := ⟨_, rfl⟩
  obtain ⟨x6, h6⟩ : ∃ x, x = s.getD 6 0 := ⟨_, rfl⟩
  obtain ⟨x7, h7⟩ : ∃ x, x = s.getD 7 0 := ⟨_, rfl⟩
  rw [← h0] at e0 hs2
  rw [← h1] at e1 hs2
  rw [← h2] at e2 hs2
  rw [← h3] at e3 hs2
  rw [← h4] at e4 hs2
  rw [← h5] at e5 hs2
  rw [← h6] at e6 hs2
  rw [← h7] at e7 hs2
  have HS := Lib.hid hs2
  clear hs hE h8 H8 h0 h1 h2 h3 h4 h5 h6 h7 hs2
  have hB0 : Below w.heap.size w ((w.alloc (.cells (cells32 s).toArray 201)).alloc (.cells (cells8 (List.replicate 32 0)).toArray 24)) := al (al (Below.refl _ _) _) _
  have hth0 : ((w.alloc (.cells (cells32 s).toArray 201)).alloc (.cells (cells8 (List.replicate 32 0)).toArray 24)).there (w.heap.size + 1) 0 32 := by
    have := there_new (w.alloc (.cells (cells32 s).toArray 201)) (cells8 (List.replicate 32 0)).toArray 24
    rwa [World.size_alloc] at this
  have HB0 := Lib.hid (And.intro hB0 (And.intro hth0 (show ((w.alloc (.cells (cells32 s).toArray 201)).alloc (.cells (cells8 (List.replicate 32 0)).toArray 24)).heap.size = w.heap.size + 2 by rw [World.size_alloc, World.size_alloc])))
  clear hB0 hth0
  go_enter Tryz.func159, Tryz.ntmps159
  refine wp_cut 1 ?_
  intro T hT
  dsimp only [cutN]
  replace hT := Lib.hid hT
  go_wp2_with fail
  refine hT.out _ _ ?_
  clear hT
  dsimp only [dropN]
  change Code.wp _ _ _ _ ((w.alloc (.cells (cells32 s).toArray 201)).alloc (.cells (cells8 (List.replicate 32 0)).toArray 24))
  generalize hW : (w.alloc (.cells (cells32 s).toArray 201)).alloc (.cells (cells8 (List.replicate 32 0)).toArray 24) = W at *
  clear hW
  go_wp2_with fail
  have hL0 : Row32 ((W.alloc (.cells (cells32 s).toArray 160)).alloc (.cells (cells8 (List.replicate 32 0)).toArray 24)) W.heap.size 160 s := (Row32.new _ rfl rfl).alloc _
  have hO0 : Row8 ((W.alloc (.cells (cells32 s).toArray 160)).alloc (.cells (cells8 (List.replicate 32 0)).toArray 24)) (W.heap.size + 1) 24 (told32 s 0) := Row8.new _ rfl (by rw [World.size_alloc])
  have hB1 : Below w.heap.size w ((W.alloc (.cells (cells32 s).toArray 160)).alloc (.cells (cells8 (List.replicate 32 0)).toArray 24)) := al (al HB0.out.1 _) _
  have hT1 : ((W.alloc (.cells (cells32 s).toArray 160)).alloc (.cells (cells8 (List.replicate 32 0)).toArray 24)).there (w.heap.size + 1) 0 32 := World.there_alloc (World.there_alloc HB0.out.2.1 _) _
  rw [show (cells32 s) = cells32 [x0, x1, x2, x3, x4, x5, x6, x7] by rw [HS.out]] at hL0 hO0 hB1 hT1
  have H0 := Lib.hid (And.intro hL0 (And.intro hO0 (And.intro hB1 hT1)))
  have HW := Lib.hid HB0.out.2.2
  clear hL0 hO0 hB1 hT1 HB0 e0 e1 e2 e3 e4 e5 e6 e7
  have hlen : s.length = 8 := by rw [HS.out]; rfl
  go_loopw [5] (fun v V => ∃ i : Nat, i ≤ 32 ∧ v = .int .i64 (i : Int) ∧ Row32 V W.heap.size 160 s ∧ Row8 V (W.heap.size + 1) 24 (told32 s i) ∧ Below w.heap.size w V ∧ V.there (w.heap.size + 1) 0 32) (fun v _ => 32 - (intOf v).toNat)
  case atStart => exact ⟨0, by omega, rfl, H0.out⟩
  case round =>
    clear H0
    obtain ⟨i, hi, rfl, hL, hO, hB, hT⟩ := hrel
    by_cases hlt : i < 32
    · have c5 := hL.cell (i := i / 4) (by omega)
      have hl2 := length_told32 s i
      have c6 := hO.cell (i := i) (by omega)
      have f6 := hO.free i
      have hset := hO.set i (UInt8.ofNat ((s.getD (i / 4) 0).toNat >>> (8 * (3 - i % 4))))
      have hold : (told32 s i).set i (UInt8.ofNat ((s.getD (i / 4) 0).toNat >>> (8 * (3 - i % 4)))) = told32 s (i + 1) := rfl
      rw [hold] at hset
      clear hold hl2
      generalize (told32 s i).getD i 0 = old at c6
      generalize s.getD (i / 4) 0 = x at *
      obtain ⟨t, ht⟩ : ∃ t, t = 8 * (3 - i % 4) := ⟨_, rfl⟩
      rw [← ht] at hset
      obtain ⟨n1, n2, n3, n4, n5⟩ := sum_nums hlt ht
      have hx : uv x / 2 ^ t % 256 = (((UInt8.ofNat (x.toNat >>> t)).toNat : Nat) : Int) := by
        rw [UInt8.toNat_ofNat', Nat.shiftRight_eq_div_pow]; unfold uv; push_cast; rfl
      have Hx := Lib.hid hx
      have HSE := Lib.hid (And.intro hset (And.intro hB hT))
      have hi' : (i : Int) < 32 := by omega
      have hi0 : (0 : Int) ≤ (i : Int) := by omega
      have HLL := Lib.hid (And.intro hL hlt)
      clear hset hB hT hx ht hL hO hlen
      obtain ⟨d4, hd4⟩ : ∃ d, d = i / 4 := ⟨_, rfl⟩
      obtain ⟨m4, hm4⟩ : ∃ d, d = i % 4 := ⟨_, rfl⟩
      obtain ⟨k4, hk4⟩ : ∃ d, d = 8 * m4 := ⟨_, rfl⟩
      rw [← hm4] at n1 n2 n3
      rw [← hk4] at n2 n3
      rw [← hd4] at n5 c5
      have hd8 : (d4 : Int) < 8 := by omega
      clear hd4 hm4 hk4
      go_wp2_with fail
      rw [Hx.out]
      have hsb : w.heap.size ≤ W.heap.size + 1 := by have := HW.out; omega
      have h5 := HSE.out
      have h6 := HLL.out
      clear HSE HLL Hx n1 n2 n3 n4 n5 c5 c6 f6 hd8
      exact ⟨⟨i + 1, h6.2, rfl, h6.1.other _ _ (by simp), h5.1, h5.2.1.setCell hsb _, World.there_setCells h5.2.2 (W.heap.size + 1) i [_]⟩, by simp only [intOf]; omega⟩
    · obtain rfl : i = 32 := by omega
      have hrg : wr.rangeAt (W.heap.size + 1) 0 (cellsOf (sumBytes (told32 s 32) (length_told32 _ _))) := by rw [cellsOf_sumBytes]; exact hO.range
      have HG := Lib.hid (And.intro hrg (And.intro hT hB))
      clear hrg hT hB hO hL
      go_wp2_with (first
        | (refine wpList_load_sum rfl _ rfl (W.heap.size + 1) 0 rfl (sumBytes (told32 s 32) (length_told32 _ _)) HG.out.1 ?_)
        | (refine wpList_store_sum rfl _ _ rfl (w.heap.size + 1) 0 (sumBytes (told32 s 32) (length_told32 _ _)) rfl rfl HG.out.2.1 ?_))
      exact bodyPost_ret (results_sum Tryz.results159 _ _ _ _ rfl (World.there_setCells HG.out.2.1 _ _ _)) rfl ⟨rfl, setCells_below _ (Nat.le_succ _) _ _ _ _ HG.out.2.2⟩
end Go.Proofs.YtfmgoehnbaiamaaGreatDoor
-- Walks: slices.Grow of no bytes, slices.Concat of parts of bytes.
namespace Go.Proofs.YtfmgoehnbaiamaaGreatDoor
set_option maxRecDepth 100000 in
theorem grow_any (n : Nat) (w : World) (hn : 1 ≤ n) (hl : n ≤ 140737488355328) : Calls Tryz.prog 174 #[.slice none 0 0, .int .i64 n] w fun e w' => ∃ v, e = .returned v ∧ w'.ownsRow w.heap.size 5 1 v 0 [] ∧ Below w.heap.size w w' := by
  obtain ⟨i0, hi0, hz0⟩ := Option.map_eq_some_iff.1 infoByteZ
  simp only [Prod.mk.injEq] at hz0
  have happ := Lib.run_append_nil_zeros (P := Tryz.prog) w 39 3 39 5 i0 (.int .u8 0) .i64 .i64 Tryz.underlying39 Tryz.underlying3 hi0 hz0.1 n (by omega) (by omega) (by omega) (by rw [hz0.2.2]; omega)
  generalize hcap : grownCap w n 0 5 = cap2 at happ
  have hcapge : n ≤ cap2 := by rw [← hcap]; exact grownCap_ge w _ 0 _
  have hcaple : cap2 ≤ maxLen := by rw [← hcap]; exact grownCap_le_maxLen w _ 0 _ (by unfold maxLen; omega)
  generalize hZ : (Builtin.zeroCells (Value.int .u8 0).cells n ++ Builtin.zeroCells (Value.int .u8 0).cells (cap2 - n)) = Z at happ
  have hZs : Z.size = cap2 := by rw [← hZ]; simp [size_zeroCells, Value.cells]; omega
  have HC := Lib.hid hcaple; clear hcaple hcap hZ hi0 hz0
  have HZ := Lib.hid hZs; clear hZs
  have hn' : (1 : Int) ≤ (n : Int) := by omega
  go_enter Tryz.func174, Tryz.ntmps174
  go_wp2_with (at_builtin; refine Lib.wpList_append_run _ rfl _ _ _ _ rfl _ _ rfl rfl _ _ happ ?_)
  exact bodyPost_ret (results_tmp rfl _ _ _) rfl ⟨_, rfl, ⟨by simp, .inr ⟨_, cap2, Z, rfl, Nat.le_refl _, heap_alloc_new w _, Nat.zero_le _, HC.out, by rw [Nat.mul_one]; exact HZ.out, by simp⟩⟩, (al (Below.refl _ _) _).drew⟩
theorem flat_take (ls : List (List UInt8)) (j : Nat) (h : j < ls.length) : (ls.take (j + 1)).flatten = (ls.take j).flatten ++ ls.getD j [] := by
  rw [List.take_add_one, List.flatten_append, List.getElem?_eq_getElem h]; simp [h]
theorem flat_take_le (ls : List (List UInt8)) (j : Nat) : (ls.take j).flatten.length ≤ ls.flatten.length := by
  conv => rhs; rw [← List.take_append_drop j ls, List.flatten_append, List.length_append]
  omega
theorem own_mono {w : World} {base base' : Nat} {e : TypeId} {size : Nat} {v : Value} {n : Nat} {xs : List Value} (h : w.ownsRow base' e size v n xs) (hb : base ≤ base') : w.ownsRow base e size v n xs := by
  refine ⟨h.1, ?_⟩
  rcases h.2 with h2 | ⟨g, cap, cur, h3, h4, h5⟩
  · exact .inl h2
  · exact .inr ⟨g, cap, cur, h3, Nat.le_trans hb h4, h5⟩
theorem own_base {w : World} {base : Nat} {e : TypeId} {size : Nat} {v : Value} {n : Nat} {xs : List Value} (h : w.ownsRow base e size v n xs) : ∀ k, v.ownBlock = some k → base ≤ k := by
  intro k hk
  rcases h.2 with ⟨rfl, _⟩ | ⟨g, cap, cur, rfl, h4, _⟩
  · cases hk
  · simp only [Value.ownBlock, Option.some.injEq] at hk; omega
theorem own_range {w : World} {base : Nat} {e : TypeId} {size : Nat} {v : Value} {n : Nat} {xs : List Value} (h : w.ownsRow base e size v n xs) (hn : 1 ≤ n) : ∃ g cap, v = .slice (some ⟨g, 0, none⟩) n cap ∧ n ≤ cap ∧ cap ≤ maxLen ∧ base ≤ g ∧ w.rangeAt g 0 xs := by
  rcases h.2 with ⟨rfl, h0⟩ | ⟨g, cap, cur, rfl, h4, hg, hnc, hcm, hsz, htk⟩
  · omega
  · refine ⟨g, cap, rfl, hnc, hcm, h4, fun j v hj => ?_⟩
    rw [cell_of_row w g _ cur e (0, 0) hg, Nat.zero_add]
    rw [← htk, List.getElem?_take] at hj
    split at hj
    · simpa using hj
    · cases hj
theorem bytes_own {w : World} {base : Nat} {e : TypeId} {v : Value} {l : List UInt8} (h : w.ownsRow base e 1 v l.length (cells8 l)) (hn : 1 ≤ l.length) : BytesAt w v l := by
  obtain ⟨g, cap, rfl, h1, h2, _, h3⟩ := own_range h hn
  exact ⟨_, cap, rfl, h1, h2, .inr ⟨_, _, rfl, h3⟩⟩
/-- Parts of bytes, each one with something in it, in a row of slices. -/
def PartsAt (w : World) (b o : Nat) (vs : List Value) (ls : List (List UInt8)) : Prop :=
  w.rangeAt b o vs ∧ vs.length = ls.length ∧ ∀ j, j < ls.length → ∃ a n c, vs.getD j undef = .slice (some a) n c ∧ n = (ls.getD j []).length ∧ n ≤ c ∧ ∃ b' o', a = ⟨b', o', none⟩ ∧ w.rangeAt b' o' (cells8 (ls.getD j [])) ∧ b' < w.heap.size
theorem parts_cell {w : World} {b o : Nat} {vs : List Value} {ls : List (List UInt8)} (h : PartsAt w b o vs ls) {j : Nat} (hj : j < ls.length) : w.cell? ⟨b, o + j, none⟩ = some (vs.getD j undef) := by
  refine h.1 j _ ?_
  have : j < vs.length := by rw [h.2.1]; exact hj
  rw [List.getElem?_eq_getElem this]; simp [this]
set_option maxRecDepth 100000 in
theorem concat_any (vs : List Value) (ls : List (List UInt8)) (b o cap : Nat) (w : World) (h : PartsAt w b o vs ls) (hc : ls.length ≤ cap) (hk : ls.length ≤ 1000) (hpos : 1 ≤ ls.flatten.length) (hl : ls.flatten.length ≤ 140737488355328) :
    Calls Tryz.prog 123 #[.slice (some ⟨b, o, none⟩) ls.length cap] w fun e w' => ∃ v, e = .returned v ∧ BytesAt w' v ls.flatten ∧ Below w.heap.size w w' := by
  obtain ⟨k, hkk⟩ : ∃ k, k = ls.length := ⟨_, rfl⟩
  rw [← hkk] at hc hk ⊢
  have HK := Lib.hid hkk; clear hkk
  have HL := Lib.hid hl; clear hl
  have HP := Lib.hid hpos; clear hpos
  have hk' : (k : Int) ≤ 1000 := by omega
  go_enter Tryz.func123, Tryz.ntmps123
  go_wp2_with fail
  go_loopw [3, 11] (fun s i W => ∃ j : Nat, j ≤ k ∧ i = .int .i64 (j : Int) ∧ s = .int .i64 ((ls.take j).flatten.length : Int) ∧ Below w.heap.size w W) (fun _ i _ => k - (intOf i).toNat)
  case atStart => exact ⟨0, by omega, rfl, rfl, Below.refl _ _⟩
  case round =>
    obtain ⟨j, hj, rfl, rfl, hB⟩ := hrel
    by_cases hlt : j < k
    · have hlt' : (j : Int) < (k : Int) := by omega
      have hc0 := parts_cell h (j := j) (by rw [← HK.out]; exact hlt)
      have hc1 : wr.cell? ⟨b, o + j, none⟩ = some (vs.getD j undef) := (hB.cell (p := ⟨b, o + j, none⟩) (World.block_lt_of_cell? w _ hc0)).trans hc0
      obtain ⟨a, n, c, hv, hn, hnc, -⟩ := h.2.2 j (by rw [← HK.out]; exact hlt)
      rw [hv] at hc1
      clear hc0 hv
      have hft := flat_take ls j (by rw [← HK.out]; exact hlt)
      have hfl := congrArg List.length hft
      rw [List.length_append, ← hn] at hfl
      have hle := flat_take_le ls (j + 1)
      have hmx := HL.out
      obtain ⟨s1, hs1⟩ : ∃ s, s = (ls.take j).flatten.length := ⟨_, rfl⟩
      obtain ⟨s2, hs2⟩ : ∃ s, s = (ls.take (j + 1)).flatten.length := ⟨_, rfl⟩
      rw [← hs1, ← hs2] at hfl
      rw [← hs2] at hle
      rw [← hs1]
      have hsum : IntKind.i64.wrap ((s1 : Int) + (n : Int)) = (s2 : Int) := by rw [IntKind.wrap_i64]; omega
      have HS2 := Lib.hid hs2
      clear hft hn hs1 hs2 hfl hle hmx
      go_wp2_with fail
      exact ⟨⟨j + 1, by omega, by simp, by rw [HS2.out], hB⟩, by simp [intOf]; omega⟩
    · have hjk : j = k := by omega
      subst hjk
      have htk : ls.take j = ls := List.take_of_length_le (by rw [HK.out]; exact Nat.le_refl _)
      rw [htk]
      obtain ⟨T, hT⟩ : ∃ T, T = ls.flatten.length := ⟨_, rfl⟩
      rw [← hT]
      have hT1 : 1 ≤ T := by rw [hT]; exact HP.out
      have hT2 : T ≤ 140737488355328 := by rw [hT]; exact HL.out
      have HT := Lib.hid hT; clear hT
      have Ht := Lib.hid htk; clear htk
      have G := Lib.hid (grow_any T wr hT1 hT2); clear hT1 hT2
      go_wp2_with fail
      refine G.out.mono ?_
      rintro e w1 ⟨v, rfl, ho1, hb1⟩
      obtain ⟨i0, hi0, hz0⟩ := Option.map_eq_some_iff.1 infoByteZ
      simp only [Prod.mk.injEq] at hz0
      have HI := Lib.hid hi0; clear hi0
      have HZ := Lib.hid hz0; clear hz0
      have hB1 : Below w.heap.size w w1 := hB.trans (hb1.mono hB.size)
      have ho1' : w1.ownsRow w.heap.size 5 1 v 0 [] := own_mono ho1 hB.size
      clear ho1 hb1 hB G
      go_wp2_with fail
      go_loopw [6, 27] (fun v i W => ∃ q : Nat, q ≤ j ∧ i = .int .i64 (q : Int) ∧ W.ownsRow w.heap.size 5 1 v (ls.take q).flatten.length (cells8 (ls.take q).flatten) ∧ Below w.heap.size w W) (fun _ i _ => j - (intOf i).toNat)
      case atStart => exact ⟨0, by omega, rfl, ho1', hB1⟩
      case round =>
        clear hB1 ho1'
        obtain ⟨q, hq, rfl, ho2, hB2⟩ := hrel
        by_cases hlt2 : q < j
        · have hlt' : (q : Int) < (j : Int) := by omega
          have hc0 := parts_cell h (j := q) (by rw [← HK.out]; exact hlt2)
          have hc1 := (hB2.cell (p := ⟨b, o + q, none⟩) (World.block_lt_of_cell? w _ hc0)).trans hc0
          obtain ⟨a, n, c, hv, hn, hnc, b', o', rfl, hrg, hb'⟩ := h.2.2 q (by rw [← HK.out]; exact hlt2)
          rw [hv] at hc1
          clear hc0 hv
          have hrg' := range_below hB2 hrg hb'
          have hft := flat_take ls q (by rw [← HK.out]; exact hlt2)
          have hfl := congrArg List.length hft
          rw [List.length_append, ← hn] at hfl
          have hle := flat_take_le ls (q + 1)
          have hmx := HL.out
          have hnn : (ls.take q).flatten.length + n ≤ 140737488355328 := by omega
          have HN := Lib.hid hnn; clear hnn
          have HF := Lib.hid hft; clear hft
          have HFL := Lib.hid hfl; clear hfl
          have HNn := Lib.hid hn; clear hn
          clear hle hmx hrg
          go_wp2_with (at_builtin; refine wpList_append_own _ rfl _ _ _ rfl w.heap.size 5 i0 (.int .u8 0) 1 1 Tryz.underlying39 HI.out HZ.out.1 HZ.out.2.1 HZ.out.2.2 rfl (by decide) _ _ _ rfl ho2 ⟨b', o', none⟩ n c (cells8 (ls.getD q [])) rfl (by rw [length_cells8, HNn.out]; omega) (fun j u hj => by rw [Addr.add_mid]; exact hrg' j u hj) (oneCell_cells8 _) (by unfold maxLen; have := HN.out; omega) (by have := HN.out; omega) hB2.size ?_; intro v' w2 ho3 hg3 _)
          rw [← HFL.out, ← cells8_append, ← HF.out] at ho3
          exact ⟨⟨q + 1, by omega, by simp, ho3, hB2.grown hg3 hB2.size (own_base ho2)⟩, by simp [intOf]; omega⟩
        · have hqj : q = j := by omega
          subst hqj
          rw [Ht.out] at ho2
          go_wp2_with fail
          exact bodyPost_ret (results_tmp rfl _ _ _) rfl ⟨_, rfl, bytes_own ho2 HP.out, hB2⟩
end Go.Proofs.YtfmgoehnbaiamaaGreatDoor
