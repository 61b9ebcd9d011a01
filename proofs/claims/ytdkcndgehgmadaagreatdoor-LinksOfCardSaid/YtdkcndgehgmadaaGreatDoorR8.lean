/-
  Walks: the document's sum: Sum.
-/
import Derived.Test.YtdkcndgehgmadaaGreatDoorR5
open Go Go.RowKit Alm
namespace Go.Proofs.YtdkcndgehgmadaaGreatDoor
theorem sum_nums {i t : Nat} (hi : i < 32) (ht : t = 8 * (3 - i % 4)) : Int.tmod (i : Int) 4 = ((i % 4 : Nat) : Int) ∧ wrap64 (8 * ((i % 4 : Nat) : Int)) = ((8 * (i % 4) : Nat) : Int) ∧ wrap64 (24 - ((8 * (i % 4) : Nat) : Int)) = (t : Int) ∧ (t : Int) < 32 ∧ Int.tdiv (i : Int) 4 = ((i / 4 : Nat) : Int) := by
  refine ⟨by rw [Int.tmod_eq_emod_of_nonneg (by omega)]; omega, by unfold wrap64; omega, by unfold wrap64; omega, by omega, by rw [Int.tdiv_eq_ediv_of_nonneg (by omega)]; omega⟩
set_option maxRecDepth 100000 in
set_option maxHeartbeats 2000000 in
theorem refsum_any (s : List UInt32) (w : World) (hs : s.length = 8) : Calls Tryz.prog 175 #[.agg (cells32 s).toArray] w fun e w' => e = .returned (sv (sumBytes (told32 s 32) (length_told32 _ _))) ∧ Below w.heap.size w w' := by
  have h8 := list8 s hs
  have H8 := Lib.hid h8
  have hE : Row32 ((w.alloc (.cells (cells32 s).toArray 216)).alloc (.cells (cells8 (List.replicate 32 0)).toArray 24)) w.heap.size 216 s := (Row32.new _ rfl rfl).alloc _
  have e0 := hE.cell (i := 0) (by omega)
  have e1 := hE.cell (i := 1) (by omega)
  have e2 := hE.cell (i := 2) (by omega)
  have e3 := hE.cell (i := 3) (by omega)
  have e4 := hE.cell (i := 4) (by omega)
  have e5 := hE.cell (i := 5) (by omega)
  have e6 := hE.cell (i := 6) (by omega)
  have e7 := hE.cell (i := 7) (by omega)
  have hs2 : s = [s.getD 0 0, s.getD 1 0, s.getD 2 0, s.getD 3 0, s.getD 4 0, s.getD 5 0, s.getD 6 0, s.getD 7 0] := h8
  obtain ⟨x0, h0⟩ : ∃ x, x = s.getD 0 0 := ⟨_, rfl⟩
  obtain ⟨x1, h1⟩ : ∃ x, x = s.getD 1 0 := ⟨_, rfl⟩
  obtain ⟨x2, h2⟩ : ∃ x, x = s.getD 2 0 := ⟨_, rfl⟩
  obtain ⟨x3, h3⟩ : ∃ x, x = s.getD 3 0 := ⟨_, rfl⟩
  obtain ⟨x4, h4⟩ : ∃ x, x = s.getD 4 0 := ⟨_, rfl⟩
  obtain ⟨x5, h5⟩ : ∃ x, x = s.getD 5 0 := ⟨_, rfl⟩
  obtain ⟨x6, h6⟩ : ∃ x, x = s.getD 6 0 := ⟨_, rfl⟩
  obtain ⟨x7, h7⟩ : ∃ x, x = s.getD 7 0 := ⟨_, rfl⟩
  rw [← h0] at e0 hs2
  rw [← h1] at e1 hs2
  rw [← h2] at e2 hs2
  rw [← h3] at e3 hs2
  rw [← h4] at e4 hs2
  rw [← h5] at e5 hs2
  rw [← h6] at e6 hs2
  rw [← h7] at e7 hs2
  have HS := Lib.hid hs2
  clear hs hE h8 H8 h0 h1 h2 h3 h4 h5 h6 h7 hs2
  have hB0 : Below w.heap.size w ((w.alloc (.cells (cells32 s).toArray 216)).alloc (.cells (cells8 (List.replicate 32 0)).toArray 24)) := al (al (Below.refl _ _) _) _
  have hth0 : ((w.alloc (.cells (cells32 s).toArray 216)).alloc (.cells (cells8 (List.replicate 32 0)).toArray 24)).there (w.heap.size + 1) 0 32 := by
    have := there_new (w.alloc (.cells (cells32 s).toArray 216)) (cells8 (List.replicate 32 0)).toArray 24
    rwa [World.size_alloc] at this
  have HB0 := Lib.hid (And.intro hB0 (And.intro hth0 (show ((w.alloc (.cells (cells32 s).toArray 216)).alloc (.cells (cells8 (List.replicate 32 0)).toArray 24)).heap.size = w.heap.size + 2 by rw [World.size_alloc, World.size_alloc])))
  clear hB0 hth0
  go_enter Tryz.func175, Tryz.ntmps175
  refine wp_cut 1 ?_
  intro T hT
  dsimp only [cutN]
  replace hT := Lib.hid hT
  go_wp2_with fail
  refine hT.out _ _ ?_
  clear hT
  dsimp only [dropN]
  change Code.wp _ _ _ _ ((w.alloc (.cells (cells32 s).toArray 216)).alloc (.cells (cells8 (List.replicate 32 0)).toArray 24))
  generalize hW : (w.alloc (.cells (cells32 s).toArray 216)).alloc (.cells (cells8 (List.replicate 32 0)).toArray 24) = W at *
  clear hW
  go_wp2_with fail
  have hL0 : Row32 ((W.alloc (.cells (cells32 s).toArray 185)).alloc (.cells (cells8 (List.replicate 32 0)).toArray 24)) W.heap.size 185 s := (Row32.new _ rfl rfl).alloc _
  have hO0 : Row8 ((W.alloc (.cells (cells32 s).toArray 185)).alloc (.cells (cells8 (List.replicate 32 0)).toArray 24)) (W.heap.size + 1) 24 (told32 s 0) := Row8.new _ rfl (by rw [World.size_alloc])
  have hB1 : Below w.heap.size w ((W.alloc (.cells (cells32 s).toArray 185)).alloc (.cells (cells8 (List.replicate 32 0)).toArray 24)) := al (al HB0.out.1 _) _
  have hT1 : ((W.alloc (.cells (cells32 s).toArray 185)).alloc (.cells (cells8 (List.replicate 32 0)).toArray 24)).there (w.heap.size + 1) 0 32 := World.there_alloc (World.there_alloc HB0.out.2.1 _) _
  rw [show (cells32 s) = cells32 [x0, x1, x2, x3, x4, x5, x6, x7] by rw [HS.out]] at hL0 hO0 hB1 hT1
  have H0 := Lib.hid (And.intro hL0 (And.intro hO0 (And.intro hB1 hT1)))
  have HW := Lib.hid HB0.out.2.2
  clear hL0 hO0 hB1 hT1 HB0 e0 e1 e2 e3 e4 e5 e6 e7
  have hlen : s.length = 8 := by rw [HS.out]; rfl
  go_loopw [5] (fun v V => ∃ i : Nat, i ≤ 32 ∧ v = .int .i64 (i : Int) ∧ Row32 V W.heap.size 185 s ∧ Row8 V (W.heap.size + 1) 24 (told32 s i) ∧ Below w.heap.size w V ∧ V.there (w.heap.size + 1) 0 32) (fun v _ => 32 - (intOf v).toNat)
  case atStart => exact ⟨0, by omega, rfl, H0.out⟩
  case round =>
    clear H0
    obtain ⟨i, hi, rfl, hL, hO, hB, hT⟩ := hrel
    by_cases hlt : i < 32
    · have c5 := hL.cell (i := i / 4) (by omega)
      have hl2 := length_told32 s i
      have c6 := hO.cell (i := i) (by omega)
      have f6 := hO.free i
      have hset := hO.set i (UInt8.ofNat ((s.getD (i / 4) 0).toNat >>> (8 * (3 - i % 4))))
      have hold : (told32 s i).set i (UInt8.ofNat ((s.getD (i / 4) 0).toNat >>> (8 * (3 - i % 4)))) = told32 s (i + 1) := rfl
      rw [hold] at hset
      clear hold hl2
      generalize (told32 s i).getD i 0 = old at c6
      generalize s.getD (i / 4) 0 = x at *
      obtain ⟨t, ht⟩ : ∃ t, t = 8 * (3 - i % 4) := ⟨_, rfl⟩
      rw [← ht] at hset
      obtain ⟨n1, n2, n3, n4, n5⟩ := sum_nums hlt ht
      have hx : uv x / 2 ^ t % 256 = (((UInt8.ofNat (x.toNat >>> t)).toNat : Nat) : Int) := by
        rw [UInt8.toNat_ofNat', Nat.shiftRight_eq_div_pow]; unfold uv; push_cast; rfl
      have Hx := Lib.hid hx
      have HSE := Lib.hid (And.intro hset (And.intro hB hT))
      have hi' : (i : Int) < 32 := by omega
      have hi0 : (0 : Int) ≤ (i : Int) := by omega
      have HLL := Lib.hid (And.intro hL hlt)
      clear hset hB hT hx ht hL hO hlen
      obtain ⟨d4, hd4⟩ : ∃ d, d = i / 4 := ⟨_, rfl⟩
      obtain ⟨m4, hm4⟩ : ∃ d, d = i % 4 := ⟨_, rfl⟩
      obtain ⟨k4, hk4⟩ : ∃ d, d = 8 * m4 := ⟨_, rfl⟩
      rw [← hm4] at n1 n2 n3
      rw [← hk4] at n2 n3
      rw [← hd4] at n5 c5
      have hd8 : (d4 : Int) < 8 := by omega
      clear hd4 hm4 hk4
      go_wp2_with fail
      rw [Hx.out]
      have hsb : w.heap.size ≤ W.heap.size + 1 := by have := HW.out; omega
      have h5 := HSE.out
      have h6 := HLL.out
      clear HSE HLL Hx n1 n2 n3 n4 n5 c5 c6 f6 hd8
      exact ⟨⟨i + 1, h6.2, rfl, h6.1.other _ _ (by simp), h5.1, h5.2.1.setCell hsb _, World.there_setCells h5.2.2 (W.heap.size + 1) i [_]⟩, by simp only [intOf]; omega⟩
    · obtain rfl : i = 32 := by omega
      have hrg : wr.rangeAt (W.heap.size + 1) 0 (cellsOf (sumBytes (told32 s 32) (length_told32 _ _))) := by rw [cellsOf_sumBytes]; exact hO.range
      have HG := Lib.hid (And.intro hrg (And.intro hT hB))
      clear hrg hT hB hO hL
      go_wp2_with (first
        | (refine wpList_load_sum rfl _ rfl (W.heap.size + 1) 0 rfl (sumBytes (told32 s 32) (length_told32 _ _)) HG.out.1 ?_)
        | (refine wpList_store_sum rfl _ _ rfl (w.heap.size + 1) 0 (sumBytes (told32 s 32) (length_told32 _ _)) rfl rfl HG.out.2.1 ?_))
      exact bodyPost_ret (results_sum Tryz.results175 _ _ _ _ rfl (World.there_setCells HG.out.2.1 _ _ _)) rfl ⟨rfl, setCells_below _ (Nat.le_succ _) _ _ _ _ HG.out.2.2⟩
end Go.Proofs.YtdkcndgehgmadaaGreatDoor
