/-
  Walks: slices.Grow of no bytes, slices.Concat of parts of bytes.
-/
import Derived.Test.YtdkcndgehgmadaaGreatDoorW5
import Derived.Lib.AppendZeros
open Go Go.RowKit Alm
namespace Go.Proofs.YtdkcndgehgmadaaGreatDoor
set_option maxRecDepth 100000 in
theorem grow_any (n : Nat) (w : World) (hn : 1 ≤ n) (hl : n ≤ 140737488355328) : Calls Tryz.prog 181 #[.slice none 0 0, .int .i64 n] w fun e w' => ∃ v, e = .returned v ∧ w'.ownsRow w.heap.size 5 1 v 0 [] ∧ Below w.heap.size w w' := by
  obtain ⟨i0, hi0, hz0⟩ := Option.map_eq_some_iff.1 infoByteZ
  simp only [Prod.mk.injEq] at hz0
  have happ := Lib.run_append_nil_zeros (P := Tryz.prog) w 65 3 65 5 i0 (.int .u8 0) .i64 .i64 Tryz.underlying65 Tryz.underlying3 hi0 hz0.1 n (by omega) (by omega) (by omega) (by rw [hz0.2.2]; omega)
  generalize hcap : grownCap w n 0 5 = cap2 at happ
  have hcapge : n ≤ cap2 := by rw [← hcap]; exact grownCap_ge w _ 0 _
  have hcaple : cap2 ≤ maxLen := by rw [← hcap]; exact grownCap_le_maxLen w _ 0 _ (by unfold maxLen; omega)
  generalize hZ : (Builtin.zeroCells (Value.int .u8 0).cells n ++ Builtin.zeroCells (Value.int .u8 0).cells (cap2 - n)) = Z at happ
  have hZs : Z.size = cap2 := by rw [← hZ]; simp [size_zeroCells, Value.cells]; omega
  have HC := Lib.hid hcaple; clear hcaple hcap hZ hi0 hz0
  have HZ := Lib.hid hZs; clear hZs
  have hn' : (1 : Int) ≤ (n : Int) := by omega
  go_enter Tryz.func181, Tryz.ntmps181
  go_wp2_with (at_builtin; refine Lib.wpList_append_run _ rfl _ _ _ _ rfl _ _ rfl rfl _ _ happ ?_)
  exact bodyPost_ret (results_tmp rfl _ _ _) rfl ⟨_, rfl, ⟨by simp, .inr ⟨_, cap2, Z, rfl, Nat.le_refl _, heap_alloc_new w _, Nat.zero_le _, HC.out, by rw [Nat.mul_one]; exact HZ.out, by simp⟩⟩, (al (Below.refl _ _) _).drew⟩
theorem flat_take (ls : List (List UInt8)) (j : Nat) (h : j < ls.length) : (ls.take (j + 1)).flatten = (ls.take j).flatten ++ ls.getD j [] := by
  rw [List.take_add_one, List.flatten_append, List.getElem?_eq_getElem h]; simp [h]
theorem flat_take_le (ls : List (List UInt8)) (j : Nat) : (ls.take j).flatten.length ≤ ls.flatten.length := by
  conv => rhs; rw [← List.take_append_drop j ls, List.flatten_append, List.length_append]
  omega
theorem own_mono {w : World} {base base' : Nat} {e : TypeId} {size : Nat} {v : Value} {n : Nat} {xs : List Value} (h : w.ownsRow base' e size v n xs) (hb : base ≤ base') : w.ownsRow base e size v n xs := by
  refine ⟨h.1, ?_⟩
  rcases h.2 with h2 | ⟨g, cap, cur, h3, h4, h5⟩
  · exact .inl h2
  · exact .inr ⟨g, cap, cur, h3, Nat.le_trans hb h4, h5⟩
theorem own_base {w : World} {base : Nat} {e : TypeId} {size : Nat} {v : Value} {n : Nat} {xs : List Value} (h : w.ownsRow base e size v n xs) : ∀ k, v.ownBlock = some k → base ≤ k := by
  intro k hk
  rcases h.2 with ⟨rfl, _⟩ | ⟨g, cap, cur, rfl, h4, _⟩
  · cases hk
  · simp only [Value.ownBlock, Option.some.injEq] at hk; omega
theorem own_range {w : World} {base : Nat} {e : TypeId} {size : Nat} {v : Value} {n : Nat} {xs : List Value} (h : w.ownsRow base e size v n xs) (hn : 1 ≤ n) : ∃ g cap, v = .slice (some ⟨g, 0, none⟩) n cap ∧ n ≤ cap ∧ cap ≤ maxLen ∧ base ≤ g ∧ w.rangeAt g 0 xs := by
  rcases h.2 with ⟨rfl, h0⟩ | ⟨g, cap, cur, rfl, h4, hg, hnc, hcm, hsz, htk⟩
  · omega
  · refine ⟨g, cap, rfl, hnc, hcm, h4, fun j v hj => ?_⟩
    rw [cell_of_row w g _ cur e (0, 0) hg, Nat.zero_add]
    rw [← htk, List.getElem?_take] at hj
    split at hj
    · simpa using hj
    · cases hj
theorem bytes_own {w : World} {base : Nat} {e : TypeId} {v : Value} {l : List UInt8} (h : w.ownsRow base e 1 v l.length (cells8 l)) (hn : 1 ≤ l.length) : BytesAt w v l := by
  obtain ⟨g, cap, rfl, h1, h2, _, h3⟩ := own_range h hn
  exact ⟨_, cap, rfl, h1, h2, .inr ⟨_, _, rfl, h3⟩⟩
/-- Parts of bytes, each one with something in it, in a row of slices. -/
def PartsAt (w : World) (b o : Nat) (vs : List Value) (ls : List (List UInt8)) : Prop :=
  w.rangeAt b o vs ∧ vs.length = ls.length ∧ ∀ j, j < ls.length → ∃ a n c, vs.getD j undef = .slice (some a) n c ∧ n = (ls.getD j []).length ∧ n ≤ c ∧ ∃ b' o', a = ⟨b', o', none⟩ ∧ w.rangeAt b' o' (cells8 (ls.getD j [])) ∧ b' < w.heap.size
theorem parts_cell {w : World} {b o : Nat} {vs : List Value} {ls : List (List UInt8)} (h : PartsAt w b o vs ls) {j : Nat} (hj : j < ls.length) : w.cell? ⟨b, o + j, none⟩ = some (vs.getD j undef) := by
  refine h.1 j _ ?_
  have : j < vs.length := by rw [h.2.1]; exact hj
  rw [List.getElem?_eq_getElem this]; simp [this]
set_option maxRecDepth 100000 in
theorem concat_any (vs : List Value) (ls : List (List UInt8)) (b o cap : Nat) (w : World) (h : PartsAt w b o vs ls) (hc : ls.length ≤ cap) (hk : ls.length ≤ 1000) (hpos : 1 ≤ ls.flatten.length) (hl : ls.flatten.length ≤ 140737488355328) :
    Calls Tryz.prog 117 #[.slice (some ⟨b, o, none⟩) ls.length cap] w fun e w' => ∃ v, e = .returned v ∧ BytesAt w' v ls.flatten ∧ Below w.heap.size w w' := by
  obtain ⟨k, hkk⟩ : ∃ k, k = ls.length := ⟨_, rfl⟩
  rw [← hkk] at hc hk ⊢
  have HK := Lib.hid hkk; clear hkk
  have HL := Lib.hid hl; clear hl
  have HP := Lib.hid hpos; clear hpos
  have hk' : (k : Int) ≤ 1000 := by omega
  go_enter Tryz.func117, Tryz.ntmps117
  go_wp2_with fail
  go_loopw [3, 11] (fun s i W => ∃ j : Nat, j ≤ k ∧ i = .int .i64 (j : Int) ∧ s = .int .i64 ((ls.take j).flatten.length : Int) ∧ Below w.heap.size w W) (fun _ i _ => k - (intOf i).toNat)
  case atStart => exact ⟨0, by omega, rfl, rfl, Below.refl _ _⟩
  case round =>
    obtain ⟨j, hj, rfl, rfl, hB⟩ := hrel
    by_cases hlt : j < k
    · have hlt' : (j : Int) < (k : Int) := by omega
      have hc0 := parts_cell h (j := j) (by rw [← HK.out]; exact hlt)
      have hc1 : wr.cell? ⟨b, o + j, none⟩ = some (vs.getD j undef) := (hB.cell (p := ⟨b, o + j, none⟩) (World.block_lt_of_cell? w _ hc0)).trans hc0
      obtain ⟨a, n, c, hv, hn, hnc, -⟩ := h.2.2 j (by rw [← HK.out]; exact hlt)
      rw [hv] at hc1
      clear hc0 hv
      have hft := flat_take ls j (by rw [← HK.out]; exact hlt)
      have hfl := congrArg List.length hft
      rw [List.length_append, ← hn] at hfl
      have hle := flat_take_le ls (j + 1)
      have hmx := HL.out
      obtain ⟨s1, hs1⟩ : ∃ s, s = (ls.take j).flatten.length := ⟨_, rfl⟩
      obtain ⟨s2, hs2⟩ : ∃ s, s = (ls.take (j + 1)).flatten.length := ⟨_, rfl⟩
      rw [← hs1, ← hs2] at hfl
      rw [← hs2] at hle
      rw [← hs1]
      have hsum : IntKind.i64.wrap ((s1 : Int) + (n : Int)) = (s2 : Int) := by rw [IntKind.wrap_i64]; omega
      have HS2 := Lib.hid hs2
      clear hft hn hs1 hs2 hfl hle hmx
      go_wp2_with fail
      exact ⟨⟨j + 1, by omega, by simp, by rw [HS2.out], hB⟩, by simp [intOf]; omega⟩
    · have hjk : j = k := by omega
      subst hjk
      have htk : ls.take j = ls := List.take_of_length_le (by rw [HK.out]; exact Nat.le_refl _)
      rw [htk]
      obtain ⟨T, hT⟩ : ∃ T, T = ls.flatten.length := ⟨_, rfl⟩
      rw [← hT]
      have hT1 : 1 ≤ T := by rw [hT]; exact HP.out
      have hT2 : T ≤ 140737488355328 := by rw [hT]; exact HL.out
      have HT := Lib.hid hT; clear hT
      have Ht := Lib.hid htk; clear htk
      have G := Lib.hid (grow_any T wr hT1 hT2); clear hT1 hT2
      go_wp2_with fail
      refine G.out.mono ?_
      rintro e w1 ⟨v, rfl, ho1, hb1⟩
      obtain ⟨i0, hi0, hz0⟩ := Option.map_eq_some_iff.1 infoByteZ
      simp only [Prod.mk.injEq] at hz0
      have HI := Lib.hid hi0; clear hi0
      have HZ := Lib.hid hz0; clear hz0
      have hB1 : Below w.heap.size w w1 := hB.trans (hb1.mono hB.size)
      have ho1' : w1.ownsRow w.heap.size 5 1 v 0 [] := own_mono ho1 hB.size
      clear ho1 hb1 hB G
      go_wp2_with fail
      go_loopw [6, 27] (fun v i W => ∃ q : Nat, q ≤ j ∧ i = .int .i64 (q : Int) ∧ W.ownsRow w.heap.size 5 1 v (ls.take q).flatten.length (cells8 (ls.take q).flatten) ∧ Below w.heap.size w W) (fun _ i _ => j - (intOf i).toNat)
      case atStart => exact ⟨0, by omega, rfl, ho1', hB1⟩
      case round =>
        clear hB1 ho1'
        obtain ⟨q, hq, rfl, ho2, hB2⟩ := hrel
        by_cases hlt2 : q < j
        · have hlt' : (q : Int) < (j : Int) := by omega
          have hc0 := parts_cell h (j := q) (by rw [← HK.out]; exact hlt2)
          have hc1 := (hB2.cell (p := ⟨b, o + q, none⟩) (World.block_lt_of_cell? w _ hc0)).trans hc0
          obtain ⟨a, n, c, hv, hn, hnc, b', o', rfl, hrg, hb'⟩ := h.2.2 q (by rw [← HK.out]; exact hlt2)
          rw [hv] at hc1
          clear hc0 hv
          have hrg' := range_below hB2 hrg hb'
          have hft := flat_take ls q (by rw [← HK.out]; exact hlt2)
          have hfl := congrArg List.length hft
          rw [List.length_append, ← hn] at hfl
          have hle := flat_take_le ls (q + 1)
          have hmx := HL.out
          have hnn : (ls.take q).flatten.length + n ≤ 140737488355328 := by omega
          have HN := Lib.hid hnn; clear hnn
          have HF := Lib.hid hft; clear hft
          have HFL := Lib.hid hfl; clear hfl
          have HNn := Lib.hid hn; clear hn
          clear hle hmx hrg
          go_wp2_with (at_builtin; refine wpList_append_own _ rfl _ _ _ rfl w.heap.size 5 i0 (.int .u8 0) 1 1 Tryz.underlying65 HI.out HZ.out.1 HZ.out.2.1 HZ.out.2.2 rfl (by decide) _ _ _ rfl ho2 ⟨b', o', none⟩ n c (cells8 (ls.getD q [])) rfl (by rw [length_cells8, HNn.out]; omega) (fun j u hj => by rw [Addr.add_mid]; exact hrg' j u hj) (oneCell_cells8 _) (by unfold maxLen; have := HN.out; omega) (by have := HN.out; omega) hB2.size ?_; intro v' w2 ho3 hg3 _)
          rw [← HFL.out, ← cells8_append, ← HF.out] at ho3
          exact ⟨⟨q + 1, by omega, by simp, ho3, hB2.grown hg3 hB2.size (own_base ho2)⟩, by simp [intOf]; omega⟩
        · have hqj : q = j := by omega
          subst hqj
          rw [Ht.out] at ho2
          go_wp2_with fail
          exact bodyPost_ret (results_tmp rfl _ _ _) rfl ⟨_, rfl, bytes_own ho2 HP.out, hB2⟩
end Go.Proofs.YtdkcndgehgmadaaGreatDoor
