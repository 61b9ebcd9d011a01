/-
  Walks: chains: Mark, Root.
-/
import Derived.Test.YtdkcndgehgmadaaK4
import Derived.Test.YtdkcndgehgmadaaG3
open Go Go.RowKit Alm
namespace Go.Proofs.Ytdkcndgehgmadaa
theorem ChainIn.short {base : Nat} {w : World} {c f : Nat} {v vf : Value} {es : List Ent} {l : List (List UInt8)} (h : ChainIn base w c f v vf es l) : l.length < 4000000000 := by
  have := h.front.2.2.2.1
  rwa [List.length_map] at this
theorem ChainIn.at_ {base : Nat} {w : World} {c f : Nat} {v vf : Value} {es : List Ent} {l : List (List UInt8)} (h : ChainIn base w c f v vf es l) : ChainAt base w c l := ⟨f, v, vf, es, h⟩
set_option maxRecDepth 100000 in
theorem mark1_at {base : Nat} {w : World} {c f : Nat} {v vf : Value} {es : List Ent} {l : List (List UInt8)} (h : ChainIn base w c f v vf es l) (k : Nat) (hk : k ≤ l.length) (a : Option Addr) (cap : Nat) (hv : v = .slice a l.length cap) :
    Calls Try.prog 79 #[.slice a k cap] w fun e w' => e = .returned (.tuple #[sv (mk (l.take k)), .int .i64 0]) ∧ Below w.heap.size w w' := by
  have R0 : Res w 32 (w.alloc (.cells (cells8 (List.replicate 32 0)).toArray 24)) := Res.start _ _ _ _ (by rfl)
  have HL := Lib.hid (last_at (h.below R0.below) k hk a cap hv)
  have HR := Lib.hid R0
  have hfm := field_mark
  clear h R0 hv
  generalize hs : mk (l.take k) = s at *
  clear hs
  go_enter Try.func79, Try.ntmps79
  go_wp2_with fail
  refine HL.out.mono ?_
  rintro e w1 ⟨⟨p, r, rfl, -⟩, hb⟩
  have R1 := HR.out.call (by omega) hb
  clear HL HR
  go_wp2_with (refine wpList_store_sum rfl _ _ rfl w.heap.size 0 s rfl rfl R1.there ?_)
  have RS := R1.store (cellsOf s)
  exact bodyPost_ret (results_cell_tmp Try.results79 _ _ w.heap.size 0 (cellsOf s) _ rfl (range_stored _ _ _ _ (by rw [length_cellsOf]; exact RS.there)) Try.underlying24 rfl (by rw [length_cellsOf]; exact infoSum)) rfl ⟨rfl, RS.below⟩
set_option maxRecDepth 100000 in
theorem root1_at {base : Nat} {w : World} {c f : Nat} {v vf : Value} {es : List Ent} {l : List (List UInt8)} (h : ChainIn base w c f v vf es l) (k : Nat) (hk : k ≤ l.length) (a : Option Addr) (cap : Nat) (hv : v = .slice a l.length cap) :
    Calls Try.prog 81 #[.slice a k cap] w fun e w' => e = .returned (.tuple #[sv (rt ((l.take k).map lf)), .int .i64 0]) ∧ Below w.heap.size w w' := by
  have R0 : Res w 32 (w.alloc (.cells (cells8 (List.replicate 32 0)).toArray 24)) := Res.start _ _ _ _ (by rfl)
  have HR := Lib.hid R0
  by_cases h0 : k = 0
  · subst h0
    rw [List.take_zero, List.map_nil]
    have hr := rt_any [] (.slice none 0 0) (w.alloc (.cells (cells8 (List.replicate 32 0)).toArray 24)) ⟨none, 0, rfl, Nat.le_refl _, by decide, .inl rfl⟩
    generalize rt [] = s at *
    have HL := Lib.hid hr
    clear hr h R0 hv
    go_enter Try.func81, Try.ntmps81
    go_wp2_with fail
    refine HL.out.mono ?_
    rintro e w1 ⟨rfl, hb⟩
    have R1 := HR.out.call (by omega) hb
    clear HL HR
    go_wp2_with (refine wpList_store_sum rfl _ _ rfl w.heap.size 0 s rfl rfl R1.there ?_)
    have RS := R1.store (cellsOf s)
    exact bodyPost_ret (results_cell_tmp Try.results81 _ _ w.heap.size 0 (cellsOf s) _ rfl (range_stored _ _ _ _ (by rw [length_cellsOf]; exact RS.there)) Try.underlying24 rfl (by rw [length_cellsOf]; exact infoSum)) rfl ⟨rfl, RS.below⟩
  · have HL := Lib.hid (last_at (h.below R0.below) k hk a cap hv)
    have hfm := field_root
    clear h R0 hv
    have hkz : ((k : Int) == 0) = false := by rw [beq_eq_false_iff_ne]; omega
    have H0 := Lib.hid h0
    clear h0 hk
    generalize hs : rt ((l.take k).map lf) = s at *
    clear hs
    go_enter Try.func81, Try.ntmps81
    go_wp2_with fail
    refine HL.out.mono ?_
    rintro e w1 ⟨⟨p, r, rfl, hr⟩, hb⟩
    obtain rfl := hr H0.out
    have R1 := HR.out.call (by omega) hb
    clear HL HR hr
    go_wp2_with (refine wpList_store_sum rfl _ _ rfl w.heap.size 0 r rfl rfl R1.there ?_)
    have RS := R1.store (cellsOf r)
    exact bodyPost_ret (results_cell_tmp Try.results81 _ _ w.heap.size 0 (cellsOf r) _ rfl (range_stored _ _ _ _ (by rw [length_cellsOf]; exact RS.there)) Try.underlying24 rfl (by rw [length_cellsOf]; exact infoSum)) rfl ⟨rfl, RS.below⟩
set_option maxRecDepth 100000 in
theorem first_mark (base : Nat) (w : World) (c : Nat) (l : List (List UInt8)) (h : ChainAt base w c l) (k : Nat) (hk : k ≤ l.length) :
    Calls Try.prog 78 #[.pointer (some ⟨c, 0, none⟩), .int .u64 (k : Int), .func (.func 79) #[] #[]] w fun e w' => e = .returned (.tuple #[sv (mk (l.take k)), .int .i64 0]) ∧ Below w.heap.size w w' := by
  have R0 : Res w 32 (w.alloc (.cells (cells8 (List.replicate 32 0)).toArray 24)) := Res.start _ _ _ _ (by rfl)
  obtain ⟨f, v, vf, es, h0⟩ := h
  have h2 := h0.below R0.below
  have HZ := Lib.hid (csize_at base _ c l h2.at_)
  have HC0 := Lib.hid h2.c0
  have hc1 : (w.alloc (.cells (cells8 [0, 0, 0, 0, 0, 0, 0, 0, 0, 0, 0, 0, 0, 0, 0, 0, 0, 0, 0, 0, 0, 0, 0, 0, 0, 0, 0, 0, 0, 0, 0, 0]).toArray 24)).cell? ⟨c, 1, none⟩ = some v := h2.c1
  have hsh := h2.short
  have hsh' : (l.length : Int) < 4000000000 := by omega
  have hkl : ¬ ((l.length : Int) < (k : Int)) := by omega
  have HR := Lib.hid R0
  obtain ⟨a, cap, rfl, k1, k2, k3⟩ := h2.form
  have HT := Lib.hid (mark1_at h2 k hk a cap rfl)
  clear h0 R0
  unfold maxLen at k2
  have b1 : (k : Int) ≤ (cap : Int) := by omega
  have b2 : (k : Int) < 4000000000 := by omega
  have h3 : (l = [] ∧ a = none ∧ cap = 0) ∨ ∃ g, a = some ⟨g, 0, none⟩ := by
    rcases k3 with h0 | ⟨g, hg, _⟩
    · left
      have := h2.nil h0
      simp only [Value.slice.injEq] at this
      exact ⟨h0, this.1, this.2.2⟩
    · exact .inr ⟨g, hg⟩
  clear h2 k3
  generalize hs : mk (l.take k) = s at *
  clear hs
  rcases h3 with ⟨rfl, rfl, rfl⟩ | ⟨g, rfl⟩
  · obtain rfl : k = 0 := by simpa using hk
    have hc1' : (w.alloc (.cells (cells8 [0, 0, 0, 0, 0, 0, 0, 0, 0, 0, 0, 0, 0, 0, 0, 0, 0, 0, 0, 0, 0, 0, 0, 0, 0, 0, 0, 0, 0, 0, 0, 0]).toArray 24)).cell? ⟨c, 1, none⟩ = some (.slice none 0 0) := hc1
    have HZ' : Hid (Calls Try.prog 44 #[.pointer (some ⟨c, 0, none⟩)] (w.alloc (.cells (cells8 (List.replicate 32 0)).toArray 24)) fun e w' => e = .returned (.int .u64 0) ∧ (w.alloc (.cells (cells8 (List.replicate 32 0)).toArray 24)) = w') := HZ
    clear hkl b1 b2 hsh hsh' hk k1 k2 hc1 HZ
    go_enter Try.func78, Try.ntmps78
    go_wp2_with (first
      | (go_at_call 75; refine (cnone_live _ c f HC0.out).mono ?_; rintro e w1 ⟨rfl, rfl⟩)
      | (go_at_call 44; refine HZ'.out.mono ?_; rintro e w1 ⟨rfl, rfl⟩))
    refine HT.out.mono ?_
    rintro e w1 ⟨rfl, hb⟩
    have R1 := HR.out.call (by omega) hb
    clear HT HR
    go_wp2_with (refine wpList_store_sum rfl _ _ rfl w.heap.size 0 s rfl rfl R1.there ?_)
    have RS := R1.store (cellsOf s)
    exact bodyPost_ret (results_cell_tmp Try.results78 _ _ w.heap.size 0 (cellsOf s) _ rfl (range_stored _ _ _ _ (by rw [length_cellsOf]; exact RS.there)) Try.underlying24 rfl (by rw [length_cellsOf]; exact infoSum)) rfl ⟨rfl, RS.below⟩
  · generalize l.length = n at *
    have hd : decide (n < k) = false := decide_eq_false (by omega)
    clear k2 k1 hsh hk hkl hsh' b2
    go_enter Try.func78, Try.ntmps78
    go_wp2_with (first
      | (go_at_call 75; refine (cnone_live _ c f HC0.out).mono ?_; rintro e w1 ⟨rfl, rfl⟩)
      | (go_at_call 44; refine HZ.out.mono ?_; rintro e w1 ⟨rfl, rfl⟩))
    refine HT.out.mono ?_
    rintro e w1 ⟨rfl, hb⟩
    have R1 := HR.out.call (by omega) hb
    clear HT HR
    go_wp2_with (refine wpList_store_sum rfl _ _ rfl w.heap.size 0 s rfl rfl R1.there ?_)
    have RS := R1.store (cellsOf s)
    exact bodyPost_ret (results_cell_tmp Try.results78 _ _ w.heap.size 0 (cellsOf s) _ rfl (range_stored _ _ _ _ (by rw [length_cellsOf]; exact RS.there)) Try.underlying24 rfl (by rw [length_cellsOf]; exact infoSum)) rfl ⟨rfl, RS.below⟩
set_option maxRecDepth 100000 in
theorem first_mark_arg (base : Nat) (w : World) (c : Nat) (l : List (List UInt8)) (h : ChainAt base w c l) (k : Nat) (hk : l.length < k) :
    Calls Try.prog 78 #[.pointer (some ⟨c, 0, none⟩), .int .u64 (k : Int), .func (.func 79) #[] #[]] w fun e w' => e = .returned (.tuple #[sv zeroSum, .int .i64 1]) ∧ Below w.heap.size w w' := by
  have R0 : Res w 32 (w.alloc (.cells (cells8 (List.replicate 32 0)).toArray 24)) := Res.start _ _ _ _ (by rfl)
  obtain ⟨f, v, vf, es, h0⟩ := h
  have h2 := h0.below R0.below
  have hz : (w.alloc (.cells (cells8 (List.replicate 32 0)).toArray 24)).rangeAt w.heap.size 0 (cellsOf zeroSum) := range_new w _ _ _ (by rw [cellsOf_zeroSum])
  have HZZ := Lib.hid hz; clear hz
  have HZ := Lib.hid (csize_at base _ c l h2.at_)
  have HC0 := Lib.hid h2.c0
  have hkl : ((l.length : Int) < (k : Int)) := by omega
  have HR := Lib.hid R0
  clear h0 R0 h2 hk
  generalize l.length = n at *
  go_enter Try.func78, Try.ntmps78
  go_wp2_with (first
    | (go_at_call 75; refine (cnone_live _ c f HC0.out).mono ?_; rintro e w1 ⟨rfl, rfl⟩)
    | (go_at_call 44; refine HZ.out.mono ?_; rintro e w1 ⟨rfl, rfl⟩)
    | (refine wpList_load_sum rfl _ rfl w.heap.size 0 rfl zeroSum HZZ.out ?_)
    | (refine wpList_store_sum rfl _ _ rfl w.heap.size 0 zeroSum rfl rfl HR.out.there ?_))
  exact bodyPost_ret (results_cell_tmp Try.results78 _ _ w.heap.size 0 (cellsOf zeroSum) _ rfl (range_stored _ _ _ _ (by rw [length_cellsOf]; exact World.there_setCells HR.out.there _ _ _)) Try.underlying24 rfl (by rw [length_cellsOf]; exact infoSum)) rfl ⟨rfl, (HR.out.store _).below⟩
theorem cmark_at (base : Nat) (w : World) (c : Nat) (l : List (List UInt8)) (h : ChainAt base w c l) (k : Nat) (hk : k ≤ l.length) :
    Calls Try.prog 39 #[.pointer (some ⟨c, 0, none⟩), .int .u64 (k : Int)] w fun e w' => e = .returned (.tuple #[sv (mk (l.take k)), .int .i64 0]) ∧ Below w.heap.size w w' := by
  have R0 : Res w 32 (w.alloc (.cells (cells8 (List.replicate 32 0)).toArray 24)) := Res.start _ _ _ _ (by rfl)
  have HT := Lib.hid (first_mark base _ c l (h.below R0.below) k hk)
  have HR := Lib.hid R0
  clear h R0
  generalize hs : mk (l.take k) = s at *
  clear hs
  go_enter Try.func39, Try.ntmps39
  go_wp2_with fail
  refine HT.out.mono ?_
  rintro e w1 ⟨rfl, hb⟩
  have R1 := HR.out.call (by omega) hb
  clear HT HR
  go_wp2_with (refine wpList_store_sum rfl _ _ rfl w.heap.size 0 s rfl rfl R1.there ?_)
  have RS := R1.store (cellsOf s)
  exact bodyPost_ret (results_cell_tmp Try.results39 _ _ w.heap.size 0 (cellsOf s) _ rfl (range_stored _ _ _ _ (by rw [length_cellsOf]; exact RS.there)) Try.underlying24 rfl (by rw [length_cellsOf]; exact infoSum)) rfl ⟨rfl, RS.below⟩
theorem cmark_arg (base : Nat) (w : World) (c : Nat) (l : List (List UInt8)) (h : ChainAt base w c l) (k : Nat) (hk : l.length < k) :
    Calls Try.prog 39 #[.pointer (some ⟨c, 0, none⟩), .int .u64 (k : Int)] w fun e w' => e = .returned (.tuple #[sv (zeroSum), .int .i64 1]) ∧ Below w.heap.size w w' := by
  have R0 : Res w 32 (w.alloc (.cells (cells8 (List.replicate 32 0)).toArray 24)) := Res.start _ _ _ _ (by rfl)
  have HT := Lib.hid (first_mark_arg base _ c l (h.below R0.below) k hk)
  have HR := Lib.hid R0
  clear h R0
  generalize hs : zeroSum = s at *
  clear hs
  go_enter Try.func39, Try.ntmps39
  go_wp2_with fail
  refine HT.out.mono ?_
  rintro e w1 ⟨rfl, hb⟩
  have R1 := HR.out.call (by omega) hb
  clear HT HR
  go_wp2_with (refine wpList_store_sum rfl _ _ rfl w.heap.size 0 s rfl rfl R1.there ?_)
  have RS := R1.store (cellsOf s)
  exact bodyPost_ret (results_cell_tmp Try.results39 _ _ w.heap.size 0 (cellsOf s) _ rfl (range_stored _ _ _ _ (by rw [length_cellsOf]; exact RS.there)) Try.underlying24 rfl (by rw [length_cellsOf]; exact infoSum)) rfl ⟨rfl, RS.below⟩
set_option maxRecDepth 100000 in
theorem first_root (base : Nat) (w : World) (c : Nat) (l : List (List UInt8)) (h : ChainAt base w c l) (k : Nat) (hk : k ≤ l.length) :
    Calls Try.prog 78 #[.pointer (some ⟨c, 0, none⟩), .int .u64 (k : Int), .func (.func 81) #[] #[]] w fun e w' => e = .returned (.tuple #[sv (rt ((l.take k).map lf)), .int .i64 0]) ∧ Below w.heap.size w w' := by
  have R0 : Res w 32 (w.alloc (.cells (cells8 (List.replicate 32 0)).toArray 24)) := Res.start _ _ _ _ (by rfl)
  obtain ⟨f, v, vf, es, h0⟩ := h
  have h2 := h0.below R0.below
  have HZ := Lib.hid (csize_at base _ c l h2.at_)
  have HC0 := Lib.hid h2.c0
  have hc1 : (w.alloc (.cells (cells8 [0, 0, 0, 0, 0, 0, 0, 0, 0, 0, 0, 0, 0, 0, 0, 0, 0, 0, 0, 0, 0, 0, 0, 0, 0, 0, 0, 0, 0, 0, 0, 0]).toArray 24)).cell? ⟨c, 1, none⟩ = some v := h2.c1
  have hsh := h2.short
  have hsh' : (l.length : Int) < 4000000000 := by omega
  have hkl : ¬ ((l.length : Int) < (k : Int)) := by omega
  have HR := Lib.hid R0
  obtain ⟨a, cap, rfl, k1, k2, k3⟩ := h2.form
  have HT := Lib.hid (root1_at h2 k hk a cap rfl)
  clear h0 R0
  unfold maxLen at k2
  have b1 : (k : Int) ≤ (cap : Int) := by omega
  have b2 : (k : Int) < 4000000000 := by omega
  have h3 : (l = [] ∧ a = none ∧ cap = 0) ∨ ∃ g, a = some ⟨g, 0, none⟩ := by
    rcases k3 with h0 | ⟨g, hg, _⟩
    · left
      have := h2.nil h0
      simp only [Value.slice.injEq] at this
      exact ⟨h0, this.1, this.2.2⟩
    · exact .inr ⟨g, hg⟩
  clear h2 k3
  generalize hs : rt ((l.take k).map lf) = s at *
  clear hs
  rcases h3 with ⟨rfl, rfl, rfl⟩ | ⟨g, rfl⟩
  · obtain rfl : k = 0 := by simpa using hk
    have hc1' : (w.alloc (.cells (cells8 [0, 0, 0, 0, 0, 0, 0, 0, 0, 0, 0, 0, 0, 0, 0, 0, 0, 0, 0, 0, 0, 0, 0, 0, 0, 0, 0, 0, 0, 0, 0, 0]).toArray 24)).cell? ⟨c, 1, none⟩ = some (.slice none 0 0) := hc1
    have HZ' : Hid (Calls Try.prog 44 #[.pointer (some ⟨c, 0, none⟩)] (w.alloc (.cells (cells8 (List.replicate 32 0)).toArray 24)) fun e w' => e = .returned (.int .u64 0) ∧ (w.alloc (.cells (cells8 (List.replicate 32 0)).toArray 24)) = w') := HZ
    clear hkl b1 b2 hsh hsh' hk k1 k2 hc1 HZ
    go_enter Try.func78, Try.ntmps78
    go_wp2_with (first
      | (go_at_call 75; refine (cnone_live _ c f HC0.out).mono ?_; rintro e w1 ⟨rfl, rfl⟩)
      | (go_at_call 44; refine HZ'.out.mono ?_; rintro e w1 ⟨rfl, rfl⟩))
    refine HT.out.mono ?_
    rintro e w1 ⟨rfl, hb⟩
    have R1 := HR.out.call (by omega) hb
    clear HT HR
    go_wp2_with (refine wpList_store_sum rfl _ _ rfl w.heap.size 0 s rfl rfl R1.there ?_)
    have RS := R1.store (cellsOf s)
    exact bodyPost_ret (results_cell_tmp Try.results78 _ _ w.heap.size 0 (cellsOf s) _ rfl (range_stored _ _ _ _ (by rw [length_cellsOf]; exact RS.there)) Try.underlying24 rfl (by rw [length_cellsOf]; exact infoSum)) rfl ⟨rfl, RS.below⟩
  · generalize l.length = n at *
    have hd : decide (n < k) = false := decide_eq_false (by omega)
    clear k2 k1 hsh hk hkl hsh' b2
    go_enter Try.func78, Try.ntmps78
    go_wp2_with (first
      | (go_at_call 75; refine (cnone_live _ c f HC0.out).mono ?_; rintro e w1 ⟨rfl, rfl⟩)
      | (go_at_call 44; refine HZ.out.mono ?_; rintro e w1 ⟨rfl, rfl⟩))
    refine HT.out.mono ?_
    rintro e w1 ⟨rfl, hb⟩
    have R1 := HR.out.call (by omega) hb
    clear HT HR
    go_wp2_with (refine wpList_store_sum rfl _ _ rfl w.heap.size 0 s rfl rfl R1.there ?_)
    have RS := R1.store (cellsOf s)
    exact bodyPost_ret (results_cell_tmp Try.results78 _ _ w.heap.size 0 (cellsOf s) _ rfl (range_stored _ _ _ _ (by rw [length_cellsOf]; exact RS.there)) Try.underlying24 rfl (by rw [length_cellsOf]; exact infoSum)) rfl ⟨rfl, RS.below⟩
set_option maxRecDepth 100000 in
theorem first_root_arg (base : Nat) (w : World) (c : Nat) (l : List (List UInt8)) (h : ChainAt base w c l) (k : Nat) (hk : l.length < k) :
    Calls Try.prog 78 #[.pointer (some ⟨c, 0, none⟩), .int .u64 (k : Int), .func (.func 81) #[] #[]] w fun e w' => e = .returned (.tuple #[sv zeroSum, .int .i64 1]) ∧ Below w.heap.size w w' := by
  have R0 : Res w 32 (w.alloc (.cells (cells8 (List.replicate 32 0)).toArray 24)) := Res.start _ _ _ _ (by rfl)
  obtain ⟨f, v, vf, es, h0⟩ := h
  have h2 := h0.below R0.below
  have hz : (w.alloc (.cells (cells8 (List.replicate 32 0)).toArray 24)).rangeAt w.heap.size 0 (cellsOf zeroSum) := range_new w _ _ _ (by rw [cellsOf_zeroSum])
  have HZZ := Lib.hid hz; clear hz
  have HZ := Lib.hid (csize_at base _ c l h2.at_)
  have HC0 := Lib.hid h2.c0
  have hkl : ((l.length : Int) < (k : Int)) := by omega
  have HR := Lib.hid R0
  clear h0 R0 h2 hk
  generalize l.length = n at *
  go_enter Try.func78, Try.ntmps78
  go_wp2_with (first
    | (go_at_call 75; refine (cnone_live _ c f HC0.out).mono ?_; rintro e w1 ⟨rfl, rfl⟩)
    | (go_at_call 44; refine HZ.out.mono ?_; rintro e w1 ⟨rfl, rfl⟩)
    | (refine wpList_load_sum rfl _ rfl w.heap.size 0 rfl zeroSum HZZ.out ?_)
    | (refine wpList_store_sum rfl _ _ rfl w.heap.size 0 zeroSum rfl rfl HR.out.there ?_))
  exact bodyPost_ret (results_cell_tmp Try.results78 _ _ w.heap.size 0 (cellsOf zeroSum) _ rfl (range_stored _ _ _ _ (by rw [length_cellsOf]; exact World.there_setCells HR.out.there _ _ _)) Try.underlying24 rfl (by rw [length_cellsOf]; exact infoSum)) rfl ⟨rfl, (HR.out.store _).below⟩
theorem croot_at (base : Nat) (w : World) (c : Nat) (l : List (List UInt8)) (h : ChainAt base w c l) (k : Nat) (hk : k ≤ l.length) :
    Calls Try.prog 40 #[.pointer (some ⟨c, 0, none⟩), .int .u64 (k : Int)] w fun e w' => e = .returned (.tuple #[sv (rt ((l.take k).map lf)), .int .i64 0]) ∧ Below w.heap.size w w' := by
  have R0 : Res w 32 (w.alloc (.cells (cells8 (List.replicate 32 0)).toArray 24)) := Res.start _ _ _ _ (by rfl)
  have HT := Lib.hid (first_root base _ c l (h.below R0.below) k hk)
  have HR := Lib.hid R0
  clear h R0
  generalize hs : rt ((l.take k).map lf) = s at *
  clear hs
  go_enter Try.func40, Try.ntmps40
  go_wp2_with fail
  refine HT.out.mono ?_
  rintro e w1 ⟨rfl, hb⟩
  have R1 := HR.out.call (by omega) hb
  clear HT HR
  go_wp2_with (refine wpList_store_sum rfl _ _ rfl w.heap.size 0 s rfl rfl R1.there ?_)
  have RS := R1.store (cellsOf s)
  exact bodyPost_ret (results_cell_tmp Try.results40 _ _ w.heap.size 0 (cellsOf s) _ rfl (range_stored _ _ _ _ (by rw [length_cellsOf]; exact RS.there)) Try.underlying24 rfl (by rw [length_cellsOf]; exact infoSum)) rfl ⟨rfl, RS.below⟩
theorem croot_arg (base : Nat) (w : World) (c : Nat) (l : List (List UInt8)) (h : ChainAt base w c l) (k : Nat) (hk : l.length < k) :
    Calls Try.prog 40 #[.pointer (some ⟨c, 0, none⟩), .int .u64 (k : Int)] w fun e w' => e = .returned (.tuple #[sv (zeroSum), .int .i64 1]) ∧ Below w.heap.size w w' := by
  have R0 : Res w 32 (w.alloc (.cells (cells8 (List.replicate 32 0)).toArray 24)) := Res.start _ _ _ _ (by rfl)
  have HT := Lib.hid (first_root_arg base _ c l (h.below R0.below) k hk)
  have HR := Lib.hid R0
  clear h R0
  generalize hs : zeroSum = s at *
  clear hs
  go_enter Try.func40, Try.ntmps40
  go_wp2_with fail
  refine HT.out.mono ?_
  rintro e w1 ⟨rfl, hb⟩
  have R1 := HR.out.call (by omega) hb
  clear HT HR
  go_wp2_with (refine wpList_store_sum rfl _ _ rfl w.heap.size 0 s rfl rfl R1.there ?_)
  have RS := R1.store (cellsOf s)
  exact bodyPost_ret (results_cell_tmp Try.results40 _ _ w.heap.size 0 (cellsOf s) _ rfl (range_stored _ _ _ _ (by rw [length_cellsOf]; exact RS.there)) Try.underlying24 rfl (by rw [length_cellsOf]; exact infoSum)) rfl ⟨rfl, RS.below⟩
end Go.Proofs.Ytdkcndgehgmadaa
