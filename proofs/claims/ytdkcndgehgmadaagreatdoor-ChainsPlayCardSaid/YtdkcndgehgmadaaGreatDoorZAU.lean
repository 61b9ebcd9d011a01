/-
  Joined: G3, K5.
-/
import Derived.Test.YtdkcndgehgmadaaGreatDoorZAQ
import Derived.Test.YtdkcndgehgmadaaGreatDoorK4
-- Walks: links.Check's 'next'.
open Go Go.RowKit Alm
namespace Go.Proofs.YtdkcndgehgmadaaGreatDoor
theorem results_cell_tmp {P : Program} {fn : Func} {p q : Tmp} {ty : TypeId} (h : fn.results = #[.cell p ty, .tmp q]) (tmps : Array Value) (w : World) (b o : Nat) (cs : List Value) (d : TypeDesc)
    (hp : tmps.getD p undef = .pointer (some ⟨b, o, none⟩)) (hc : w.rangeAt b o cs) (hu : P.underlying ty = some d) (hd : d.isRow = true) (hi : (P.info? ty).map (·.size) = some cs.length) :
    (results fn tmps).run P w = .ok (.tuple #[.agg cs.toArray, tmps.getD q undef]) w := by
  have hp' : tmps[p]?.getD undef = .pointer (some ⟨b, o, none⟩) := by simpa using hp
  simp [results, h, hp', asAddr, run_loadVar_mid w b o ty cs d hc hu hd hi]
/-- The list that is left, in a variable. -/
def LeftAt (B : Nat) (w : World) (c : Nat) (l : List Sum) : Prop := ∃ v, w.heap[c]? = some (.cells #[v] 22 (0, 0)) ∧ SumsAt w v l ∧ (l ≠ [] → ∀ k, v.ownBlock = some k → k ≠ c ∧ k < B)
theorem LeftAt.keep {X : Nat → Prop} {B : Nat} {w w' : World} {c : Nat} {l : List Sum} (h : LeftAt B w c l) (hk : Keeps X w w') (hc : ¬ X c) (hv : ∀ k, X k → k ≠ c → B ≤ k) : LeftAt B w' c l := by
  obtain ⟨v, h1, h2, h3⟩ := h
  refine ⟨v, hk.heap h1 hc, ?_, h3⟩
  by_cases hl : l = []
  · subst hl
    obtain ⟨a, cap, h4, h5, h6, _⟩ := h2
    exact ⟨a, cap, h4, h5, h6, .inl rfl⟩
  · exact hk.sums h2 (fun k hk hx => by have := hv k hx (h3 hl k hk).1; have := (h3 hl k hk).2; omega)
theorem LeftAt.below {B : Nat} {w w' : World} {c : Nat} {l : List Sum} (h : LeftAt B w c l) (hb : Below w.heap.size w w') : LeftAt B w' c l :=
  h.keep (X := fun _ => False) (.of_below hb) (fun h => h) (fun _ h => h.elim)
theorem LeftAt.lt {B : Nat} {w : World} {c : Nat} {l : List Sum} (h : LeftAt B w c l) : c < w.heap.size := by
  obtain ⟨v, h1, _⟩ := h
  exact (Array.getElem?_eq_some_iff.1 h1).1
/-- What next comes to. -/
def NextOf (B : Nat) (w : World) (c : Nat) (l : List Sum) (e : Ending) (w' : World) : Prop :=
  match l with
  | [] => e = .returned (.tuple #[sv zeroSum, .iface 29 (.int .i64 5)]) ∧ Below w.heap.size w w'
  | s :: r => e = .returned (.tuple #[sv s, .nilIface]) ∧ LeftAt B w' c r ∧ Keeps (· = c) w w'
set_option maxRecDepth 100000 in
set_option maxHeartbeats 1000000 in
theorem next_any (B : Nat) (w : World) (c : Nat) (l : List Sum) (h : LeftAt B w c l) : Calls Tryz.prog 107 #[.pointer (some ⟨c, 0, none⟩)] w (NextOf B w c l) := by
  have hc := h.lt
  obtain ⟨v, h1, h2, h3⟩ := h
  have h0 : w.cell? ⟨c, 0, none⟩ = some v := by rw [cell_of_row w c _ _ _ (0, 0) h1]; rfl
  have R0 : Res w 32 (w.alloc (.cells (cells8 (List.replicate 32 0)).toArray 24)) := Res.start _ _ _ _ (by rfl)
  cases l with
  | nil =>
    obtain ⟨a, cap, rfl, _, _, _⟩ := h2
    have hz : (w.alloc (.cells (cells8 (List.replicate 32 0)).toArray 24)).rangeAt w.heap.size 0 (cellsOf zeroSum) := range_new w _ _ _ (by rw [cellsOf_zeroSum])
    have hfin : NextOf B w c [] (.returned (.tuple #[sv zeroSum, .iface 29 (.int .i64 5)])) ((w.alloc (.cells (cells8 (List.replicate 32 0)).toArray 24)).setCells w.heap.size 0 (cellsOf zeroSum)) := ⟨rfl, (R0.store _).below⟩
    have HF := Lib.hid hfin; clear hfin
    have HZ := Lib.hid hz; clear hz
    clear h1 h3
    go_enter Tryz.func107, Tryz.ntmps107
    go_wp2_with (first
      | (refine wpList_load_sum rfl _ rfl w.heap.size 0 rfl zeroSum HZ.out ?_)
      | (refine wpList_store_sum rfl _ _ rfl w.heap.size 0 zeroSum rfl rfl R0.there ?_))
    exact bodyPost_ret (results_cell_tmp Tryz.results107 _ _ w.heap.size 0 (cellsOf zeroSum) _ rfl (range_stored _ _ _ _ (by rw [length_cellsOf]; exact World.there_setCells R0.there _ _ _)) Tryz.underlying24 rfl (by rw [length_cellsOf]; exact infoSum)) rfl HF.out
  | cons s r =>
    obtain ⟨b, o, cap, rfl, hc1, hc2, hr⟩ := sums_form h2 (by simp)
    have hbc : b ≠ c := (h3 (by simp) b rfl).1
    have HBB := Lib.hid (h3 (by simp) b rfl).2
    have hs := range_at hr (i := 0) (by simp)
    rw [Nat.zero_mul, Nat.add_zero] at hs
    have hs : w.rangeAt b o (cellsOf s) := hs
    have hrr := range_drop hr 1 (by simp)
    rw [Nat.one_mul] at hrr
    have hrr : w.rangeAt b (o + 32) (cellsAll r) := hrr
    have hb : b < w.heap.size := range_lt hs (by intro h; have := length_cellsOf s; rw [h] at this; cases this)
    simp only [List.length_cons] at hc1 h0 h1 ⊢
    obtain ⟨n, hn⟩ : ∃ n, n = r.length := ⟨_, rfl⟩
    rw [← hn] at hc1 h0 h1
    have HN := Lib.hid hn; clear hn
    have HH := Lib.hid h1; clear h1
    have HS := Lib.hid hs; clear hs hr h2 h3
    have HRR := Lib.hid hrr; clear hrr
    unfold maxLen at hc2
    have n1 : (1 : Int) ≤ (n : Int) + 1 := by omega
    have n2 : (n : Int) + 1 ≤ (cap : Int) := by omega
    have n3 : (1 : Int) ≤ (cap : Int) := by omega
    have hne : ((n : Int) + 1 == 0) = false := by rw [beq_eq_false_iff_ne]; omega
    have hpos : (0 : Int) < (n : Int) + 1 := by omega
    go_enter Tryz.func107, Tryz.ntmps107
    go_wp2_with fail
    have hb0 : Below w.heap.size w (w.alloc (.cells (cells8 (List.replicate 32 0)).toArray 24)).drew := R0.drew.below
    have ht0 : (w.alloc (.cells (cells8 (List.replicate 32 0)).toArray 24)).drew.there w.heap.size 0 32 := R0.drew.there
    refine wp_region_sched (fun W => W.cell? ⟨c, 0, none⟩ = some (.slice (some ⟨b, o, none⟩) (n + 1) cap) ∧ W.rangeAt b o (cellsOf s)) [.s 0, .t 1, .s 2, .s 3, .t 4, .e 5 true, .e 6 false] (by kernel_rfl) (by kernel_rfl) (by intro c a d v w h; cases d <;> exact h) ?_
    change wpS _ _ _ _ _ _ _ (w.alloc (.cells (cells8 (List.replicate 32 0)).toArray 24)).drew
    generalize (w.alloc (.cells (cells8 (List.replicate 32 0)).toArray 24)).drew = W0 at *
    have HB0 := Lib.hid hb0; clear hb0 R0
    have HT0 := Lib.hid ht0; clear ht0
    have HC0 := Lib.hid ((HB0.out.cell (p := ⟨c, 0, none⟩) hc).trans h0)
    have HS0 := Lib.hid (range_below HB0.out HS.out hb)
    refine wpS_s (by exact ⟨HC0.out, HS0.out⟩) rfl (v := ?_) (by rfl) (fun W hSW => ?_) ?_
    rotate_left
    · go_simp
      try rfl
    try simp only [Act.put, List.setIfInBounds_toArray, List.set_cons_zero, List.set_cons_succ]
    iterate 1
      refine wpS_t rfl (v := ?_) (by rfl) (fun W => ?_) ?_
      rotate_left
      · go_simp
        try rfl
      try simp only [Act.put, List.setIfInBounds_toArray, List.set_cons_zero, List.set_cons_succ]
    refine wpS_load_sum (by exact ⟨HC0.out, HS0.out⟩) rfl (by rfl) _ (by rfl) b o (by rfl) s (fun W hW => hW.2) ?_
    try simp only [Act.put, List.setIfInBounds_toArray, List.set_cons_zero, List.set_cons_succ]
    refine wpS_s (by exact ⟨HC0.out, HS0.out⟩) rfl (v := ?_) (by rfl) (fun W hSW => ?_) ?_
    rotate_left
    · go_simp
      try rfl
    try simp only [Act.put, List.setIfInBounds_toArray, List.set_cons_zero, List.set_cons_succ]
    clear hs hrr
    obtain ⟨o1, ho1, hS1⟩ : ∃ o1, (if cap = 1 then o else o + 32) = o1 ∧ ∀ W, W.rangeAt b (o + 32) (cellsAll r) → SumsAt W (.slice (some ⟨b, o1, none⟩) n (cap - 1)) r := by
      refine ⟨_, rfl, fun W hW => ?_⟩
      by_cases hcap : cap = 1
      · rw [if_pos hcap]
        have : r = [] := List.length_eq_zero_iff.1 (by have := HN.out; omega)
        exact ⟨_, cap - 1, by rw [HN.out], by rw [← HN.out]; omega, by unfold maxLen; omega, .inl this⟩
      · rw [if_neg hcap]
        exact ⟨_, cap - 1, by rw [HN.out], by rw [← HN.out]; omega, by unfold maxLen; omega, .inr ⟨b, o + 32, rfl, hW⟩⟩
    have HS1 := Lib.hid hS1; clear hS1
    have hsl : ∀ W : World, (Instr.slice 22 (.slice (some ⟨b, o, none⟩) (n + 1) cap) (some (.int .i64 1)) none none).run Tryz.prog W = .ok (.slice (some ⟨b, o1, none⟩) n (cap - 1)) W := by
      intro W
      by_cases hcap : cap = 1
      · have hn0 : n = 0 := by omega
        rw [if_pos hcap] at ho1
        subst hcap hn0 ho1
        go_simp
      · rw [if_neg hcap] at ho1
        subst ho1
        have kc4 : ¬ (cap = 1) := hcap
        go_simp
    clear ho1
    iterate 1
      refine wpS_t rfl (v := ?_) (by rfl) (fun W => ?_) ?_
      rotate_left
      · go_simp
        try rfl
      try simp only [Act.put, List.setIfInBounds_toArray, List.set_cons_zero, List.set_cons_succ]
    clear hsl
    have hcw : c ≠ w.heap.size := Nat.ne_of_lt hc
    have hbw : b ≠ w.heap.size := Nat.ne_of_lt hb
    refine wpS_k rfl (by rfl) (fun K hK => ?_)
    refine wp_store_sum _ _ (by rfl) w.heap.size 0 s (by rfl) (by rfl) HT0.out ?_
    have hk1 := keeps_setCells_ w.heap.size (cellsOf s) 0 W0
    have HR1 := Lib.hid (range_stored w.heap.size (cellsOf s) 0 W0 (by rw [length_cellsOf]; exact World.there_setCells HT0.out _ _ _))
    have HT1 := Lib.hid (World.there_setCells HT0.out w.heap.size 0 (cellsOf s))
    have HC1 := Lib.hid (hk1.cell HC0.out (by exact hcw))
    have HS1' := Lib.hid (hk1.range HS0.out (by exact hbw))
    have HB1 := Lib.hid (setCells_below w.heap.size (Nat.le_refl _) (cellsOf s) 0 w W0 HB0.out)
    generalize W0.setCells w.heap.size 0 (cellsOf s) = W1 at *
    refine hK _ _ ⟨by exact ⟨HC1.out, HS1'.out⟩, ?_⟩; clear hK K
    try simp only [Act.put]
    refine wpS_e rfl (by rfl) (fun K hK => ?_)
    have hh1 : W1.heap[c]? = some (.cells #[.slice (some ⟨b, o, none⟩) (n + 1) cap] 22 (0, 0)) := (HB1.out.block c hc).trans HH.out
    have HH1 := Lib.hid hh1
    have hc1' : W1.cell? ⟨c, 0, none⟩ = some (.slice (some ⟨b, o, none⟩) (n + 1) cap) := HC1.out
    have hf1 : W1.frozen? ⟨c, 0, none⟩ = false := frozen_of_row W1 c _ _ _ hh1
    clear hh1 hk1
    go_simp
    have hk2 : Keeps (· = c) W1 (W1.setCell ⟨c, 0, none⟩ (.slice (some ⟨b, o1, none⟩) n (cap - 1))) := (Keeps.refl (· = c) W1).setCell (p := ⟨c, 0, none⟩) (.inl rfl) _
    have HH2 := Lib.hid (heap_setCell_same W1 c 0 _ _ (.slice (some ⟨b, o1, none⟩) n (cap - 1)) HH1.out)
    have HR2 := Lib.hid (hk2.range HR1.out (fun h => hcw h.symm))
    have HT2 := Lib.hid (hk2.there HT1.out (by omega) (fun h => hcw h.symm))
    have HS2 := Lib.hid (hk2.range (range_below HB1.out HRR.out hb) hbc)
    have HK2 := Lib.hid ((Keeps.of_below (X := (· = c)) HB1.out).trans hk2)
    generalize W1.setCell ⟨c, 0, none⟩ (.slice (some ⟨b, o1, none⟩) n (cap - 1)) = W2 at *
    clear hc1' hf1 hk2
    refine hK _ _ ?_; clear hK K
    try simp only [Act.put, List.setIfInBounds_toArray, List.set_cons_zero, List.set_cons_succ]
    refine wpS_done ?_
    go_wp2_with (first
      | (refine wpList_load_sum rfl _ rfl w.heap.size 0 rfl s HR2.out ?_)
      | (refine wpList_store_sum rfl _ _ rfl w.heap.size 0 s rfl rfl HT2.out ?_))
    have hk3 := keeps_setCells_ w.heap.size (cellsOf s) 0 W2
    refine bodyPost_ret (results_cell_tmp Tryz.results107 _ _ w.heap.size 0 (cellsOf s) _ rfl (range_stored _ _ _ _ (by rw [length_cellsOf]; exact World.there_setCells HT2.out _ _ _)) Tryz.underlying24 rfl (by rw [length_cellsOf]; exact infoSum)) rfl ?_
    refine ⟨rfl, ⟨.slice (some ⟨b, o1, none⟩) n (cap - 1), hk3.heap (by simpa using HH2.out) (by exact hcw), HS1.out _ (hk3.range HS2.out (by exact hbw)), fun _ k hk => by
      have : b = k := by simpa [Value.ownBlock] using hk
      exact this ▸ ⟨hbc, HBB.out⟩⟩, HK2.out.trans' hk3 (fun i hi => .inr (by omega))⟩
end Go.Proofs.YtdkcndgehgmadaaGreatDoor
-- Walks: chains: Mark, Root.
open Go Go.RowKit Alm
namespace Go.Proofs.YtdkcndgehgmadaaGreatDoor
theorem ChainIn.short {base : Nat} {w : World} {c f : Nat} {v vf : Value} {es : List Ent} {l : List (List UInt8)} (h : ChainIn base w c f v vf es l) : l.length < 4000000000 := by
  have := h.front.2.2.2.1
  rwa [List.length_map] at this
theorem ChainIn.at_ {base : Nat} {w : World} {c f : Nat} {v vf : Value} {es : List Ent} {l : List (List UInt8)} (h : ChainIn base w c f v vf es l) : ChainAt base w c l := ⟨f, v, vf, es, h⟩
set_option maxRecDepth 100000 in
theorem mark1_at {base : Nat} {w : World} {c f : Nat} {v vf : Value} {es : List Ent} {l : List (List UInt8)} (h : ChainIn base w c f v vf es l) (k : Nat) (hk : k ≤ l.length) (a : Option Addr) (cap : Nat) (hv : v = .slice a l.length cap) :
    Calls Tryz.prog 121 #[.slice a k cap] w fun e w' => e = .returned (.tuple #[sv (mk (l.take k)), .int .i64 0]) ∧ Below w.heap.size w w' := by
  have R0 : Res w 32 (w.alloc (.cells (cells8 (List.replicate 32 0)).toArray 24)) := Res.start _ _ _ _ (by rfl)
  have HL := Lib.hid (last_at (h.below R0.below) k hk a cap hv)
  have HR := Lib.hid R0
  have hfm := field_mark
  clear h R0 hv
  generalize hs : mk (l.take k) = s at *
  clear hs
  go_enter Tryz.func121, Tryz.ntmps121
  go_wp2_with fail
  refine HL.out.mono ?_
  rintro e w1 ⟨⟨p, r, rfl, -⟩, hb⟩
  have R1 := HR.out.call (by omega) hb
  clear HL HR
  go_wp2_with (refine wpList_store_sum rfl _ _ rfl w.heap.size 0 s rfl rfl R1.there ?_)
  have RS := R1.store (cellsOf s)
  exact bodyPost_ret (results_cell_tmp Tryz.results121 _ _ w.heap.size 0 (cellsOf s) _ rfl (range_stored _ _ _ _ (by rw [length_cellsOf]; exact RS.there)) Tryz.underlying24 rfl (by rw [length_cellsOf]; exact infoSum)) rfl ⟨rfl, RS.below⟩
set_option maxRecDepth 100000 in
theorem root1_at {base : Nat} {w : World} {c f : Nat} {v vf : Value} {es : List Ent} {l : List (List UInt8)} (h : ChainIn base w c f v vf es l) (k : Nat) (hk : k ≤ l.length) (a : Option Addr) (cap : Nat) (hv : v = .slice a l.length cap) :
    Calls Tryz.prog 122 #[.slice a k cap] w fun e w' => e = .returned (.tuple #[sv (rt ((l.take k).map lf)), .int .i64 0]) ∧ Below w.heap.size w w' := by
  have R0 : Res w 32 (w.alloc (.cells (cells8 (List.replicate 32 0)).toArray 24)) := Res.start _ _ _ _ (by rfl)
  have HR := Lib.hid R0
  by_cases h0 : k = 0
  · subst h0
    rw [List.take_zero, List.map_nil]
    have hr := rt_any [] (.slice none 0 0) (w.alloc (.cells (cells8 (List.replicate 32 0)).toArray 24)) ⟨none, 0, rfl, Nat.le_refl _, by decide, .inl rfl⟩
    generalize rt [] = s at *
    have HL := Lib.hid hr
    clear hr h R0 hv
    go_enter Tryz.func122, Tryz.ntmps122
    go_wp2_with fail
    refine HL.out.mono ?_
    rintro e w1 ⟨rfl, hb⟩
    have R1 := HR.out.call (by omega) hb
    clear HL HR
    go_wp2_with (refine wpList_store_sum rfl _ _ rfl w.heap.size 0 s rfl rfl R1.there ?_)
    have RS := R1.store (cellsOf s)
    exact bodyPost_ret (results_cell_tmp Tryz.results122 _ _ w.heap.size 0 (cellsOf s) _ rfl (range_stored _ _ _ _ (by rw [length_cellsOf]; exact RS.there)) Tryz.underlying24 rfl (by rw [length_cellsOf]; exact infoSum)) rfl ⟨rfl, RS.below⟩
  · have HL := Lib.hid (last_at (h.below R0.below) k hk a cap hv)
    have hfm := field_root
    clear h R0 hv
    have hkz : ((k : Int) == 0) = false := by rw [beq_eq_false_iff_ne]; omega
    have H0 := Lib.hid h0
    clear h0 hk
    generalize hs : rt ((l.take k).map lf) = s at *
    clear hs
    go_enter Tryz.func122, Tryz.ntmps122
    go_wp2_with fail
    refine HL.out.mono ?_
    rintro e w1 ⟨⟨p, r, rfl, hr⟩, hb⟩
    obtain rfl := hr H0.out
    have R1 := HR.out.call (by omega) hb
    clear HL HR hr
    go_wp2_with (refine wpList_store_sum rfl _ _ rfl w.heap.size 0 r rfl rfl R1.there ?_)
    have RS := R1.store (cellsOf r)
    exact bodyPost_ret (results_cell_tmp Tryz.results122 _ _ w.heap.size 0 (cellsOf r) _ rfl (range_stored _ _ _ _ (by rw [length_cellsOf]; exact RS.there)) Tryz.underlying24 rfl (by rw [length_cellsOf]; exact infoSum)) rfl ⟨rfl, RS.below⟩
set_option maxRecDepth 100000 in
theorem first_mark (base : Nat) (w : World) (c : Nat) (l : List (List UInt8)) (h : ChainAt base w c l) (k : Nat) (hk : k ≤ l.length) :
    Calls Tryz.prog 120 #[.pointer (some ⟨c, 0, none⟩), .int .u64 (k : Int), .func (.func 121) #[] #[]] w fun e w' => e = .returned (.tuple #[sv (mk (l.take k)), .int .i64 0]) ∧ Below w.heap.size w w' := by
  have R0 : Res w 32 (w.alloc (.cells (cells8 (List.replicate 32 0)).toArray 24)) := Res.start _ _ _ _ (by rfl)
  obtain ⟨f, v, vf, es, h0⟩ := h
  have h2 := h0.below R0.below
  have HZ := Lib.hid (csize_at base _ c l h2.at_)
  have HC0 := Lib.hid h2.c0
  have hc1 : (w.alloc (.cells (cells8 [0, 0, 0, 0, 0, 0, 0, 0, 0, 0, 0, 0, 0, 0, 0, 0, 0, 0, 0, 0, 0, 0, 0, 0, 0, 0, 0, 0, 0, 0, 0, 0]).toArray 24)).cell? ⟨c, 1, none⟩ = some v := h2.c1
  have hsh := h2.short
  have hsh' : (l.length : Int) < 4000000000 := by omega
  have hkl : ¬ ((l.length : Int) < (k : Int)) := by omega
  have HR := Lib.hid R0
  obtain ⟨a, cap, rfl, k1, k2, k3⟩ := h2.form
  have HT := Lib.hid (mark1_at h2 k hk a cap rfl)
  clear h0 R0
  unfold maxLen at k2
  have b1 : (k : Int) ≤ (cap : Int) := by omega
  have b2 : (k : Int) < 4000000000 := by omega
  have h3 : (l = [] ∧ a = none ∧ cap = 0) ∨ ∃ g, a = some ⟨g, 0, none⟩ := by
    rcases k3 with h0 | ⟨g, hg, _⟩
    · left
      have := h2.nil h0
      simp only [Value.slice.injEq] at this
      exact ⟨h0, this.1, this.2.2⟩
    · exact .inr ⟨g, hg⟩
  clear h2 k3
  generalize hs : mk (l.take k) = s at *
  clear hs
  rcases h3 with ⟨rfl, rfl, rfl⟩ | ⟨g, rfl⟩
  · obtain rfl : k = 0 := by simpa using hk
    have hc1' : (w.alloc (.cells (cells8 [0, 0, 0, 0, 0, 0, 0, 0, 0, 0, 0, 0, 0, 0, 0, 0, 0, 0, 0, 0, 0, 0, 0, 0, 0, 0, 0, 0, 0, 0, 0, 0]).toArray 24)).cell? ⟨c, 1, none⟩ = some (.slice none 0 0) := hc1
    have HZ' : Hid (Calls Tryz.prog 34 #[.pointer (some ⟨c, 0, none⟩)] (w.alloc (.cells (cells8 (List.replicate 32 0)).toArray 24)) fun e w' => e = .returned (.int .u64 0) ∧ (w.alloc (.cells (cells8 (List.replicate 32 0)).toArray 24)) = w') := HZ
    clear hkl b1 b2 hsh hsh' hk k1 k2 hc1 HZ
    go_enter Tryz.func120, Tryz.ntmps120
    go_wp2_with (first
      | (go_at_call 112; refine (cnone_live _ c f HC0.out).mono ?_; rintro e w1 ⟨rfl, rfl⟩)
      | (go_at_call 34; refine HZ'.out.mono ?_; rintro e w1 ⟨rfl, rfl⟩))
    refine HT.out.mono ?_
    rintro e w1 ⟨rfl, hb⟩
    have R1 := HR.out.call (by omega) hb
    clear HT HR
    go_wp2_with (refine wpList_store_sum rfl _ _ rfl w.heap.size 0 s rfl rfl R1.there ?_)
    have RS := R1.store (cellsOf s)
    exact bodyPost_ret (results_cell_tmp Tryz.results120 _ _ w.heap.size 0 (cellsOf s) _ rfl (range_stored _ _ _ _ (by rw [length_cellsOf]; exact RS.there)) Tryz.underlying24 rfl (by rw [length_cellsOf]; exact infoSum)) rfl ⟨rfl, RS.below⟩
  · generalize l.length = n at *
    have hd : decide (n < k) = false := decide_eq_false (by omega)
    clear k2 k1 hsh hk hkl hsh' b2
    go_enter Tryz.func120, Tryz.ntmps120
    go_wp2_with (first
      | (go_at_call 112; refine (cnone_live _ c f HC0.out).mono ?_; rintro e w1 ⟨rfl, rfl⟩)
      | (go_at_call 34; refine HZ.out.mono ?_; rintro e w1 ⟨rfl, rfl⟩))
    refine HT.out.mono ?_
    rintro e w1 ⟨rfl, hb⟩
    have R1 := HR.out.call (by omega) hb
    clear HT HR
    go_wp2_with (refine wpList_store_sum rfl _ _ rfl w.heap.size 0 s rfl rfl R1.there ?_)
    have RS := R1.store (cellsOf s)
    exact bodyPost_ret (results_cell_tmp Tryz.results120 _ _ w.heap.size 0 (cellsOf s) _ rfl (range_stored _ _ _ _ (by rw [length_cellsOf]; exact RS.there)) Tryz.underlying24 rfl (by rw [length_cellsOf]; exact infoSum)) rfl ⟨rfl, RS.below⟩
set_option maxRecDepth 100000 in
theorem first_mark_arg (base : Nat) (w : World) (c : Nat) (l : List (List UInt8)) (h : ChainAt base w c l) (k : Nat) (hk : l.length < k) :
    Calls Tryz.prog 120 #[.pointer (some ⟨c, 0, none⟩), .int .u64 (k : Int), .func (.func 121) #[] #[]] w fun e w' => e = .returned (.tuple #[sv zeroSum, .int .i64 1]) ∧ Below w.heap.size w w' := by
  have R0 : Res w 32 (w.alloc (.cells (cells8 (List.replicate 32 0)).toArray 24)) := Res.start _ _ _ _ (by rfl)
  obtain ⟨f, v, vf, es, h0⟩ := h
  have h2 := h0.below R0.below
  have hz : (w.alloc (.cells (cells8 (List.replicate 32 0)).toArray 24)).rangeAt w.heap.size 0 (cellsOf zeroSum) := range_new w _ _ _ (by rw [cellsOf_zeroSum])
  have HZZ := Lib.hid hz; clear hz
  have HZ := Lib.hid (csize_at base _ c l h2.at_)
  have HC0 := Lib.hid h2.c0
  have hkl : ((l.length : Int) < (k : Int)) := by omega
  have HR := Lib.hid R0
  clear h0 R0 h2 hk
  generalize l.length = n at *
  go_enter Tryz.func120, Tryz.ntmps120
  go_wp2_with (first
    | (go_at_call 112; refine (cnone_live _ c f HC0.out).mono ?_; rintro e w1 ⟨rfl, rfl⟩)
    | (go_at_call 34; refine HZ.out.mono ?_; rintro e w1 ⟨rfl, rfl⟩)
    | (refine wpList_load_sum rfl _ rfl w.heap.size 0 rfl zeroSum HZZ.out ?_)
    | (refine wpList_store_sum rfl _ _ rfl w.heap.size 0 zeroSum rfl rfl HR.out.there ?_))
  exact bodyPost_ret (results_cell_tmp Tryz.results120 _ _ w.heap.size 0 (cellsOf zeroSum) _ rfl (range_stored _ _ _ _ (by rw [length_cellsOf]; exact World.there_setCells HR.out.there _ _ _)) Tryz.underlying24 rfl (by rw [length_cellsOf]; exact infoSum)) rfl ⟨rfl, (HR.out.store _).below⟩
theorem cmark_at (base : Nat) (w : World) (c : Nat) (l : List (List UInt8)) (h : ChainAt base w c l) (k : Nat) (hk : k ≤ l.length) :
    Calls Tryz.prog 36 #[.pointer (some ⟨c, 0, none⟩), .int .u64 (k : Int)] w fun e w' => e = .returned (.tuple #[sv (mk (l.take k)), .int .i64 0]) ∧ Below w.heap.size w w' := by
  have R0 : Res w 32 (w.alloc (.cells (cells8 (List.replicate 32 0)).toArray 24)) := Res.start _ _ _ _ (by rfl)
  have HT := Lib.hid (first_mark base _ c l (h.below R0.below) k hk)
  have HR := Lib.hid R0
  clear h R0
  generalize hs : mk (l.take k) = s at *
  clear hs
  go_enter Tryz.func36, Tryz.ntmps36
  go_wp2_with fail
  refine HT.out.mono ?_
  rintro e w1 ⟨rfl, hb⟩
  have R1 := HR.out.call (by omega) hb
  clear HT HR
  go_wp2_with (refine wpList_store_sum rfl _ _ rfl w.heap.size 0 s rfl rfl R1.there ?_)
  have RS := R1.store (cellsOf s)
  exact bodyPost_ret (results_cell_tmp Tryz.results36 _ _ w.heap.size 0 (cellsOf s) _ rfl (range_stored _ _ _ _ (by rw [length_cellsOf]; exact RS.there)) Tryz.underlying24 rfl (by rw [length_cellsOf]; exact infoSum)) rfl ⟨rfl, RS.below⟩
theorem cmark_arg (base : Nat) (w : World) (c : Nat) (l : List (List UInt8)) (h : ChainAt base w c l) (k : Nat) (hk : l.length < k) :
    Calls Tryz.prog 36 #[.pointer (some ⟨c, 0, none⟩), .int .u64 (k : Int)] w fun e w' => e = .returned (.tuple #[sv (zeroSum), .int .i64 1]) ∧ Below w.heap.size w w' := by
  have R0 : Res w 32 (w.alloc (.cells (cells8 (List.replicate 32 0)).toArray 24)) := Res.start _ _ _ _ (by rfl)
  have HT := Lib.hid (first_mark_arg base _ c l (h.below R0.below) k hk)
  have HR := Lib.hid R0
  clear h R0
  generalize hs : zeroSum = s at *
  clear hs
  go_enter Tryz.func36, Tryz.ntmps36
  go_wp2_with fail
  refine HT.out.mono ?_
  rintro e w1 ⟨rfl, hb⟩
  have R1 := HR.out.call (by omega) hb
  clear HT HR
  go_wp2_with (refine wpList_store_sum rfl _ _ rfl w.heap.size 0 s rfl rfl R1.there ?_)
  have RS := R1.store (cellsOf s)
  exact bodyPost_ret (results_cell_tmp Tryz.results36 _ _ w.heap.size 0 (cellsOf s) _ rfl (range_stored _ _ _ _ (by rw [length_cellsOf]; exact RS.there)) Tryz.underlying24 rfl (by rw [length_cellsOf]; exact infoSum)) rfl ⟨rfl, RS.below⟩
set_option maxRecDepth 100000 in
theorem first_root (base : Nat) (w : World) (c : Nat) (l : List (List UInt8)) (h : ChainAt base w c l) (k : Nat) (hk : k ≤ l.length) :
    Calls Tryz.prog 120 #[.pointer (some ⟨c, 0, none⟩), .int .u64 (k : Int), .func (.func 122) #[] #[]] w fun e w' => e = .returned (.tuple #[sv (rt ((l.take k).map lf)), .int .i64 0]) ∧ Below w.heap.size w w' := by
  have R0 : Res w 32 (w.alloc (.cells (cells8 (List.replicate 32 0)).toArray 24)) := Res.start _ _ _ _ (by rfl)
  obtain ⟨f, v, vf, es, h0⟩ := h
  have h2 := h0.below R0.below
  have HZ := Lib.hid (csize_at base _ c l h2.at_)
  have HC0 := Lib.hid h2.c0
  have hc1 : (w.alloc (.cells (cells8 [0, 0, 0, 0, 0, 0, 0, 0, 0, 0, 0, 0, 0, 0, 0, 0, 0, 0, 0, 0, 0, 0, 0, 0, 0, 0, 0, 0, 0, 0, 0, 0]).toArray 24)).cell? ⟨c, 1, none⟩ = some v := h2.c1
  have hsh := h2.short
  have hsh' : (l.length : Int) < 4000000000 := by omega
  have hkl : ¬ ((l.length : Int) < (k : Int)) := by omega
  have HR := Lib.hid R0
  obtain ⟨a, cap, rfl, k1, k2, k3⟩ := h2.form
  have HT := Lib.hid (root1_at h2 k hk a cap rfl)
  clear h0 R0
  unfold maxLen at k2
  have b1 : (k : Int) ≤ (cap : Int) := by omega
  have b2 : (k : Int) < 4000000000 := by omega
  have h3 : (l = [] ∧ a = none ∧ cap = 0) ∨ ∃ g, a = some ⟨g, 0, none⟩ := by
    rcases k3 with h0 | ⟨g, hg, _⟩
    · left
      have := h2.nil h0
      simp only [Value.slice.injEq] at this
      exact ⟨h0, this.1, this.2.2⟩
    · exact .inr ⟨g, hg⟩
  clear h2 k3
  generalize hs : rt ((l.take k).map lf) = s at *
  clear hs
  rcases h3 with ⟨rfl, rfl, rfl⟩ | ⟨g, rfl⟩
  · obtain rfl : k = 0 := by simpa using hk
    have hc1' : (w.alloc (.cells (cells8 [0, 0, 0, 0, 0, 0, 0, 0, 0, 0, 0, 0, 0, 0, 0, 0, 0, 0, 0, 0, 0, 0, 0, 0, 0, 0, 0, 0, 0, 0, 0, 0]).toArray 24)).cell? ⟨c, 1, none⟩ = some (.slice none 0 0) := hc1
    have HZ' : Hid (Calls Tryz.prog 34 #[.pointer (some ⟨c, 0, none⟩)] (w.alloc (.cells (cells8 (List.replicate 32 0)).toArray 24)) fun e w' => e = .returned (.int .u64 0) ∧ (w.alloc (.cells (cells8 (List.replicate 32 0)).toArray 24)) = w') := HZ
    clear hkl b1 b2 hsh hsh' hk k1 k2 hc1 HZ
    go_enter Tryz.func120, Tryz.ntmps120
    go_wp2_with (first
      | (go_at_call 112; refine (cnone_live _ c f HC0.out).mono ?_; rintro e w1 ⟨rfl, rfl⟩)
      | (go_at_call 34; refine HZ'.out.mono ?_; rintro e w1 ⟨rfl, rfl⟩))
    refine HT.out.mono ?_
    rintro e w1 ⟨rfl, hb⟩
    have R1 := HR.out.call (by omega) hb
    clear HT HR
    go_wp2_with (refine wpList_store_sum rfl _ _ rfl w.heap.size 0 s rfl rfl R1.there ?_)
    have RS := R1.store (cellsOf s)
    exact bodyPost_ret (results_cell_tmp Tryz.results120 _ _ w.heap.size 0 (cellsOf s) _ rfl (range_stored _ _ _ _ (by rw [length_cellsOf]; exact RS.there)) Tryz.underlying24 rfl (by rw [length_cellsOf]; exact infoSum)) rfl ⟨rfl, RS.below⟩
  · generalize l.length = n at *
    have hd : decide (n < k) = false := decide_eq_false (by omega)
    clear k2 k1 hsh hk hkl hsh' b2
    go_enter Tryz.func120, Tryz.ntmps120
    go_wp2_with (first
      | (go_at_call 112; refine (cnone_live _ c f HC0.out).mono ?_; rintro e w1 ⟨rfl, rfl⟩)
      | (go_at_call 34; refine HZ.out.mono ?_; rintro e w1 ⟨rfl, rfl⟩))
    refine HT.out.mono ?_
    rintro e w1 ⟨rfl, hb⟩
    have R1 := HR.out.call (by omega) hb
    clear HT HR
    go_wp2_with (refine wpList_store_sum rfl _ _ rfl w.heap.size 0 s rfl rfl R1.there ?_)
    have RS := R1.store (cellsOf s)
    exact bodyPost_ret (results_cell_tmp Tryz.results120 _ _ w.heap.size 0 (cellsOf s) _ rfl (range_stored _ _ _ _ (by rw [length_cellsOf]; exact RS.there)) Tryz.underlying24 rfl (by rw [length_cellsOf]; exact infoSum)) rfl ⟨rfl, RS.below⟩
set_option maxRecDepth 100000 in
theorem first_root_arg (base : Nat) (w : World) (c : Nat) (l : List (List UInt8)) (h : ChainAt base w c l) (k : Nat) (hk : l.length < k) :
    Calls Tryz.prog 120 #[.pointer (some ⟨c, 0, none⟩), .int .u64 (k : Int), .func (.func 122) #[] #[]] w fun e w' => e = .returned (.tuple #[sv zeroSum, .int .i64 1]) ∧ Below w.heap.size w w' := by
  have R0 : Res w 32 (w.alloc (.cells (cells8 (List.replicate 32 0)).toArray 24)) := Res.start _ _ _ _ (by rfl)
  obtain ⟨f, v, vf, es, h0⟩ := h
  have h2 := h0.below R0.below
  have hz : (w.alloc (.cells (cells8 (List.replicate 32 0)).toArray 24)).rangeAt w.heap.size 0 (cellsOf zeroSum) := range_new w _ _ _ (by rw [cellsOf_zeroSum])
  have HZZ := Lib.hid hz; clear hz
  have HZ := Lib.hid (csize_at base _ c l h2.at_)
  have HC0 := Lib.hid h2.c0
  have hkl : ((l.length : Int) < (k : Int)) := by omega
  have HR := Lib.hid R0
  clear h0 R0 h2 hk
  generalize l.length = n at *
  go_enter Tryz.func120, Tryz.ntmps120
  go_wp2_with (first
    | (go_at_call 112; refine (cnone_live _ c f HC0.out).mono ?_; rintro e w1 ⟨rfl, rfl⟩)
    | (go_at_call 34; refine HZ.out.mono ?_; rintro e w1 ⟨rfl, rfl⟩)
    | (refine wpList_load_sum rfl _ rfl w.heap.size 0 rfl zeroSum HZZ.out ?_)
    | (refine wpList_store_sum rfl _ _ rfl w.heap.size 0 zeroSum rfl rfl HR.out.there ?_))
  exact bodyPost_ret (results_cell_tmp Tryz.results120 _ _ w.heap.size 0 (cellsOf zeroSum) _ rfl (range_stored _ _ _ _ (by rw [length_cellsOf]; exact World.there_setCells HR.out.there _ _ _)) Tryz.underlying24 rfl (by rw [length_cellsOf]; exact infoSum)) rfl ⟨rfl, (HR.out.store _).below⟩
theorem croot_at (base : Nat) (w : World) (c : Nat) (l : List (List UInt8)) (h : ChainAt base w c l) (k : Nat) (hk : k ≤ l.length) :
    Calls Tryz.prog 37 #[.pointer (some ⟨c, 0, none⟩), .int .u64 (k : Int)] w fun e w' => e = .returned (.tuple #[sv (rt ((l.take k).map lf)), .int .i64 0]) ∧ Below w.heap.size w w' := by
  have R0 : Res w 32 (w.alloc (.cells (cells8 (List.replicate 32 0)).toArray 24)) := Res.start _ _ _ _ (by rfl)
  have HT := Lib.hid (first_root base _ c l (h.below R0.below) k hk)
  have HR := Lib.hid R0
  clear h R0
  generalize hs : rt ((l.take k).map lf) = s at *
  clear hs
  go_enter Tryz.func37, Tryz.ntmps37
  go_wp2_with fail
  refine HT.out.mono ?_
  rintro e w1 ⟨rfl, hb⟩
  have R1 := HR.out.call (by omega) hb
  clear HT HR
  go_wp2_with (refine wpList_store_sum rfl _ _ rfl w.heap.size 0 s rfl rfl R1.there ?_)
  have RS := R1.store (cellsOf s)
  exact bodyPost_ret (results_cell_tmp Tryz.results37 _ _ w.heap.size 0 (cellsOf s) _ rfl (range_stored _ _ _ _ (by rw [length_cellsOf]; exact RS.there)) Tryz.underlying24 rfl (by rw [length_cellsOf]; exact infoSum)) rfl ⟨rfl, RS.below⟩
theorem croot_arg (base : Nat) (w : World) (c : Nat) (l : List (List UInt8)) (h : ChainAt base w c l) (k : Nat) (hk : l.length < k) :
    Calls Tryz.prog 37 #[.pointer (some ⟨c, 0, none⟩), .int .u64 (k : Int)] w fun e w' => e = .returned (.tuple #[sv (zeroSum), .int .i64 1]) ∧ Below w.heap.size w w' := by
  have R0 : Res w 32 (w.alloc (.cells (cells8 (List.replicate 32 0)).toArray 24)) := Res.start _ _ _ _ (by rfl)
  have HT := Lib.hid (first_root_arg base _ c l (h.below R0.below) k hk)
  have HR := Lib.hid R0
  clear h R0
  generalize hs : zeroSum = s at *
  clear hs
  go_enter Tryz.func37, Tryz.ntmps37
  go_wp2_with fail
  refine HT.out.mono ?_
  rintro e w1 ⟨rfl, hb⟩
  have R1 := HR.out.call (by omega) hb
  clear HT HR
  go_wp2_with (refine wpList_store_sum rfl _ _ rfl w.heap.size 0 s rfl rfl R1.there ?_)
  have RS := R1.store (cellsOf s)
  exact bodyPost_ret (results_cell_tmp Tryz.results37 _ _ w.heap.size 0 (cellsOf s) _ rfl (range_stored _ _ _ _ (by rw [length_cellsOf]; exact RS.there)) Tryz.underlying24 rfl (by rw [length_cellsOf]; exact infoSum)) rfl ⟨rfl, RS.below⟩
end Go.Proofs.YtdkcndgehgmadaaGreatDoor
