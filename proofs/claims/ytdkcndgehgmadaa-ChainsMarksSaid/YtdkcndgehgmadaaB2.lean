/-
  Walks: lists of bytes: bytes.Equal, clashes.same, clashes.sums, clashes.root.
-/
import Derived.Test.YtdkcndgehgmadaaB1
import Derived.Test.YtdkcndgehgmadaaG2
open Go Go.RowKit Alm
namespace Go.Proofs.Ytdkcndgehgmadaa
theorem bytesOf_nums (l : List UInt8) : Lib.bytesOf (l.map fun x => ((x.toNat : Nat) : Int)) = l := by
  unfold Lib.bytesOf
  rw [List.map_map]
  conv => rhs; rw [← List.map_id l]
  apply List.map_congr_left
  intro x _
  simp
theorem bytes_in {w : World} {a : Option Addr} {c : Nat} {l : List UInt8} (h : BytesAt w (.slice a l.length c) l) : Lib.BytesIn w a l.length (l.map fun x => ((x.toNat : Nat) : Int)) := by
  obtain ⟨a', cap, he, h1, h2, h3⟩ := h
  by_cases hl : l = []
  · subst hl; exact Lib.BytesIn.nil _ _ _
  · obtain ⟨b, o, rfl, hr⟩ := h3.resolve_left hl
    simp only [Value.slice.injEq] at he
    rw [he.1]
    refine Lib.BytesIn.of_cells fun i hi => ?_
    rw [Addr.add_mid]
    refine hr i _ ?_
    simp [cells8, u8v, hi]
theorem eqb_any (a b : List UInt8) (va vb : Value) (w : World) (ha : BytesAt w va a) (hb : BytesAt w vb b) : Calls Try.prog 90 #[va, vb] w fun e w' => e = .returned (.bool (decide (a = b))) ∧ w = w' := by
  obtain ⟨aa, ca, rfl, a1, a2, a3⟩ := ha
  obtain ⟨ab, cb, rfl, b1, b2, b3⟩ := hb
  refine (Try.bytes_Equal_all aa ab a.length ca b.length cb _ _ w (by simp) (by simp) (bytes_in ⟨aa, ca, rfl, a1, a2, a3⟩) (bytes_in ⟨ab, cb, rfl, b1, b2, b3⟩)).mono ?_
  rintro e w' ⟨rfl, rfl⟩
  rw [bytesOf_nums, bytesOf_nums]
  have : (a == b) = decide (a = b) := by by_cases h : a = b <;> simp [h]
  rw [this]
  exact ⟨rfl, rfl⟩
/-- A list of lists of bytes. -/
def ListsAt (w : World) (v : Value) (ls : List (List UInt8)) : Prop :=
  ∃ a cap, v = .slice a ls.length cap ∧ ls.length ≤ cap ∧ cap ≤ maxLen ∧ (ls = [] ∨ ∃ b o, a = some ⟨b, o, none⟩ ∧ ∀ j (h : j < ls.length), ∃ u, w.cell? ⟨b, o + j, none⟩ = some u ∧ BytesAt w u ls[j])
theorem ListsAt.below {w w' : World} {v : Value} {ls : List (List UInt8)} (h : ListsAt w v ls) (hb : Below w.heap.size w w') : ListsAt w' v ls := by
  obtain ⟨a, cap, hv, h1, h2, h3⟩ := h
  refine ⟨a, cap, hv, h1, h2, ?_⟩
  rcases h3 with h3 | ⟨b, o, ha, h3⟩
  · exact .inl h3
  · refine .inr ⟨b, o, ha, fun j hj => ?_⟩
    obtain ⟨u, hc, hu⟩ := h3 j hj
    exact ⟨u, (hb.cell (p := ⟨b, o + j, none⟩) (World.block_lt_of_cell? w _ hc)).trans hc, bytes_below hu hb (Nat.le_refl _)⟩
theorem ListsAt.cell {w : World} {b o n cap : Nat} {sp : Option Nat} {ls : List (List UInt8)} (h : ListsAt w (.slice (some ⟨b, o, none⟩) n cap) ls) {j : Nat} (hj : j < ls.length) : ∃ u, w.cell? ⟨b, o + j, none⟩ = some u ∧ BytesAt w u ls[j] := by
  obtain ⟨a, c, hv, h1, h2, h3⟩ := h
  have h0 : ls ≠ [] := by intro h; rw [h] at hj; simp at hj
  obtain ⟨b', o', ha, h4⟩ := h3.resolve_left h0
  subst ha
  simp only [Value.slice.injEq, Option.some.injEq, Addr.mk.injEq, and_true] at hv
  obtain ⟨⟨rfl, rfl⟩, _, _⟩ := hv
  exact h4 j hj
theorem ListsAt.form {w : World} {v : Value} {ls : List (List UInt8)} (h : ListsAt w v ls) (h0 : ls ≠ []) : ∃ b o cap, v = .slice (some ⟨b, o, none⟩) ls.length cap ∧ ls.length ≤ cap ∧ cap ≤ maxLen := by
  obtain ⟨a, cap, hv, h1, h2, h3⟩ := h
  obtain ⟨b, o, rfl, _⟩ := h3.resolve_left h0
  exact ⟨b, o, cap, hv, h1, h2⟩
set_option maxRecDepth 100000 in
set_option maxHeartbeats 1000000 in
theorem equalFunc_any (a b : List (List UInt8)) (va vb : Value) (w : World) (ha : ListsAt w va a) (hb : ListsAt w vb b) (hn : a.length < 4000000000) : Calls Try.prog 114 #[va, vb, .func (.func 90) #[] #[]] w fun e w' => e = .returned (.bool (decide (a = b))) ∧ w = w' := by
  have HA := Lib.hid ha
  have HB := Lib.hid hb
  obtain ⟨aa, ca, rfl, a1, a2, a3⟩ := ha
  obtain ⟨ab, cb, rfl, b1, b2, b3⟩ := hb
  clear a3 b3
  obtain ⟨n, hna⟩ : ∃ n, n = a.length := ⟨_, rfl⟩
  obtain ⟨m, hmb⟩ : ∃ n, n = b.length := ⟨_, rfl⟩
  rw [← hna] at HA a1 hn ⊢
  rw [← hmb] at HB b1 ⊢
  have HN := Lib.hid (And.intro hna hmb)
  clear hna hmb
  by_cases hnm : n = m
  · subst hnm
    go_enter Try.func114, Try.ntmps114
    go_wp2_with fail
    go_loopw [17] (fun i W => ∃ j : Nat, j ≤ n ∧ i = .int .i64 (j : Int) ∧ a.take j = b.take j ∧ W = w) (fun i _ => n - (intOf i).toNat)
    case atStart => exact ⟨0, by omega, rfl, rfl, rfl⟩
    case round =>
      obtain ⟨j, hj, rfl, ht, hW⟩ := hrel
      have hW := hW.symm
      subst hW
      have HT := Lib.hid ht; clear ht
      by_cases hlt : j < n
      · have hlt' : (j : Int) < (n : Int) := by omega
        have ha0 : a ≠ [] := by intro h; have := HN.out.1; rw [h] at this; simp at this; omega
        have hb0 : b ≠ [] := by intro h; have := HN.out.2; rw [h] at this; simp at this; omega
        obtain ⟨b1', o1', c1', he1, _, _⟩ := HA.out.form ha0
        obtain ⟨b2', o2', c2', he2, _, _⟩ := HB.out.form hb0
        simp only [Value.slice.injEq] at he1 he2
        obtain ⟨rfl, h9, rfl⟩ := he1
        clear h9
        obtain ⟨rfl, h9, rfl⟩ := he2
        clear h9
        obtain ⟨u1, hc1, hu1⟩ := HA.out.cell (sp := none) (j := j) (by have := HN.out.1; omega)
        obtain ⟨u2, hc2, hu2⟩ := HB.out.cell (sp := none) (j := j) (by have := HN.out.2; omega)
        have HU := Lib.hid (And.intro hu1 hu2)
        have HE := Lib.hid (And.intro (List.getElem?_eq_getElem (l := a) (i := j) (by have := HN.out.1; omega)) (List.getElem?_eq_getElem (l := b) (i := j) (by have := HN.out.2; omega)))
        clear hu1 hu2 ha0 hb0
        have hj0 : (0 : Int) ≤ (j : Int) := by omega
        generalize a[j]'_ = x at *
        generalize b[j]'_ = y at *
        go_wp2_with fail
        refine (eqb_any x y u1 u2 w HU.out.1 HU.out.2).mono ?_
        rintro e w1 ⟨rfl, rfl⟩
        by_cases hxy : x = y
        · rw [decide_eq_true hxy]
          have ht2 : a.take (j + 1) = b.take (j + 1) := by rw [List.take_add_one, List.take_add_one, HT.out, HE.out.1, HE.out.2, hxy]
          have HT2 := Lib.hid ht2
          clear ht2 hxy
          go_wp2_with fail
          exact ⟨⟨j + 1, by omega, by simp, HT2.out, trivial⟩, by simp [intOf]; omega⟩
        · rw [decide_eq_false hxy]
          have hne : ¬ a = b := by
            intro h
            have h1 := HE.out.1
            rw [h, HE.out.2] at h1
            exact hxy (Option.some.inj h1).symm
          have HNE := Lib.hid hne
          clear hxy hne
          go_wp2_with fail
          exact bodyPost_ret (results_tmp rfl _ _ _) rfl ⟨by rw [decide_eq_false HNE.out]; rfl, rfl⟩
      · have hjn : j = n := by omega
        have hab : a = b := by
          have h1 := HT.out
          rw [List.take_of_length_le (by have := HN.out.1; omega), List.take_of_length_le (by have := HN.out.2; omega)] at h1
          exact h1
        have HAB := Lib.hid hab
        clear hab
        subst hjn
        go_wp2_with fail
        exact bodyPost_ret (results_tmp rfl _ _ _) rfl ⟨by rw [decide_eq_true HAB.out]; rfl, rfl⟩
  · have hnm' : ((n : Int) == (m : Int)) = false := by rw [beq_eq_false_iff_ne]; omega
    have hne : ¬ a = b := by
      intro h
      have h1 := HN.out.1
      rw [h, ← HN.out.2] at h1
      exact hnm h1
    have HNE := Lib.hid hne
    clear hne
    go_enter Try.func114, Try.ntmps114
    go_wp2_with fail
    exact bodyPost_ret (results_tmp rfl _ _ _) rfl ⟨by rw [decide_eq_false HNE.out]; rfl, rfl⟩
theorem same_any (a b : List (List UInt8)) (va vb : Value) (w : World) (ha : ListsAt w va a) (hb : ListsAt w vb b) (hn : a.length < 4000000000) : Calls Try.prog 91 #[va, vb] w fun e w' => e = .returned (.bool (decide (a = b))) ∧ w = w' := by
  go_enter Try.func91, Try.ntmps91
  go_wp2_with fail
  refine (equalFunc_any a b va vb w ha hb hn).mono ?_
  rintro e w1 ⟨rfl, rfl⟩
  go_wp2_with fail
  exact bodyPost_ret (results_tmp rfl _ _ _) rfl ⟨rfl, rfl⟩
set_option maxRecDepth 100000 in
set_option maxHeartbeats 1000000 in
theorem csums_any (ls : List (List UInt8)) (v : Value) (w : World) (hv : ListsAt w v ls) (hn : ls.length < 1000000) (hs : ∀ x ∈ ls, x.length < 1000000) : Calls Try.prog 115 #[v] w fun e w' => ∃ u, e = .returned u ∧ SumsAt w' u (ls.map lf) ∧ Below w.heap.size w w' := by
  have HV := Lib.hid hv
  obtain ⟨aa, ca, rfl, a1, a2, a3⟩ := hv
  clear a3
  obtain ⟨n, hna⟩ : ∃ n, n = ls.length := ⟨_, rfl⟩
  rw [← hna] at HV a1 hn ⊢
  have HN := Lib.hid (And.intro hna hs)
  clear hna hs
  go_enter Try.func115, Try.ntmps115
  go_wp2_with fail
  go_loopw [2, 7] (fun out i W => ∃ j : Nat, j ≤ n ∧ i = .int .i64 (j : Int) ∧ W.ownsRow w.heap.size 24 32 out j (cellsAll ((ls.take j).map lf)) ∧ (j = 0 → out = .slice none 0 0) ∧ Below w.heap.size w W) (fun _ i _ => n - (intOf i).toNat)
  case atStart => exact ⟨0, by omega, rfl, World.ownsRow_nil _ _ _ _, fun _ => rfl, Below.refl _ _⟩
  case round =>
    obtain ⟨j, hj, rfl, ho, hnil, hB⟩ := hrel
    have HO := Lib.hid ho; clear ho
    have HNIL := Lib.hid hnil; clear hnil
    have HB := Lib.hid hB; clear hB
    by_cases hlt : j < n
    · have hlt' : (j : Int) < (n : Int) := by omega
      have h0 : ls ≠ [] := by intro h; have := HN.out.1; rw [h] at this; simp at this; omega
      have HW := Lib.hid (HV.out.below HB.out)
      obtain ⟨b1', o1', c1', he1, _, _⟩ := HV.out.form h0
      simp only [Value.slice.injEq] at he1
      obtain ⟨rfl, h9, rfl⟩ := he1
      clear h9
      obtain ⟨u1, hc1, hu1⟩ := HW.out.cell (sp := none) (j := j) (by have := HN.out.1; omega)
      have hjl : j < ls.length := by have := HN.out.1; omega
      have hx9 : ls[j].length < 1000000 := HN.out.2 _ (List.getElem_mem hjl)
      have hstep : (ls.take (j + 1)).map lf = (ls.take j).map lf ++ [lf ls[j]] := by rw [List.take_succ_eq_append_getElem hjl, List.map_append]; rfl
      have HST := Lib.hid hstep
      have HU := Lib.hid (And.intro hu1 hx9)
      clear hu1 hstep hx9 h0
      generalize ls[j] = x at *
      have hj0 : (0 : Int) ≤ (j : Int) := by omega
      clear hjl
      have hml : ((ls.take j).map lf).length = j := by rw [List.length_map, List.length_take]; have := HN.out.1; omega
      have HML := Lib.hid hml; clear hml
      go_wp2_with fail
      refine (lf_any x u1 wr HU.out.1 (by have := HU.out.2; omega)).mono ?_
      rintro e2 w2 ⟨rfl, hb2⟩
      have HB2 := Lib.hid (HB.out.trans (hb2.mono HB.out.size))
      have HO2 := Lib.hid ((Keeps.of_below (X := fun _ => False) hb2).owns HO.out (fun _ _ h => h))
      generalize lf x = y at *
      clear hb2 HB HO HU HW
      generalize (ls.take j).map lf = acc at *
      have HB3 := Lib.hid (HB2.out.alloc HB2.out.size (.cells (cellsAll [y]).toArray 24))
      have HX3 : Hid ((w2.alloc (.cells (cellsAll [y]).toArray 24)).rangeAt w2.heap.size 0 (cellsAll [y])) := range_new w2 _ _ _ rfl
      go_wp2_with (first
        | (refine wpList_build_sums rfl 1 _ rfl [y] rfl (by omega) (by omega) rfl ?_)
        | (at_builtin; refine wpList_append_sums rfl _ _ rfl w.heap.size _ acc [y] j 1 HML.out rfl (by rfl) (HO2.out.alloc _) w2.heap.size 0 1 rfl HX3.out (by omega) (by omega) HB3.out.size ?_; intro g4 c4 w4 ho4 hg4 hat4 hlt4))
      have HB4 := Lib.hid (HB3.out.grown hg4 HB3.out.size (fun k hk => (HO2.out.lt k hk).1))
      exact ⟨⟨j + 1, by omega, by simp, by rw [HST.out]; exact ho4, by omega, HB4.out⟩, by simp [intOf]; omega⟩
    · have hjn : j = n := by omega
      subst hjn
      have htk : ls.take j = ls := List.take_of_length_le (by rw [HN.out.1]; exact Nat.le_refl _)
      have ho := HO.out
      rw [htk] at ho
      have hml : (ls.map lf).length = j := by rw [List.length_map, ← HN.out.1]
      rw [← hml] at ho
      have HSN := Lib.hid (own_new' ho (fun h => HNIL.out (by rw [← hml, h]; rfl)))
      clear htk ho hml HO
      go_wp2_with fail
      refine bodyPost_ret (results_tmp rfl _ _ _) rfl ?_
      exact ⟨_, rfl, HSN.out.sums, HB.out⟩
theorem croot_any (ls : List (List UInt8)) (v : Value) (w : World) (hv : ListsAt w v ls) (hn : ls.length < 1000000) (hs : ∀ x ∈ ls, x.length < 1000000) : Calls Try.prog 92 #[v] w fun e w' => e = .returned (sv (rt (ls.map lf))) ∧ Below w.heap.size w w' := by
  have R0 : Res w 32 (w.alloc (.cells (cells8 (List.replicate 32 0)).toArray 24)) := Res.start _ _ _ _ (by rfl)
  have HC := Lib.hid (csums_any ls v _ (hv.below R0.below) hn hs)
  obtain ⟨s, hsr⟩ : ∃ s, s = rt (ls.map lf) := ⟨_, rfl⟩
  rw [← hsr]
  have HSR := Lib.hid hsr; clear hsr
  have HR := Lib.hid R0
  clear R0 hv hn hs
  go_enter Try.func92, Try.ntmps92
  go_wp2_with fail
  refine HC.out.mono ?_
  rintro e w1 ⟨u, rfl, hu, hb⟩
  have hb1 := HR.out.below.trans (hb.mono HR.out.below.size)
  have ht1 := (Keeps.of_below (X := fun _ => False) hb).there HR.out.there (by decide) (fun h => h)
  have HH := Lib.hid (And.intro hu (And.intro hb1 ht1))
  clear hu hb hb1 ht1 HR HC
  go_wp2_with fail
  refine (rt_any _ u w1 HH.out.1).mono ?_
  rw [← HSR.out]
  rintro e w2 ⟨rfl, hb⟩
  have HT := Lib.hid ((Keeps.of_below (X := fun _ => False) hb).there HH.out.2.2 (by decide) (fun h => h))
  have HB := Lib.hid (HH.out.2.1.trans (hb.mono HH.out.2.1.size))
  clear hb HH
  go_wp2_with (refine wpList_store_sum rfl _ _ rfl w.heap.size 0 s rfl rfl HT.out ?_)
  exact bodyPost_ret (results_sum Try.results92 _ _ _ _ rfl (World.there_setCells HT.out _ _ _)) rfl ⟨rfl, setCells_below _ (Nat.le_refl _) _ _ _ _ HB.out⟩
end Go.Proofs.Ytdkcndgehgmadaa
