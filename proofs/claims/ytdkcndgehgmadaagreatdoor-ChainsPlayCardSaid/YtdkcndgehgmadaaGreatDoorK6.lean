/-
  Walks: chains: asks, Path, Link.
-/
import Derived.Test.YtdkcndgehgmadaaGreatDoorZAU
import Derived.Test.YtdkcndgehgmadaaGreatDoorZBN
open Go Go.RowKit Alm
namespace Go.Proofs.YtdkcndgehgmadaaGreatDoor
/-- What is told: sums, and a number. -/
def ToldAs (w : World) (r : List Sum) (E : Int) (e : Ending) (w' : World) : Prop := ∃ v', e = .returned (.tuple #[v', .int .i64 E]) ∧ SumsNew w' w.heap.size v' r ∧ Below w.heap.size w w'
theorem ToldAs.mono {w w1 w' : World} {r : List Sum} {E : Int} {e : Ending} (hb : Below w.heap.size w w1) (h : ToldAs w1 r E e w') : ToldAs w r E e w' := by
  obtain ⟨v', he, hs, hb2⟩ := h
  exact ⟨v', he, hs.mono hb.size, hb.trans (hb2.mono hb.size)⟩
def zEN : Array Value := Array.replicate 96 (.int .u8 0) ++ #[.slice none 0 0]
theorem run_alloc_ent (w : World) : (Instr.alloc 129 true (.tuple #[])).run Tryz.prog w = .ok (.pointer (some ⟨w.heap.size, 0, none⟩)) (w.alloc (.cells zEN 129)) := by kernel_rfl
theorem wpList_alloc_ent {ops : Array Oper} {rest : List Oper} {op : Oper} {a : Act} {w : World} {Q : Exit → Act → World → Prop} (hgd : op.guard = none) (ho : op.op = .alloc 129)
    (h : wpList Tryz.prog ops Q rest (a.put op.dst (.pointer (some ⟨w.heap.size, 0, none⟩))) (w.alloc (.cells zEN 129))) : wpList Tryz.prog ops Q (op :: rest) a w :=
  wpList_plain hgd fun _ hK => by
    unfold Oper.wp execOp
    simp only [ho, Sem.run_bind, Sem.run_pure, Result.andThen_ok, run_alloc_ent]
    exact hK _ _ h
theorem wpList_load_ent {ops : Array Oper} {rest : List Oper} {op : Oper} {a : Act} {w : World} {Q : Exit → Act → World → Prop} (hgd : op.guard = none) (x : Operand) (ho : op.op = .load 129 x)
    (b o : Nat) (hx : a.eval x = .pointer (some ⟨b, o, none⟩)) (e : Ent) (hc : w.rangeAt b o (cellsEnt e))
    (h : wpList Tryz.prog ops Q rest (a.put op.dst (.agg (cellsEnt e).toArray)) w) : wpList Tryz.prog ops Q (op :: rest) a w :=
  wpList_load_mid hgd _ x ho b o hx (cellsEnt e) _ hc Tryz.underlying129 rfl (by rw [length_cellsEnt]; exact infoEnt) h
theorem ChainIn.leaves {base : Nat} {w : World} {c f : Nat} {v vf : Value} {es : List Ent} {l : List (List UInt8)} (h : ChainIn base w c f v vf es l) (k : Nat) : (es.take k).map (·.leaf) = (l.take k).map lf := by
  have hall : es.map (·.leaf) = l.map lf := by
    apply List.ext_getElem (by rw [List.length_map, List.length_map, h.len])
    intro i h1 h2
    rw [List.length_map] at h1 h2
    rw [List.getElem_map, List.getElem_map]
    exact (h.ents i _ _ (List.getElem?_eq_getElem h1) (List.getElem?_eq_getElem h2)).leaf
  rw [List.map_take, List.map_take, hall]
set_option maxRecDepth 100000 in
set_option maxHeartbeats 1000000 in
theorem asks_paths (es : List Ent) (v : Value) (w : World) (hv : EntsAt w v es) (k : Nat) (hk : k ≤ es.length) (hn : es.length < 1000000) (r : List Sum) (E : Int)
    (hO : ∀ u W, SumsAt W u (es.map (·.leaf)) → Calls Tryz.prog 9 #[u, .int .i64 (k : Int)] W (ToldAs W r E)) :
    Calls Tryz.prog 182 #[.int .u64 (k : Int), v, .func (.func 9) #[] #[]] w (ToldAs w r E) := by
  have HV := Lib.hid hv
  obtain ⟨aa, ca, rfl, a1, a2, a3⟩ := hv
  clear a3
  obtain ⟨n, hna⟩ : ∃ n, n = es.length := ⟨_, rfl⟩
  rw [← hna] at HV a1 hn hk ⊢
  have HN := Lib.hid hna
  have HO := Lib.hid hO
  clear hna hO
  have kn : decide (n < k) = false := decide_eq_false (by omega)
  have kn' : ¬ ((n : Int) < (k : Int)) := by omega
  unfold maxLen at a2
  go_enter Tryz.func182, Tryz.ntmps182
  go_wp2_with fail
  go_loopw [8, 18] (fun out i W => ∃ j : Nat, j ≤ n ∧ i = .int .i64 (j : Int) ∧ W.ownsRow w.heap.size 24 32 out j (cellsAll ((es.take j).map (·.leaf))) ∧ (j = 0 → out = .slice none 0 0) ∧ Below w.heap.size w W) (fun _ i _ => n - (intOf i).toNat)
  case atStart => exact ⟨0, by omega, rfl, World.ownsRow_nil _ _ _ _, fun _ => rfl, Below.refl _ _⟩
  case round =>
    obtain ⟨j, hj, rfl, ho, hnil, hB⟩ := hrel
    have HO1 := Lib.hid ho; clear ho
    have HNIL := Lib.hid hnil; clear hnil
    have HB := Lib.hid hB; clear hB
    by_cases hlt : j < n
    · have hlt' : (j : Int) < (n : Int) := by omega
      have h0 : es ≠ [] := by intro h; have := HN.out; rw [h] at this; simp at this; omega
      obtain ⟨b1, hb1, hr1⟩ : ∃ b, aa = some ⟨b, 0, none⟩ ∧ wr.rangeAt b 0 (cellsEnts es) := by
        obtain ⟨a9, c9, e9, _, _, h9⟩ := HV.out.below HB.out
        simp only [Value.slice.injEq] at e9
        obtain ⟨rfl, -, rfl⟩ := e9
        exact h9.resolve_left h0
      subst hb1
      have hjl : j < es.length := by have := HN.out; omega
      have hent := ents_at hr1 hjl
      rw [Nat.zero_add] at hent
      have hstep : (es.take (j + 1)).map (·.leaf) = (es.take j).map (·.leaf) ++ [es[j].leaf] := by rw [List.take_succ_eq_append_getElem hjl, List.map_append]; rfl
      have HST := Lib.hid hstep
      have HX := Lib.hid hent
      clear hent hstep h0 hr1
      generalize es[j] = x at *
      clear hjl
      have hml : ((es.take j).map (·.leaf)).length = j := by rw [List.length_map, List.length_take]; have := HN.out; omega
      have HML := Lib.hid hml; clear hml
      generalize (es.take j).map (·.leaf) = acc at *
      obtain ⟨y, hy⟩ : ∃ y, y = x.leaf := ⟨_, rfl⟩
      rw [← hy] at HST
      have HY := Lib.hid hy; clear hy
      have hj0 : (0 : Int) ≤ (j : Int) := by omega
      go_wp2_with (first
        | (refine wpList_load_ent rfl _ rfl b1 (j * 97) rfl x HX.out ?_)
        | (refine wpList_alloc_ent rfl rfl ?_; refine wpList_var_ent (by rfl) rfl _ _ rfl x rfl rfl ?_; intro w2 hb2 hr2; obtain ⟨z, hz⟩ : ∃ z, z = wr.heap.size := ⟨_, rfl⟩; rw [← hz] at hr2 ⊢; have HB2 := Lib.hid (HB.out.trans (hb2.mono HB.out.size)); have HO2 := Lib.hid ((Keeps.of_below (X := fun _ => False) hb2).owns HO1.out (fun _ _ h => h)); have HR2 := Lib.hid hr2; clear hb2 hr2 hz HB HO1 HX)
        | (refine wpList_load_sum rfl _ rfl z 0 rfl y (by rw [HY.out]; exact ent_leaf HR2.out.range) ?_)
        | (refine wpList_build_sums rfl 1 _ rfl [y] rfl (by omega) (by omega) rfl ?_; have HB3 := Lib.hid (HB2.out.alloc HB2.out.size (.cells (cellsAll [y]).toArray 24)); have HX3 : Hid ((w2.alloc (.cells (cellsAll [y]).toArray 24)).rangeAt w2.heap.size 0 (cellsAll [y])) := range_new w2 _ _ _ rfl)
        | (at_builtin; refine wpList_append_sums rfl _ _ rfl w.heap.size _ acc [y] j 1 HML.out rfl (by rfl) (HO2.out.alloc _) w2.heap.size 0 1 rfl HX3.out (by omega) (by omega) HB3.out.size ?_; intro g4 c4 w4 ho4 hg4 hat4 hlt4; have HB4 := Lib.hid (HB3.out.grown hg4 HB3.out.size (fun k hk => (HO2.out.lt k hk).1))))
      exact ⟨⟨j + 1, by omega, by simp, by rw [HST.out]; exact ho4, by omega, HB4.out⟩, by simp [intOf]; omega⟩
    · have hjn : j = n := by omega
      subst hjn
      have htk : es.take j = es := List.take_of_length_le (by rw [HN.out]; exact Nat.le_refl _)
      have ho := HO1.out
      rw [htk] at ho
      have hml : (es.map (·.leaf)).length = j := by rw [List.length_map, ← HN.out]
      rw [← hml] at ho
      have HSN := Lib.hid (own_new' ho (fun h => HNIL.out (by rw [← hml, h]; rfl)))
      clear htk ho hml HO1
      go_wp2_with fail
      refine (HO.out _ _ HSN.out.sums).mono ?_
      rintro e w1 hT
      have hT2 := ToldAs.mono HB.out hT
      clear hT HSN HO
      obtain ⟨v', rfl, hs, hb⟩ := hT2
      have HS := Lib.hid (And.intro hs hb)
      clear hs hb HB
      go_wp2_with fail
      refine bodyPost_ret (results_tmp2 rfl _ _ _) rfl ?_
      exact ⟨_, rfl, HS.out.1, HS.out.2⟩
set_option maxRecDepth 100000 in
theorem place_paths (es : List Ent) (v : Value) (w : World) (hv : EntsAt w v es) (k : Nat) (hk : k ≤ es.length) (hn : es.length < 1000000) (r : List Sum) (E : Int)
    (hO : ∀ u W, SumsAt W u (es.map (·.leaf)) → Calls Tryz.prog 9 #[u, .int .i64 (k : Int)] W (ToldAs W r E)) :
    Calls Tryz.prog 124 #[.int .u64 (k : Int), v] w (ToldAs w r E) := by
  have HC := Lib.hid (asks_paths es v w hv k hk hn r E hO)
  clear hv hk hn hO
  go_enter Tryz.func124, Tryz.ntmps124
  go_wp2_with fail
  refine HC.out.mono ?_
  rintro e w1 ⟨v', rfl, hs, hb⟩
  have HS := Lib.hid (And.intro hs hb)
  clear hs hb HC
  go_wp2_with fail
  refine bodyPost_ret (results_tmp2 rfl _ _ _) rfl ?_
  exact ⟨_, rfl, HS.out.1, HS.out.2⟩
set_option maxRecDepth 100000 in
theorem first_paths (base : Nat) (w : World) (c : Nat) (l : List (List UInt8)) (h : ChainAt base w c l) (k : Nat) (hk : k ≤ l.length) (p : Nat) (hp : p ≤ k) (hn : k < 1000000) (r : List Sum) (E : Int)
    (hO : ∀ u W, SumsAt W u ((l.take k).map lf) → Calls Tryz.prog 9 #[u, .int .i64 (p : Int)] W (ToldAs W r E)) :
    Calls Tryz.prog 123 #[.pointer (some ⟨c, 0, none⟩), .int .u64 (k : Int), .func (.func 124) #[.int .u64 (p : Int)] #[]] w (ToldAs w r E) := by
  obtain ⟨f, v, vf, es, h2⟩ := h
  have HZ := Lib.hid (csize_at base _ c l h2.at_)
  have HC0 := Lib.hid h2.c0
  have hc1 := h2.c1
  have hsh := h2.short
  have hsh' : (l.length : Int) < 4000000000 := by omega
  have hkl : ¬ ((l.length : Int) < (k : Int)) := by omega
  obtain ⟨a, cap, rfl, k1, k2, k3⟩ := h2.form
  have hes := h2.take k hk a cap rfl
  have hlen : (es.take k).length = k := by rw [List.length_take, h2.len]; omega
  have hmap : (es.take k).map (·.leaf) = (l.take k).map lf := h2.leaves k
  rw [← hmap] at hO
  have HT := Lib.hid (place_paths (es.take k) _ w hes p (by rw [hlen]; exact hp) (by rw [hlen]; exact hn) r E hO)
  clear hes hlen hmap hO
  unfold maxLen at k2
  have b1 : (k : Int) ≤ (cap : Int) := by omega
  have b2 : (k : Int) < 4000000000 := by omega
  have h3 : (l = [] ∧ a = none ∧ cap = 0) ∨ ∃ g, a = some ⟨g, 0, none⟩ := by
    rcases k3 with h0 | ⟨g, hg, _⟩
    · left
      have := h2.nil h0
      simp only [Value.slice.injEq] at this
      exact ⟨h0, this.1, this.2.2⟩
    · exact .inr ⟨g, hg⟩
  clear h2 k3
  rcases h3 with ⟨rfl, rfl, rfl⟩ | ⟨g, rfl⟩
  · obtain rfl : k = 0 := by simpa using hk
    have HZ' : Hid (Calls Tryz.prog 34 #[.pointer (some ⟨c, 0, none⟩)] w fun e w' => e = .returned (.int .u64 0) ∧ w = w') := HZ
    have hc1' : w.cell? ⟨c, 1, none⟩ = some (.slice none 0 0) := hc1
    clear hkl b1 b2 hsh hsh' hk k1 k2 HZ hc1
    go_enter Tryz.func123, Tryz.ntmps123
    go_wp2_with (first
      | (go_at_call 112; refine (cnone_live _ c f HC0.out).mono ?_; rintro e w1 ⟨rfl, rfl⟩)
      | (go_at_call 34; refine HZ'.out.mono ?_; rintro e w1 ⟨rfl, rfl⟩))
    refine HT.out.mono ?_
    rintro e w1 ⟨v', rfl, hs, hb⟩
    have HS := Lib.hid (And.intro hs hb)
    clear hs hb HT
    go_wp2_with fail
    refine bodyPost_ret (results_tmp2 rfl _ _ _) rfl ?_
    exact ⟨_, rfl, HS.out.1, HS.out.2⟩
  · generalize l.length = n at *
    have hd : decide (n < k) = false := decide_eq_false (by omega)
    clear k2 k1 hsh hk hkl hsh' b2
    go_enter Tryz.func123, Tryz.ntmps123
    go_wp2_with (first
      | (go_at_call 112; refine (cnone_live _ c f HC0.out).mono ?_; rintro e w1 ⟨rfl, rfl⟩)
      | (go_at_call 34; refine HZ.out.mono ?_; rintro e w1 ⟨rfl, rfl⟩))
    refine HT.out.mono ?_
    rintro e w1 ⟨v', rfl, hs, hb⟩
    have HS := Lib.hid (And.intro hs hb)
    clear hs hb HT
    go_wp2_with fail
    refine bodyPost_ret (results_tmp2 rfl _ _ _) rfl ?_
    exact ⟨_, rfl, HS.out.1, HS.out.2⟩
theorem cpath_at (base : Nat) (w : World) (c : Nat) (l : List (List UInt8)) (h : ChainAt base w c l) (k : Nat) (hk : k ≤ l.length) (p : Nat) (hp : p ≤ k) (hn : k < 1000000) (r : List Sum) (E : Int)
    (hO : ∀ u W, SumsAt W u ((l.take k).map lf) → Calls Tryz.prog 9 #[u, .int .i64 (p : Int)] W (ToldAs W r E)) :
    Calls Tryz.prog 38 #[.pointer (some ⟨c, 0, none⟩), .int .u64 (p : Int), .int .u64 (k : Int)] w (ToldAs w r E) := by
  have HT := Lib.hid (first_paths base w c l h k hk p hp hn r E hO)
  have hmf : ∀ (fn : Fn) (first cap : Array Value) (w : World), (Instr.makeFunc fn first cap).run Tryz.prog w = .ok (.func fn first cap) w := fun _ _ _ _ => rfl
  clear h hk hp hn hO
  go_enter Tryz.func38, Tryz.ntmps38
  go_wp2_with fail
  refine HT.out.mono ?_
  rintro e w1 ⟨v', rfl, hs, hb⟩
  have HS := Lib.hid (And.intro hs hb)
  clear hs hb HT
  go_wp2_with fail
  refine bodyPost_ret (results_tmp2 rfl _ _ _) rfl ?_
  exact ⟨_, rfl, HS.out.1, HS.out.2⟩
set_option maxRecDepth 100000 in
set_option maxHeartbeats 1000000 in
theorem asks_links (es : List Ent) (v : Value) (w : World) (hv : EntsAt w v es) (k : Nat) (hk : k ≤ es.length) (hn : es.length < 1000000) (r : List Sum) (E : Int)
    (hO : ∀ u W, SumsAt W u (es.map (·.leaf)) → Calls Tryz.prog 24 #[u, .int .i64 (k : Int)] W (ToldAs W r E)) :
    Calls Tryz.prog 182 #[.int .u64 (k : Int), v, .func (.func 24) #[] #[]] w (ToldAs w r E) := by
  have HV := Lib.hid hv
  obtain ⟨aa, ca, rfl, a1, a2, a3⟩ := hv
  clear a3
  obtain ⟨n, hna⟩ : ∃ n, n = es.length := ⟨_, rfl⟩
  rw [← hna] at HV a1 hn hk ⊢
  have HN := Lib.hid hna
  have HO := Lib.hid hO
  clear hna hO
  have kn : decide (n < k) = false := decide_eq_false (by omega)
  have kn' : ¬ ((n : Int) < (k : Int)) := by omega
  unfold maxLen at a2
  go_enter Tryz.func182, Tryz.ntmps182
  go_wp2_with fail
  go_loopw [8, 18] (fun out i W => ∃ j : Nat, j ≤ n ∧ i = .int .i64 (j : Int) ∧ W.ownsRow w.heap.size 24 32 out j (cellsAll ((es.take j).map (·.leaf))) ∧ (j = 0 → out = .slice none 0 0) ∧ Below w.heap.size w W) (fun _ i _ => n - (intOf i).toNat)
  case atStart => exact ⟨0, by omega, rfl, World.ownsRow_nil _ _ _ _, fun _ => rfl, Below.refl _ _⟩
  case round =>
    obtain ⟨j, hj, rfl, ho, hnil, hB⟩ := hrel
    have HO1 := Lib.hid ho; clear ho
    have HNIL := Lib.hid hnil; clear hnil
    have HB := Lib.hid hB; clear hB
    by_cases hlt : j < n
    · have hlt' : (j : Int) < (n : Int) := by omega
      have h0 : es ≠ [] := by intro h; have := HN.out; rw [h] at this; simp at this; omega
      obtain ⟨b1, hb1, hr1⟩ : ∃ b, aa = some ⟨b, 0, none⟩ ∧ wr.rangeAt b 0 (cellsEnts es) := by
        obtain ⟨a9, c9, e9, _, _, h9⟩ := HV.out.below HB.out
        simp only [Value.slice.injEq] at e9
        obtain ⟨rfl, -, rfl⟩ := e9
        exact h9.resolve_left h0
      subst hb1
      have hjl : j < es.length := by have := HN.out; omega
      have hent := ents_at hr1 hjl
      rw [Nat.zero_add] at hent
      have hstep : (es.take (j + 1)).map (·.leaf) = (es.take j).map (·.leaf) ++ [es[j].leaf] := by rw [List.take_succ_eq_append_getElem hjl, List.map_append]; rfl
      have HST := Lib.hid hstep
      have HX := Lib.hid hent
      clear hent hstep h0 hr1
      generalize es[j] = x at *
      clear hjl
      have hml : ((es.take j).map (·.leaf)).length = j := by rw [List.length_map, List.length_take]; have := HN.out; omega
      have HML := Lib.hid hml; clear hml
      generalize (es.take j).map (·.leaf) = acc at *
      obtain ⟨y, hy⟩ : ∃ y, y = x.leaf := ⟨_, rfl⟩
      rw [← hy] at HST
      have HY := Lib.hid hy; clear hy
      have hj0 : (0 : Int) ≤ (j : Int) := by omega
      go_wp2_with (first
        | (refine wpList_load_ent rfl _ rfl b1 (j * 97) rfl x HX.out ?_)
        | (refine wpList_alloc_ent rfl rfl ?_; refine wpList_var_ent (by rfl) rfl _ _ rfl x rfl rfl ?_; intro w2 hb2 hr2; obtain ⟨z, hz⟩ : ∃ z, z = wr.heap.size := ⟨_, rfl⟩; rw [← hz] at hr2 ⊢; have HB2 := Lib.hid (HB.out.trans (hb2.mono HB.out.size)); have HO2 := Lib.hid ((Keeps.of_below (X := fun _ => False) hb2).owns HO1.out (fun _ _ h => h)); have HR2 := Lib.hid hr2; clear hb2 hr2 hz HB HO1 HX)
        | (refine wpList_load_sum rfl _ rfl z 0 rfl y (by rw [HY.out]; exact ent_leaf HR2.out.range) ?_)
        | (refine wpList_build_sums rfl 1 _ rfl [y] rfl (by omega) (by omega) rfl ?_; have HB3 := Lib.hid (HB2.out.alloc HB2.out.size (.cells (cellsAll [y]).toArray 24)); have HX3 : Hid ((w2.alloc (.cells (cellsAll [y]).toArray 24)).rangeAt w2.heap.size 0 (cellsAll [y])) := range_new w2 _ _ _ rfl)
        | (at_builtin; refine wpList_append_sums rfl _ _ rfl w.heap.size _ acc [y] j 1 HML.out rfl (by rfl) (HO2.out.alloc _) w2.heap.size 0 1 rfl HX3.out (by omega) (by omega) HB3.out.size ?_; intro g4 c4 w4 ho4 hg4 hat4 hlt4; have HB4 := Lib.hid (HB3.out.grown hg4 HB3.out.size (fun k hk => (HO2.out.lt k hk).1))))
      exact ⟨⟨j + 1, by omega, by simp, by rw [HST.out]; exact ho4, by omega, HB4.out⟩, by simp [intOf]; omega⟩
    · have hjn : j = n := by omega
      subst hjn
      have htk : es.take j = es := List.take_of_length_le (by rw [HN.out]; exact Nat.le_refl _)
      have ho := HO1.out
      rw [htk] at ho
      have hml : (es.map (·.leaf)).length = j := by rw [List.length_map, ← HN.out]
      rw [← hml] at ho
      have HSN := Lib.hid (own_new' ho (fun h => HNIL.out (by rw [← hml, h]; rfl)))
      clear htk ho hml HO1
      go_wp2_with fail
      refine (HO.out _ _ HSN.out.sums).mono ?_
      rintro e w1 hT
      have hT2 := ToldAs.mono HB.out hT
      clear hT HSN HO
      obtain ⟨v', rfl, hs, hb⟩ := hT2
      have HS := Lib.hid (And.intro hs hb)
      clear hs hb HB
      go_wp2_with fail
      refine bodyPost_ret (results_tmp2 rfl _ _ _) rfl ?_
      exact ⟨_, rfl, HS.out.1, HS.out.2⟩
set_option maxRecDepth 100000 in
theorem place_links (es : List Ent) (v : Value) (w : World) (hv : EntsAt w v es) (k : Nat) (hk : k ≤ es.length) (hn : es.length < 1000000) (r : List Sum) (E : Int)
    (hO : ∀ u W, SumsAt W u (es.map (·.leaf)) → Calls Tryz.prog 24 #[u, .int .i64 (k : Int)] W (ToldAs W r E)) :
    Calls Tryz.prog 125 #[.int .u64 (k : Int), v] w (ToldAs w r E) := by
  have HC := Lib.hid (asks_links es v w hv k hk hn r E hO)
  clear hv hk hn hO
  go_enter Tryz.func125, Tryz.ntmps125
  go_wp2_with fail
  refine HC.out.mono ?_
  rintro e w1 ⟨v', rfl, hs, hb⟩
  have HS := Lib.hid (And.intro hs hb)
  clear hs hb HC
  go_wp2_with fail
  refine bodyPost_ret (results_tmp2 rfl _ _ _) rfl ?_
  exact ⟨_, rfl, HS.out.1, HS.out.2⟩
set_option maxRecDepth 100000 in
theorem first_links (base : Nat) (w : World) (c : Nat) (l : List (List UInt8)) (h : ChainAt base w c l) (k : Nat) (hk : k ≤ l.length) (p : Nat) (hp : p ≤ k) (hn : k < 1000000) (r : List Sum) (E : Int)
    (hO : ∀ u W, SumsAt W u ((l.take k).map lf) → Calls Tryz.prog 24 #[u, .int .i64 (p : Int)] W (ToldAs W r E)) :
    Calls Tryz.prog 123 #[.pointer (some ⟨c, 0, none⟩), .int .u64 (k : Int), .func (.func 125) #[.int .u64 (p : Int)] #[]] w (ToldAs w r E) := by
  obtain ⟨f, v, vf, es, h2⟩ := h
  have HZ := Lib.hid (csize_at base _ c l h2.at_)
  have HC0 := Lib.hid h2.c0
  have hc1 := h2.c1
  have hsh := h2.short
  have hsh' : (l.length : Int) < 4000000000 := by omega
  have hkl : ¬ ((l.length : Int) < (k : Int)) := by omega
  obtain ⟨a, cap, rfl, k1, k2, k3⟩ := h2.form
  have hes := h2.take k hk a cap rfl
  have hlen : (es.take k).length = k := by rw [List.length_take, h2.len]; omega
  have hmap : (es.take k).map (·.leaf) = (l.take k).map lf := h2.leaves k
  rw [← hmap] at hO
  have HT := Lib.hid (place_links (es.take k) _ w hes p (by rw [hlen]; exact hp) (by rw [hlen]; exact hn) r E hO)
  clear hes hlen hmap hO
  unfold maxLen at k2
  have b1 : (k : Int) ≤ (cap : Int) := by omega
  have b2 : (k : Int) < 4000000000 := by omega
  have h3 : (l = [] ∧ a = none ∧ cap = 0) ∨ ∃ g, a = some ⟨g, 0, none⟩ := by
    rcases k3 with h0 | ⟨g, hg, _⟩
    · left
      have := h2.nil h0
      simp only [Value.slice.injEq] at this
      exact ⟨h0, this.1, this.2.2⟩
    · exact .inr ⟨g, hg⟩
  clear h2 k3
  rcases h3 with ⟨rfl, rfl, rfl⟩ | ⟨g, rfl⟩
  · obtain rfl : k = 0 := by simpa using hk
    have HZ' : Hid (Calls Tryz.prog 34 #[.pointer (some ⟨c, 0, none⟩)] w fun e w' => e = .returned (.int .u64 0) ∧ w = w') := HZ
    have hc1' : w.cell? ⟨c, 1, none⟩ = some (.slice none 0 0) := hc1
    clear hkl b1 b2 hsh hsh' hk k1 k2 HZ hc1
    go_enter Tryz.func123, Tryz.ntmps123
    go_wp2_with (first
      | (go_at_call 112; refine (cnone_live _ c f HC0.out).mono ?_; rintro e w1 ⟨rfl, rfl⟩)
      | (go_at_call 34; refine HZ'.out.mono ?_; rintro e w1 ⟨rfl, rfl⟩))
    refine HT.out.mono ?_
    rintro e w1 ⟨v', rfl, hs, hb⟩
    have HS := Lib.hid (And.intro hs hb)
    clear hs hb HT
    go_wp2_with fail
    refine bodyPost_ret (results_tmp2 rfl _ _ _) rfl ?_
    exact ⟨_, rfl, HS.out.1, HS.out.2⟩
  · generalize l.length = n at *
    have hd : decide (n < k) = false := decide_eq_false (by omega)
    clear k2 k1 hsh hk hkl hsh' b2
    go_enter Tryz.func123, Tryz.ntmps123
    go_wp2_with (first
      | (go_at_call 112; refine (cnone_live _ c f HC0.out).mono ?_; rintro e w1 ⟨rfl, rfl⟩)
      | (go_at_call 34; refine HZ.out.mono ?_; rintro e w1 ⟨rfl, rfl⟩))
    refine HT.out.mono ?_
    rintro e w1 ⟨v', rfl, hs, hb⟩
    have HS := Lib.hid (And.intro hs hb)
    clear hs hb HT
    go_wp2_with fail
    refine bodyPost_ret (results_tmp2 rfl _ _ _) rfl ?_
    exact ⟨_, rfl, HS.out.1, HS.out.2⟩
theorem clink_at (base : Nat) (w : World) (c : Nat) (l : List (List UInt8)) (h : ChainAt base w c l) (k : Nat) (hk : k ≤ l.length) (p : Nat) (hp : p ≤ k) (hn : k < 1000000) (r : List Sum) (E : Int)
    (hO : ∀ u W, SumsAt W u ((l.take k).map lf) → Calls Tryz.prog 24 #[u, .int .i64 (p : Int)] W (ToldAs W r E)) :
    Calls Tryz.prog 39 #[.pointer (some ⟨c, 0, none⟩), .int .u64 (p : Int), .int .u64 (k : Int)] w (ToldAs w r E) := by
  have HT := Lib.hid (first_links base w c l h k hk p hp hn r E hO)
  have hmf : ∀ (fn : Fn) (first cap : Array Value) (w : World), (Instr.makeFunc fn first cap).run Tryz.prog w = .ok (.func fn first cap) w := fun _ _ _ _ => rfl
  clear h hk hp hn hO
  go_enter Tryz.func39, Tryz.ntmps39
  go_wp2_with fail
  refine HT.out.mono ?_
  rintro e w1 ⟨v', rfl, hs, hb⟩
  have HS := Lib.hid (And.intro hs hb)
  clear hs hb HT
  go_wp2_with fail
  refine bodyPost_ret (results_tmp2 rfl _ _ _) rfl ?_
  exact ⟨_, rfl, HS.out.1, HS.out.2⟩
theorem cpath_told (base : Nat) (w : World) (c : Nat) (l : List (List UInt8)) (h : ChainAt base w c l) (k : Nat) (hk : k ≤ l.length) (p : Nat) (hp : p < k) (hn : k < 1000000) :
    Calls Tryz.prog 38 #[.pointer (some ⟨c, 0, none⟩), .int .u64 (p : Int), .int .u64 (k : Int)] w (ToldAs w (path nd e0 ((l.take k).map lf) p) 0) :=
  cpath_at base w c l h k hk p (Nat.le_of_lt hp) hn _ 0 (fun u W hu => pathsOf_any _ p u W hu (by rw [List.length_map, List.length_take]; omega) (by rw [List.length_map, List.length_take]; omega))
theorem clink_told (base : Nat) (w : World) (c : Nat) (l : List (List UInt8)) (h : ChainAt base w c l) (k : Nat) (hk : k ≤ l.length) (p : Nat) (hp : p ≤ k) (h1 : 1 ≤ p) (hn : k < 1000000) :
    Calls Tryz.prog 39 #[.pointer (some ⟨c, 0, none⟩), .int .u64 (p : Int), .int .u64 (k : Int)] w (ToldAs w (link nd e0 ((l.take k).map lf) p true) 0) :=
  clink_at base w c l h k hk p hp hn _ 0 (fun u W hu => linksOf_any _ p u W hu h1 (by rw [List.length_map, List.length_take]; omega) (by rw [List.length_map, List.length_take]; omega))
theorem clinksOf_arg (l : List Sum) (v : Value) (w : World) (hv : SumsAt w v l) : Calls Tryz.prog 24 #[v, .int .i64 0] w (ToldAs w [] 1) := by
  obtain ⟨a, cap, rfl, _, _, _⟩ := hv
  go_enter Tryz.func24, Tryz.ntmps24
  go_wp2_with fail
  exact bodyPost_ret (results_tmp2 rfl _ _ _) rfl ⟨_, rfl, .inl ⟨rfl, rfl⟩, Below.refl _ _⟩
theorem clink_arg (base : Nat) (w : World) (c : Nat) (l : List (List UInt8)) (h : ChainAt base w c l) (k : Nat) (hk : k ≤ l.length) (hn : k < 1000000) :
    Calls Tryz.prog 39 #[.pointer (some ⟨c, 0, none⟩), .int .u64 0, .int .u64 (k : Int)] w (ToldAs w [] 1) :=
  clink_at base w c l h k hk 0 (Nat.zero_le _) hn _ 1 (fun u W hu => clinksOf_arg _ u W hu)
end Go.Proofs.YtdkcndgehgmadaaGreatDoor
