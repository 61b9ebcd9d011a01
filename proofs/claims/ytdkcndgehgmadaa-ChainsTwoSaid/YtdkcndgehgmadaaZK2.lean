/-
  Merged: K6, K7, K8, K9.
-/
import Derived.Test.YtdkcndgehgmadaaZK1
import Derived.Test.YtdkcndgehgmadaaP1
import Derived.Test.YtdkcndgehgmadaaZB2
import Derived.Lib.SlBytesRow
-- Walks: chains: asks, Path, Link.
open Go Go.RowKit Alm
namespace Go.Proofs.Ytdkcndgehgmadaa
/-- What is told: sums, and a number. -/
def ToldAs (w : World) (r : List Sum) (E : Int) (e : Ending) (w' : World) : Prop := ∃ v', e = .returned (.tuple #[v', .int .i64 E]) ∧ SumsNew w' w.heap.size v' r ∧ Below w.heap.size w w'
theorem ToldAs.mono {w w1 w' : World} {r : List Sum} {E : Int} {e : Ending} (hb : Below w.heap.size w w1) (h : ToldAs w1 r E e w') : ToldAs w r E e w' := by
  obtain ⟨v', he, hs, hb2⟩ := h
  exact ⟨v', he, hs.mono hb.size, hb.trans (hb2.mono hb.size)⟩
def zEN : Array Value := Array.replicate 96 (.int .u8 0) ++ #[.slice none 0 0]
theorem run_alloc_ent (w : World) : (Instr.alloc 113 true (.tuple #[])).run Try.prog w = .ok (.pointer (some ⟨w.heap.size, 0, none⟩)) (w.alloc (.cells zEN 113)) := by kernel_rfl
theorem wpList_alloc_ent {ops : Array Oper} {rest : List Oper} {op : Oper} {a : Act} {w : World} {Q : Exit → Act → World → Prop} (hgd : op.guard = none) (ho : op.op = .alloc 113)
    (h : wpList Try.prog ops Q rest (a.put op.dst (.pointer (some ⟨w.heap.size, 0, none⟩))) (w.alloc (.cells zEN 113))) : wpList Try.prog ops Q (op :: rest) a w :=
  wpList_plain hgd fun _ hK => by
    unfold Oper.wp execOp
    simp only [ho, Sem.run_bind, Sem.run_pure, Result.andThen_ok, run_alloc_ent]
    exact hK _ _ h
theorem wpList_load_ent {ops : Array Oper} {rest : List Oper} {op : Oper} {a : Act} {w : World} {Q : Exit → Act → World → Prop} (hgd : op.guard = none) (x : Operand) (ho : op.op = .load 113 x)
    (b o : Nat) (hx : a.eval x = .pointer (some ⟨b, o, none⟩)) (e : Ent) (hc : w.rangeAt b o (cellsEnt e))
    (h : wpList Try.prog ops Q rest (a.put op.dst (.agg (cellsEnt e).toArray)) w) : wpList Try.prog ops Q (op :: rest) a w :=
  wpList_load_mid hgd _ x ho b o hx (cellsEnt e) _ hc Try.underlying113 rfl (by rw [length_cellsEnt]; exact infoEnt) h
theorem ChainIn.leaves {base : Nat} {w : World} {c f : Nat} {v vf : Value} {es : List Ent} {l : List (List UInt8)} (h : ChainIn base w c f v vf es l) (k : Nat) : (es.take k).map (·.leaf) = (l.take k).map lf := by
  have hall : es.map (·.leaf) = l.map lf := by
    apply List.ext_getElem (by rw [List.length_map, List.length_map, h.len])
    intro i h1 h2
    rw [List.length_map] at h1 h2
    rw [List.getElem_map, List.getElem_map]
    exact (h.ents i _ _ (List.getElem?_eq_getElem h1) (List.getElem?_eq_getElem h2)).leaf
  rw [List.map_take, List.map_take, hall]
set_option maxRecDepth 100000 in
set_option maxHeartbeats 1000000 in
theorem asks_paths (es : List Ent) (v : Value) (w : World) (hv : EntsAt w v es) (k : Nat) (hk : k ≤ es.length) (hn : es.length < 1000000) (r : List Sum) (E : Int)
    (hO : ∀ u W, SumsAt W u (es.map (·.leaf)) → Calls Try.prog 24 #[u, .int .i64 (k : Int)] W (ToldAs W r E)) :
    Calls Try.prog 110 #[.int .u64 (k : Int), v, .func (.func 24) #[] #[]] w (ToldAs w r E) := by
  have HV := Lib.hid hv
  obtain ⟨aa, ca, rfl, a1, a2, a3⟩ := hv
  clear a3
  obtain ⟨n, hna⟩ : ∃ n, n = es.length := ⟨_, rfl⟩
  rw [← hna] at HV a1 hn hk ⊢
  have HN := Lib.hid hna
  have HO := Lib.hid hO
  clear hna hO
  have kn : decide (n < k) = false := decide_eq_false (by omega)
  have kn' : ¬ ((n : Int) < (k : Int)) := by omega
  unfold maxLen at a2
  go_enter Try.func110, Try.ntmps110
  go_wp2_with fail
  go_loopw [8, 18] (fun out i W => ∃ j : Nat, j ≤ n ∧ i = .int .i64 (j : Int) ∧ W.ownsRow w.heap.size 24 32 out j (cellsAll ((es.take j).map (·.leaf))) ∧ (j = 0 → out = .slice none 0 0) ∧ Below w.heap.size w W) (fun _ i _ => n - (intOf i).toNat)
  case atStart => exact ⟨0, by omega, rfl, World.ownsRow_nil _ _ _ _, fun _ => rfl, Below.refl _ _⟩
  case round =>
    obtain ⟨j, hj, rfl, ho, hnil, hB⟩ := hrel
    have HO1 := Lib.hid ho; clear ho
    have HNIL := Lib.hid hnil; clear hnil
    have HB := Lib.hid hB; clear hB
    by_cases hlt : j < n
    · have hlt' : (j : Int) < (n : Int) := by omega
      have h0 : es ≠ [] := by intro h; have := HN.out; rw [h] at this; simp at this; omega
      obtain ⟨b1, hb1, hr1⟩ : ∃ b, aa = some ⟨b, 0, none⟩ ∧ wr.rangeAt b 0 (cellsEnts es) := by
        obtain ⟨a9, c9, e9, _, _, h9⟩ := HV.out.below HB.out
        simp only [Value.slice.injEq] at e9
        obtain ⟨rfl, -, rfl⟩ := e9
        exact h9.resolve_left h0
      subst hb1
      have hjl : j < es.length := by have := HN.out; omega
      have hent := ents_at hr1 hjl
      rw [Nat.zero_add] at hent
      have hstep : (es.take (j + 1)).map (·.leaf) = (es.take j).map (·.leaf) ++ [es[j].leaf] := by rw [List.take_succ_eq_append_getElem hjl, List.map_append]; rfl
      have HST := Lib.hid hstep
      have HX := Lib.hid hent
      clear hent hstep h0 hr1
      generalize es[j] = x at *
      clear hjl
      have hml : ((es.take j).map (·.leaf)).length = j := by rw [List.length_map, List.length_take]; have := HN.out; omega
      have HML := Lib.hid hml; clear hml
      generalize (es.take j).map (·.leaf) = acc at *
      obtain ⟨y, hy⟩ : ∃ y, y = x.leaf := ⟨_, rfl⟩
      rw [← hy] at HST
      have HY := Lib.hid hy; clear hy
      have hj0 : (0 : Int) ≤ (j : Int) := by omega
      go_wp2_with (first
        | (refine wpList_load_ent rfl _ rfl b1 (j * 97) rfl x HX.out ?_)
        | (refine wpList_alloc_ent rfl rfl ?_; refine wpList_var_ent (by rfl) rfl _ _ rfl x rfl rfl ?_; intro w2 hb2 hr2; obtain ⟨z, hz⟩ : ∃ z, z = wr.heap.size := ⟨_, rfl⟩; rw [← hz] at hr2 ⊢; have HB2 := Lib.hid (HB.out.trans (hb2.mono HB.out.size)); have HO2 := Lib.hid ((Keeps.of_below (X := fun _ => False) hb2).owns HO1.out (fun _ _ h => h)); have HR2 := Lib.hid hr2; clear hb2 hr2 hz HB HO1 HX)
        | (refine wpList_load_sum rfl _ rfl z 0 rfl y (by rw [HY.out]; exact ent_leaf HR2.out.range) ?_)
        | (refine wpList_build_sums rfl 1 _ rfl [y] rfl (by omega) (by omega) rfl ?_; have HB3 := Lib.hid (HB2.out.alloc HB2.out.size (.cells (cellsAll [y]).toArray 24)); have HX3 : Hid ((w2.alloc (.cells (cellsAll [y]).toArray 24)).rangeAt w2.heap.size 0 (cellsAll [y])) := range_new w2 _ _ _ rfl)
        | (at_builtin; refine wpList_append_sums rfl _ _ rfl w.heap.size _ acc [y] j 1 HML.out rfl (by rfl) (HO2.out.alloc _) w2.heap.size 0 1 rfl HX3.out (by omega) (by omega) HB3.out.size ?_; intro g4 c4 w4 ho4 hg4 hat4 hlt4; have HB4 := Lib.hid (HB3.out.grown hg4 HB3.out.size (fun k hk => (HO2.out.lt k hk).1))))
      exact ⟨⟨j + 1, by omega, by simp, by rw [HST.out]; exact ho4, by omega, HB4.out⟩, by simp [intOf]; omega⟩
    · have hjn : j = n := by omega
      subst hjn
      have htk : es.take j = es := List.take_of_length_le (by rw [HN.out]; exact Nat.le_refl _)
      have ho := HO1.out
      rw [htk] at ho
      have hml : (es.map (·.leaf)).length = j := by rw [List.length_map, ← HN.out]
      rw [← hml] at ho
      have HSN := Lib.hid (own_new' ho (fun h => HNIL.out (by rw [← hml, h]; rfl)))
      clear htk ho hml HO1
      go_wp2_with fail
      refine (HO.out _ _ HSN.out.sums).mono ?_
      rintro e w1 hT
      have hT2 := ToldAs.mono HB.out hT
      clear hT HSN HO
      obtain ⟨v', rfl, hs, hb⟩ := hT2
      have HS := Lib.hid (And.intro hs hb)
      clear hs hb HB
      go_wp2_with fail
      refine bodyPost_ret (results_tmp2 rfl _ _ _) rfl ?_
      exact ⟨_, rfl, HS.out.1, HS.out.2⟩
set_option maxRecDepth 100000 in
theorem place_paths (es : List Ent) (v : Value) (w : World) (hv : EntsAt w v es) (k : Nat) (hk : k ≤ es.length) (hn : es.length < 1000000) (r : List Sum) (E : Int)
    (hO : ∀ u W, SumsAt W u (es.map (·.leaf)) → Calls Try.prog 24 #[u, .int .i64 (k : Int)] W (ToldAs W r E)) :
    Calls Try.prog 83 #[.int .u64 (k : Int), v] w (ToldAs w r E) := by
  have HC := Lib.hid (asks_paths es v w hv k hk hn r E hO)
  clear hv hk hn hO
  go_enter Try.func83, Try.ntmps83
  go_wp2_with fail
  refine HC.out.mono ?_
  rintro e w1 ⟨v', rfl, hs, hb⟩
  have HS := Lib.hid (And.intro hs hb)
  clear hs hb HC
  go_wp2_with fail
  refine bodyPost_ret (results_tmp2 rfl _ _ _) rfl ?_
  exact ⟨_, rfl, HS.out.1, HS.out.2⟩
set_option maxRecDepth 100000 in
theorem first_paths (base : Nat) (w : World) (c : Nat) (l : List (List UInt8)) (h : ChainAt base w c l) (k : Nat) (hk : k ≤ l.length) (p : Nat) (hp : p ≤ k) (hn : k < 1000000) (r : List Sum) (E : Int)
    (hO : ∀ u W, SumsAt W u ((l.take k).map lf) → Calls Try.prog 24 #[u, .int .i64 (p : Int)] W (ToldAs W r E)) :
    Calls Try.prog 82 #[.pointer (some ⟨c, 0, none⟩), .int .u64 (k : Int), .func (.func 83) #[.int .u64 (p : Int)] #[]] w (ToldAs w r E) := by
  obtain ⟨f, v, vf, es, h2⟩ := h
  have HZ := Lib.hid (csize_at base _ c l h2.at_)
  have HC0 := Lib.hid h2.c0
  have hc1 := h2.c1
  have hsh := h2.short
  have hsh' : (l.length : Int) < 4000000000 := by omega
  have hkl : ¬ ((l.length : Int) < (k : Int)) := by omega
  obtain ⟨a, cap, rfl, k1, k2, k3⟩ := h2.form
  have hes := h2.take k hk a cap rfl
  have hlen : (es.take k).length = k := by rw [List.length_take, h2.len]; omega
  have hmap : (es.take k).map (·.leaf) = (l.take k).map lf := h2.leaves k
  rw [← hmap] at hO
  have HT := Lib.hid (place_paths (es.take k) _ w hes p (by rw [hlen]; exact hp) (by rw [hlen]; exact hn) r E hO)
  clear hes hlen hmap hO
  unfold maxLen at k2
  have b1 : (k : Int) ≤ (cap : Int) := by omega
  have b2 : (k : Int) < 4000000000 := by omega
  have h3 : (l = [] ∧ a = none ∧ cap = 0) ∨ ∃ g, a = some ⟨g, 0, none⟩ := by
    rcases k3 with h0 | ⟨g, hg, _⟩
    · left
      have := h2.nil h0
      simp only [Value.slice.injEq] at this
      exact ⟨h0, this.1, this.2.2⟩
    · exact .inr ⟨g, hg⟩
  clear h2 k3
  rcases h3 with ⟨rfl, rfl, rfl⟩ | ⟨g, rfl⟩
  · obtain rfl : k = 0 := by simpa using hk
    have HZ' : Hid (Calls Try.prog 44 #[.pointer (some ⟨c, 0, none⟩)] w fun e w' => e = .returned (.int .u64 0) ∧ w = w') := HZ
    have hc1' : w.cell? ⟨c, 1, none⟩ = some (.slice none 0 0) := hc1
    clear hkl b1 b2 hsh hsh' hk k1 k2 HZ hc1
    go_enter Try.func82, Try.ntmps82
    go_wp2_with (first
      | (go_at_call 75; refine (cnone_live _ c f HC0.out).mono ?_; rintro e w1 ⟨rfl, rfl⟩)
      | (go_at_call 44; refine HZ'.out.mono ?_; rintro e w1 ⟨rfl, rfl⟩))
    refine HT.out.mono ?_
    rintro e w1 ⟨v', rfl, hs, hb⟩
    have HS := Lib.hid (And.intro hs hb)
    clear hs hb HT
    go_wp2_with fail
    refine bodyPost_ret (results_tmp2 rfl _ _ _) rfl ?_
    exact ⟨_, rfl, HS.out.1, HS.out.2⟩
  · generalize l.length = n at *
    have hd : decide (n < k) = false := decide_eq_false (by omega)
    clear k2 k1 hsh hk hkl hsh' b2
    go_enter Try.func82, Try.ntmps82
    go_wp2_with (first
      | (go_at_call 75; refine (cnone_live _ c f HC0.out).mono ?_; rintro e w1 ⟨rfl, rfl⟩)
      | (go_at_call 44; refine HZ.out.mono ?_; rintro e w1 ⟨rfl, rfl⟩))
    refine HT.out.mono ?_
    rintro e w1 ⟨v', rfl, hs, hb⟩
    have HS := Lib.hid (And.intro hs hb)
    clear hs hb HT
    go_wp2_with fail
    refine bodyPost_ret (results_tmp2 rfl _ _ _) rfl ?_
    exact ⟨_, rfl, HS.out.1, HS.out.2⟩
theorem cpath_at (base : Nat) (w : World) (c : Nat) (l : List (List UInt8)) (h : ChainAt base w c l) (k : Nat) (hk : k ≤ l.length) (p : Nat) (hp : p ≤ k) (hn : k < 1000000) (r : List Sum) (E : Int)
    (hO : ∀ u W, SumsAt W u ((l.take k).map lf) → Calls Try.prog 24 #[u, .int .i64 (p : Int)] W (ToldAs W r E)) :
    Calls Try.prog 41 #[.pointer (some ⟨c, 0, none⟩), .int .u64 (p : Int), .int .u64 (k : Int)] w (ToldAs w r E) := by
  have HT := Lib.hid (first_paths base w c l h k hk p hp hn r E hO)
  have hmf : ∀ (fn : Fn) (first cap : Array Value) (w : World), (Instr.makeFunc fn first cap).run Try.prog w = .ok (.func fn first cap) w := fun _ _ _ _ => rfl
  clear h hk hp hn hO
  go_enter Try.func41, Try.ntmps41
  go_wp2_with fail
  refine HT.out.mono ?_
  rintro e w1 ⟨v', rfl, hs, hb⟩
  have HS := Lib.hid (And.intro hs hb)
  clear hs hb HT
  go_wp2_with fail
  refine bodyPost_ret (results_tmp2 rfl _ _ _) rfl ?_
  exact ⟨_, rfl, HS.out.1, HS.out.2⟩
set_option maxRecDepth 100000 in
set_option maxHeartbeats 1000000 in
theorem asks_links (es : List Ent) (v : Value) (w : World) (hv : EntsAt w v es) (k : Nat) (hk : k ≤ es.length) (hn : es.length < 1000000) (r : List Sum) (E : Int)
    (hO : ∀ u W, SumsAt W u (es.map (·.leaf)) → Calls Try.prog 36 #[u, .int .i64 (k : Int)] W (ToldAs W r E)) :
    Calls Try.prog 110 #[.int .u64 (k : Int), v, .func (.func 36) #[] #[]] w (ToldAs w r E) := by
  have HV := Lib.hid hv
  obtain ⟨aa, ca, rfl, a1, a2, a3⟩ := hv
  clear a3
  obtain ⟨n, hna⟩ : ∃ n, n = es.length := ⟨_, rfl⟩
  rw [← hna] at HV a1 hn hk ⊢
  have HN := Lib.hid hna
  have HO := Lib.hid hO
  clear hna hO
  have kn : decide (n < k) = false := decide_eq_false (by omega)
  have kn' : ¬ ((n : Int) < (k : Int)) := by omega
  unfold maxLen at a2
  go_enter Try.func110, Try.ntmps110
  go_wp2_with fail
  go_loopw [8, 18] (fun out i W => ∃ j : Nat, j ≤ n ∧ i = .int .i64 (j : Int) ∧ W.ownsRow w.heap.size 24 32 out j (cellsAll ((es.take j).map (·.leaf))) ∧ (j = 0 → out = .slice none 0 0) ∧ Below w.heap.size w W) (fun _ i _ => n - (intOf i).toNat)
  case atStart => exact ⟨0, by omega, rfl, World.ownsRow_nil _ _ _ _, fun _ => rfl, Below.refl _ _⟩
  case round =>
    obtain ⟨j, hj, rfl, ho, hnil, hB⟩ := hrel
    have HO1 := Lib.hid ho; clear ho
    have HNIL := Lib.hid hnil; clear hnil
    have HB := Lib.hid hB; clear hB
    by_cases hlt : j < n
    · have hlt' : (j : Int) < (n : Int) := by omega
      have h0 : es ≠ [] := by intro h; have := HN.out; rw [h] at this; simp at this; omega
      obtain ⟨b1, hb1, hr1⟩ : ∃ b, aa = some ⟨b, 0, none⟩ ∧ wr.rangeAt b 0 (cellsEnts es) := by
        obtain ⟨a9, c9, e9, _, _, h9⟩ := HV.out.below HB.out
        simp only [Value.slice.injEq] at e9
        obtain ⟨rfl, -, rfl⟩ := e9
        exact h9.resolve_left h0
      subst hb1
      have hjl : j < es.length := by have := HN.out; omega
      have hent := ents_at hr1 hjl
      rw [Nat.zero_add] at hent
      have hstep : (es.take (j + 1)).map (·.leaf) = (es.take j).map (·.leaf) ++ [es[j].leaf] := by rw [List.take_succ_eq_append_getElem hjl, List.map_append]; rfl
      have HST := Lib.hid hstep
      have HX := Lib.hid hent
      clear hent hstep h0 hr1
      generalize es[j] = x at *
      clear hjl
      have hml : ((es.take j).map (·.leaf)).length = j := by rw [List.length_map, List.length_take]; have := HN.out; omega
      have HML := Lib.hid hml; clear hml
      generalize (es.take j).map (·.leaf) = acc at *
      obtain ⟨y, hy⟩ : ∃ y, y = x.leaf := ⟨_, rfl⟩
      rw [← hy] at HST
      have HY := Lib.hid hy; clear hy
      have hj0 : (0 : Int) ≤ (j : Int) := by omega
      go_wp2_with (first
        | (refine wpList_load_ent rfl _ rfl b1 (j * 97) rfl x HX.out ?_)
        | (refine wpList_alloc_ent rfl rfl ?_; refine wpList_var_ent (by rfl) rfl _ _ rfl x rfl rfl ?_; intro w2 hb2 hr2; obtain ⟨z, hz⟩ : ∃ z, z = wr.heap.size := ⟨_, rfl⟩; rw [← hz] at hr2 ⊢; have HB2 := Lib.hid (HB.out.trans (hb2.mono HB.out.size)); have HO2 := Lib.hid ((Keeps.of_below (X := fun _ => False) hb2).owns HO1.out (fun _ _ h => h)); have HR2 := Lib.hid hr2; clear hb2 hr2 hz HB HO1 HX)
        | (refine wpList_load_sum rfl _ rfl z 0 rfl y (by rw [HY.out]; exact ent_leaf HR2.out.range) ?_)
        | (refine wpList_build_sums rfl 1 _ rfl [y] rfl (by omega) (by omega) rfl ?_; have HB3 := Lib.hid (HB2.out.alloc HB2.out.size (.cells (cellsAll [y]).toArray 24)); have HX3 : Hid ((w2.alloc (.cells (cellsAll [y]).toArray 24)).rangeAt w2.heap.size 0 (cellsAll [y])) := range_new w2 _ _ _ rfl)
        | (at_builtin; refine wpList_append_sums rfl _ _ rfl w.heap.size _ acc [y] j 1 HML.out rfl (by rfl) (HO2.out.alloc _) w2.heap.size 0 1 rfl HX3.out (by omega) (by omega) HB3.out.size ?_; intro g4 c4 w4 ho4 hg4 hat4 hlt4; have HB4 := Lib.hid (HB3.out.grown hg4 HB3.out.size (fun k hk => (HO2.out.lt k hk).1))))
      exact ⟨⟨j + 1, by omega, by simp, by rw [HST.out]; exact ho4, by omega, HB4.out⟩, by simp [intOf]; omega⟩
    · have hjn : j = n := by omega
      subst hjn
      have htk : es.take j = es := List.take_of_length_le (by rw [HN.out]; exact Nat.le_refl _)
      have ho := HO1.out
      rw [htk] at ho
      have hml : (es.map (·.leaf)).length = j := by rw [List.length_map, ← HN.out]
      rw [← hml] at ho
      have HSN := Lib.hid (own_new' ho (fun h => HNIL.out (by rw [← hml, h]; rfl)))
      clear htk ho hml HO1
      go_wp2_with fail
      refine (HO.out _ _ HSN.out.sums).mono ?_
      rintro e w1 hT
      have hT2 := ToldAs.mono HB.out hT
      clear hT HSN HO
      obtain ⟨v', rfl, hs, hb⟩ := hT2
      have HS := Lib.hid (And.intro hs hb)
      clear hs hb HB
      go_wp2_with fail
      refine bodyPost_ret (results_tmp2 rfl _ _ _) rfl ?_
      exact ⟨_, rfl, HS.out.1, HS.out.2⟩
set_option maxRecDepth 100000 in
theorem place_links (es : List Ent) (v : Value) (w : World) (hv : EntsAt w v es) (k : Nat) (hk : k ≤ es.length) (hn : es.length < 1000000) (r : List Sum) (E : Int)
    (hO : ∀ u W, SumsAt W u (es.map (·.leaf)) → Calls Try.prog 36 #[u, .int .i64 (k : Int)] W (ToldAs W r E)) :
    Calls Try.prog 84 #[.int .u64 (k : Int), v] w (ToldAs w r E) := by
  have HC := Lib.hid (asks_links es v w hv k hk hn r E hO)
  clear hv hk hn hO
  go_enter Try.func84, Try.ntmps84
  go_wp2_with fail
  refine HC.out.mono ?_
  rintro e w1 ⟨v', rfl, hs, hb⟩
  have HS := Lib.hid (And.intro hs hb)
  clear hs hb HC
  go_wp2_with fail
  refine bodyPost_ret (results_tmp2 rfl _ _ _) rfl ?_
  exact ⟨_, rfl, HS.out.1, HS.out.2⟩
set_option maxRecDepth 100000 in
theorem first_links (base : Nat) (w : World) (c : Nat) (l : List (List UInt8)) (h : ChainAt base w c l) (k : Nat) (hk : k ≤ l.length) (p : Nat) (hp : p ≤ k) (hn : k < 1000000) (r : List Sum) (E : Int)
    (hO : ∀ u W, SumsAt W u ((l.take k).map lf) → Calls Try.prog 36 #[u, .int .i64 (p : Int)] W (ToldAs W r E)) :
    Calls Try.prog 82 #[.pointer (some ⟨c, 0, none⟩), .int .u64 (k : Int), .func (.func 84) #[.int .u64 (p : Int)] #[]] w (ToldAs w r E) := by
  obtain ⟨f, v, vf, es, h2⟩ := h
  have HZ := Lib.hid (csize_at base _ c l h2.at_)
  have HC0 := Lib.hid h2.c0
  have hc1 := h2.c1
  have hsh := h2.short
  have hsh' : (l.length : Int) < 4000000000 := by omega
  have hkl : ¬ ((l.length : Int) < (k : Int)) := by omega
  obtain ⟨a, cap, rfl, k1, k2, k3⟩ := h2.form
  have hes := h2.take k hk a cap rfl
  have hlen : (es.take k).length = k := by rw [List.length_take, h2.len]; omega
  have hmap : (es.take k).map (·.leaf) = (l.take k).map lf := h2.leaves k
  rw [← hmap] at hO
  have HT := Lib.hid (place_links (es.take k) _ w hes p (by rw [hlen]; exact hp) (by rw [hlen]; exact hn) r E hO)
  clear hes hlen hmap hO
  unfold maxLen at k2
  have b1 : (k : Int) ≤ (cap : Int) := by omega
  have b2 : (k : Int) < 4000000000 := by omega
  have h3 : (l = [] ∧ a = none ∧ cap = 0) ∨ ∃ g, a = some ⟨g, 0, none⟩ := by
    rcases k3 with h0 | ⟨g, hg, _⟩
    · left
      have := h2.nil h0
      simp only [Value.slice.injEq] at this
      exact ⟨h0, this.1, this.2.2⟩
    · exact .inr ⟨g, hg⟩
  clear h2 k3
  rcases h3 with ⟨rfl, rfl, rfl⟩ | ⟨g, rfl⟩
  · obtain rfl : k = 0 := by simpa using hk
    have HZ' : Hid (Calls Try.prog 44 #[.pointer (some ⟨c, 0, none⟩)] w fun e w' => e = .returned (.int .u64 0) ∧ w = w') := HZ
    have hc1' : w.cell? ⟨c, 1, none⟩ = some (.slice none 0 0) := hc1
    clear hkl b1 b2 hsh hsh' hk k1 k2 HZ hc1
    go_enter Try.func82, Try.ntmps82
    go_wp2_with (first
      | (go_at_call 75; refine (cnone_live _ c f HC0.out).mono ?_; rintro e w1 ⟨rfl, rfl⟩)
      | (go_at_call 44; refine HZ'.out.mono ?_; rintro e w1 ⟨rfl, rfl⟩))
    refine HT.out.mono ?_
    rintro e w1 ⟨v', rfl, hs, hb⟩
    have HS := Lib.hid (And.intro hs hb)
    clear hs hb HT
    go_wp2_with fail
    refine bodyPost_ret (results_tmp2 rfl _ _ _) rfl ?_
    exact ⟨_, rfl, HS.out.1, HS.out.2⟩
  · generalize l.length = n at *
    have hd : decide (n < k) = false := decide_eq_false (by omega)
    clear k2 k1 hsh hk hkl hsh' b2
    go_enter Try.func82, Try.ntmps82
    go_wp2_with (first
      | (go_at_call 75; refine (cnone_live _ c f HC0.out).mono ?_; rintro e w1 ⟨rfl, rfl⟩)
      | (go_at_call 44; refine HZ.out.mono ?_; rintro e w1 ⟨rfl, rfl⟩))
    refine HT.out.mono ?_
    rintro e w1 ⟨v', rfl, hs, hb⟩
    have HS := Lib.hid (And.intro hs hb)
    clear hs hb HT
    go_wp2_with fail
    refine bodyPost_ret (results_tmp2 rfl _ _ _) rfl ?_
    exact ⟨_, rfl, HS.out.1, HS.out.2⟩
theorem clink_at (base : Nat) (w : World) (c : Nat) (l : List (List UInt8)) (h : ChainAt base w c l) (k : Nat) (hk : k ≤ l.length) (p : Nat) (hp : p ≤ k) (hn : k < 1000000) (r : List Sum) (E : Int)
    (hO : ∀ u W, SumsAt W u ((l.take k).map lf) → Calls Try.prog 36 #[u, .int .i64 (p : Int)] W (ToldAs W r E)) :
    Calls Try.prog 42 #[.pointer (some ⟨c, 0, none⟩), .int .u64 (p : Int), .int .u64 (k : Int)] w (ToldAs w r E) := by
  have HT := Lib.hid (first_links base w c l h k hk p hp hn r E hO)
  have hmf : ∀ (fn : Fn) (first cap : Array Value) (w : World), (Instr.makeFunc fn first cap).run Try.prog w = .ok (.func fn first cap) w := fun _ _ _ _ => rfl
  clear h hk hp hn hO
  go_enter Try.func42, Try.ntmps42
  go_wp2_with fail
  refine HT.out.mono ?_
  rintro e w1 ⟨v', rfl, hs, hb⟩
  have HS := Lib.hid (And.intro hs hb)
  clear hs hb HT
  go_wp2_with fail
  refine bodyPost_ret (results_tmp2 rfl _ _ _) rfl ?_
  exact ⟨_, rfl, HS.out.1, HS.out.2⟩
theorem cpath_told (base : Nat) (w : World) (c : Nat) (l : List (List UInt8)) (h : ChainAt base w c l) (k : Nat) (hk : k ≤ l.length) (p : Nat) (hp : p < k) (hn : k < 1000000) :
    Calls Try.prog 41 #[.pointer (some ⟨c, 0, none⟩), .int .u64 (p : Int), .int .u64 (k : Int)] w (ToldAs w (path nd e0 ((l.take k).map lf) p) 0) :=
  cpath_at base w c l h k hk p (Nat.le_of_lt hp) hn _ 0 (fun u W hu => pathsOf_any _ p u W hu (by rw [List.length_map, List.length_take]; omega) (by rw [List.length_map, List.length_take]; omega))
theorem clink_told (base : Nat) (w : World) (c : Nat) (l : List (List UInt8)) (h : ChainAt base w c l) (k : Nat) (hk : k ≤ l.length) (p : Nat) (hp : p ≤ k) (h1 : 1 ≤ p) (hn : k < 1000000) :
    Calls Try.prog 42 #[.pointer (some ⟨c, 0, none⟩), .int .u64 (p : Int), .int .u64 (k : Int)] w (ToldAs w (link nd e0 ((l.take k).map lf) p true) 0) :=
  clink_at base w c l h k hk p hp hn _ 0 (fun u W hu => linksOf_any _ p u W hu h1 (by rw [List.length_map, List.length_take]; omega) (by rw [List.length_map, List.length_take]; omega))
theorem clinksOf_arg (l : List Sum) (v : Value) (w : World) (hv : SumsAt w v l) : Calls Try.prog 36 #[v, .int .i64 0] w (ToldAs w [] 1) := by
  obtain ⟨a, cap, rfl, _, _, _⟩ := hv
  go_enter Try.func36, Try.ntmps36
  go_wp2_with fail
  exact bodyPost_ret (results_tmp2 rfl _ _ _) rfl ⟨_, rfl, .inl ⟨rfl, rfl⟩, Below.refl _ _⟩
theorem clink_arg (base : Nat) (w : World) (c : Nat) (l : List (List UInt8)) (h : ChainAt base w c l) (k : Nat) (hk : k ≤ l.length) (hn : k < 1000000) :
    Calls Try.prog 42 #[.pointer (some ⟨c, 0, none⟩), .int .u64 0, .int .u64 (k : Int)] w (ToldAs w [] 1) :=
  clink_at base w c l h k hk 0 (Nat.zero_le _) hn _ 1 (fun u W hu => clinksOf_arg _ u W hu)
end Go.Proofs.Ytdkcndgehgmadaa
-- Walks: almonerlaw12.great, made; chains: Entry, Add of too much.
open Go Go.RowKit Alm
namespace Go.Proofs.Ytdkcndgehgmadaa
def gr12 (l : List (List UInt8)) : Bool := decide (60 < l.length) || decide (40000 < bsz l)
set_option maxRecDepth 100000 in
theorem great12_any (l : List (List UInt8)) (v : Value) (w : World) (hv : ListsAt w v l) (hn : l.length ≤ LIM) (hs : ∀ x ∈ l, x.length ≤ LIM) : Calls Try.prog 45 #[v] w fun e w' => e = .returned (.bool (gr12 l)) ∧ w = w' := by
  have HZ := Lib.hid (blsz_any l v w hv hn hs)
  obtain ⟨a, cap, rfl, _, _, hz⟩ := hv
  clear hz
  obtain ⟨n, hna⟩ : ∃ n, n = l.length := ⟨_, rfl⟩
  obtain ⟨p, hp⟩ : ∃ p, p = bsz l := ⟨_, rfl⟩
  have p9 : p ≤ 1048576 + LIM := by rw [hp]; exact bszGo_lt l _ hs (by omega)
  obtain ⟨R, hR⟩ : ∃ R, R = gr12 l := ⟨_, rfl⟩
  have hR2 : R = (decide (60 < n) || decide (40000 < p)) := by rw [hR, gr12, hna, hp]
  rw [← hR]
  rw [← hna] at HZ hn ⊢
  rw [← hp] at HZ
  have HR := Lib.hid hR2
  clear hna hp hR hR2 hs
  unfold LIM at p9 hn
  have p0 : (p : Int) ≤ 140737489403904 := by omega
  by_cases c1 : 60 < n
  · have d1 : (60 : Int) < (n : Int) := by omega
    have HRV : Hid (R = true) := Lib.hid (by rw [HR.out, decide_eq_true c1]; rfl)
    clear c1
    go_enter Try.func45, Try.ntmps45
    go_wp2_with fail
    exact bodyPost_ret (results_tmp rfl _ _ _) rfl ⟨by rw [HRV.out]; rfl, rfl⟩
  · have d1 : ¬ (60 : Int) < (n : Int) := by omega
    by_cases c2 : 40000 < p
    · have d2 : (40000 : Int) < (p : Int) := by omega
      have HRV : Hid (R = true) := Lib.hid (by rw [HR.out, decide_eq_true c2, Bool.or_true])
      clear c1 c2
      go_enter Try.func45, Try.ntmps45
      go_wp2_with fail
      refine HZ.out.mono ?_
      rintro e w1 ⟨rfl, rfl⟩
      go_wp2_with fail
      exact bodyPost_ret (results_tmp rfl _ _ _) rfl ⟨by rw [HRV.out]; rfl, rfl⟩
    · have d2 : ¬ (40000 : Int) < (p : Int) := by omega
      have HRV : Hid (R = false) := Lib.hid (by rw [HR.out, decide_eq_false c1, decide_eq_false c2]; rfl)
      clear c1 c2
      go_enter Try.func45, Try.ntmps45
      go_wp2_with fail
      refine HZ.out.mono ?_
      rintro e w1 ⟨rfl, rfl⟩
      go_wp2_with fail
      exact bodyPost_ret (results_tmp rfl _ _ _) rfl ⟨by rw [HRV.out]; exact congrArg (fun b => Ending.returned (.bool b)) (decide_eq_false (by omega)), rfl⟩
theorem gr12_le {l : List (List UInt8)} (h : gr12 l = false) : l.length ≤ 60 ∧ ∀ x ∈ l, x.length ≤ 40000 := by
  unfold gr12 at h
  have h1 : ¬ 60 < l.length := fun h9 => by rw [decide_eq_true h9] at h; simp at h
  have h2 : ¬ 40000 < bsz l := fun h9 => by rw [decide_eq_true h9] at h; simp at h
  exact ⟨by omega, (bsz_le 40000 (by omega) l (by omega)).2⟩
theorem cadd_long (w : World) (c f : Nat) (hc : w.cell? ⟨c, 0, none⟩ = some (.pointer (some ⟨f, 0, none⟩))) (a : Option Addr) (n cap : Nat) (hn : 16384 < n) : Calls Try.prog 43 #[.pointer (some ⟨c, 0, none⟩), .slice a n cap] w fun e w' => e = .returned (.int .i64 3) ∧ w = w' := by
  have hn' : (16384 : Int) < (n : Int) := by omega
  clear hn
  have HC := Lib.hid hc; clear hc
  go_enter Try.func43, Try.ntmps43
  go_wp2_with (go_at_call 75; refine (cnone_live _ c f HC.out).mono ?_; rintro e w1 ⟨rfl, rfl⟩)
  exact bodyPost_ret (results_tmp rfl _ _ _) rfl ⟨rfl, rfl⟩
set_option maxRecDepth 100000 in
set_option maxHeartbeats 1000000 in
theorem made_any (l : List (List UInt8)) (v : Value) (w : World) (hv : ListsAt w v l) (hn : l.length < 1000000) : Calls Try.prog 47 #[v] w fun e w' => Below w.heap.size w w' ∧ ((∃ c, e = .returned (.pointer (some ⟨c, 0, none⟩)) ∧ ChainAt w.heap.size w' c l ∧ ∀ x ∈ l, x.length ≤ 16384) ∨ e = .returned (.pointer none)) := by
  have HV := Lib.hid hv
  obtain ⟨aa, ca, rfl, a1, a2, a3⟩ := hv
  clear a3
  obtain ⟨n, hna⟩ : ∃ n, n = l.length := ⟨_, rfl⟩
  rw [← hna] at HV a1 hn ⊢
  have HN := Lib.hid hna
  clear hna
  go_enter Try.func47, Try.ntmps47
  go_wp2_with fail
  refine (cnew_at w).mono ?_
  rintro e w1 ⟨c, rfl, hC, hB⟩
  have HC0 := Lib.hid hC
  have HB0 := Lib.hid hB
  clear hC hB
  go_wp2_with fail
  go_loopw [4] (fun i W => ∃ j : Nat, j ≤ n ∧ i = .int .i64 (j : Int) ∧ ChainAt w.heap.size W c (l.take j) ∧ (∀ x ∈ l.take j, x.length ≤ 16384) ∧ Below w.heap.size w W) (fun i _ => n - (intOf i).toNat)
  case atStart => exact ⟨0, by omega, rfl, HC0.out, by simp, HB0.out⟩
  case round =>
    obtain ⟨j, hj, rfl, hC, hsz, hB⟩ := hrel
    have HC := Lib.hid hC
    have HSZ := Lib.hid hsz
    have HB := Lib.hid hB
    clear hC hsz hB HC0 HB0
    by_cases hlt : j < n
    · have hlt' : (j : Int) < (n : Int) := by omega
      have h0 : l ≠ [] := by intro h; have := HN.out; rw [h] at this; simp at this; omega
      have HW := Lib.hid (HV.out.below HB.out)
      obtain ⟨b1', o1', c1', he1, _, _⟩ := HV.out.form h0
      simp only [Value.slice.injEq] at he1
      obtain ⟨rfl, h9, rfl⟩ := he1
      clear h9
      obtain ⟨u1, hc1, hu1⟩ := HW.out.cell (sp := none) (j := j) (by have := HN.out; omega)
      have hjl : j < l.length := by have := HN.out; omega
      have hstep : l.take (j + 1) = l.take j ++ [l[j]] := List.take_succ_eq_append_getElem hjl
      have hlen : (l.take j).length = j := by rw [List.length_take]; omega
      have HST := Lib.hid hstep
      have HLN := Lib.hid hlen
      have HU := Lib.hid hu1
      clear hu1 hstep hlen h0
      generalize l[j] = x at *
      clear hjl
      have hj0 : (0 : Int) ≤ (j : Int) := by omega
      obtain ⟨f, cv, vf, es, hC⟩ := HC.out
      by_cases hx : x.length ≤ 16384
      · have HX := Lib.hid hx
        have HA := Lib.hid (cadd_in hC x u1 HU.out HB.out.size (by rw [HLN.out]; omega) hx)
        clear hx hC
        go_wp2_with fail
        refine HA.out.mono ?_
        rintro e w2 ⟨rfl, hC2, hk2⟩
        have HC2 := Lib.hid hC2
        have HB2 := Lib.hid (HB.out.trans (hk2.below HB.out.size (fun k hk => hk)))
        clear hC2 hk2 HA
        go_wp2_with fail
        refine ⟨⟨j + 1, by omega, by simp, by rw [HST.out]; exact HC2.out, ?_, HB2.out⟩, by simp [intOf]; omega⟩
        rw [HST.out]
        intro y hy
        rcases List.mem_append.1 hy with h | h
        · exact HSZ.out y h
        · rw [List.mem_singleton.1 h]; exact HX.out
      · have hc0 := Lib.hid hC.c0
        obtain ⟨ua, uc, hu, _, _, _⟩ := HU.out
        subst hu
        have HA := Lib.hid (cadd_long wr c f hc0.out ua x.length uc (by omega))
        clear hx hC hc0
        generalize x.length = xn at *
        go_wp2_with fail
        refine HA.out.mono ?_
        rintro e w2 ⟨rfl, rfl⟩
        go_wp2_with fail
        exact bodyPost_ret (results_tmp rfl _ _ _) rfl ⟨HB.out, .inr rfl⟩
    · have hjn : j = n := by omega
      subst hjn
      have htk : l.take j = l := List.take_of_length_le (by rw [HN.out]; exact Nat.le_refl _)
      have HF : Hid (ChainAt w.heap.size wr c l ∧ ∀ x ∈ l, x.length ≤ 16384) := Lib.hid (by
        have h1 := HC.out
        have h2 := HSZ.out
        rw [htk] at h1 h2
        exact ⟨h1, h2⟩)
      clear htk HC HSZ
      go_wp2_with fail
      exact bodyPost_ret (results_tmp rfl _ _ _) rfl ⟨HB.out, .inl ⟨c, rfl, HF.out.1, HF.out.2⟩⟩
set_option maxRecDepth 100000 in
theorem centry_at (base : Nat) (w : World) (c : Nat) (l : List (List UInt8)) (h : ChainAt base w c l) (k : Nat) (b : List UInt8) (hk : l[k]? = some b) (hb : b.length < 4000000000) :
    Calls Try.prog 38 #[.pointer (some ⟨c, 0, none⟩), .int .u64 (k : Int)] w fun e w' => ∃ v, e = .returned (.tuple #[v, .int .i64 0]) ∧ BytesNew w' w.heap.size v b ∧ Below w.heap.size w w' := by
  obtain ⟨f, v, vf, es, h2⟩ := h
  obtain ⟨hkl, hkb⟩ := List.getElem?_eq_some_iff.1 hk
  have HZ := Lib.hid (csize_at base _ c l h2.at_)
  have HC0 := Lib.hid h2.c0
  have hc1 := h2.c1
  have hsh := h2.short
  have hkz : ¬ ((l.length : Int) ≤ (k : Int)) := by omega
  have hke : k < es.length := by rw [h2.len]; exact hkl
  have hE := h2.ents k _ b (List.getElem?_eq_getElem hke) hk
  obtain ⟨a, cap, rfl, k1, k2, k3⟩ := h2.form
  obtain ⟨g, rfl, hr⟩ := k3.resolve_left (by intro h0; rw [h0] at hkl; simp at hkl)
  have hx := ents_at hr hke
  rw [Nat.zero_add] at hx
  have hcv := ent_v hx
  have HBY := Lib.hid hE.bytes
  generalize es[k].v = u at *
  have HCL := Lib.hid (clone_bytes w u b HBY.out hb)
  clear h2 hx hE hr hk hkb hke
  unfold maxLen at k2
  have hkl' : (k : Int) < (l.length : Int) := by omega
  have hkc : (k : Int) < 4000000000 := by omega
  have hk0 : (0 : Int) ≤ (k : Int) := by omega
  generalize l.length = n at *
  have hd : decide (n ≤ k) = false := decide_eq_false (by omega)
  clear hb
  go_enter Try.func38, Try.ntmps38
  go_wp2_with (first
    | (go_at_call 75; refine (cnone_live _ c f HC0.out).mono ?_; rintro e w1 ⟨rfl, rfl⟩)
    | (go_at_call 44; refine HZ.out.mono ?_; rintro e w1 ⟨rfl, rfl⟩))
  refine HCL.out.mono ?_
  rintro e w1 ⟨v1, rfl, hN, hB⟩
  have HB := Lib.hid hB
  have HP := Lib.hid (clip_bytes w1 _ v1 b hN)
  clear hN hB HCL
  go_wp2_with fail
  refine HP.out.mono ?_
  rintro e w2 ⟨v2, rfl, hN, rfl⟩
  have HN := Lib.hid hN
  clear hN
  go_wp2_with fail
  exact bodyPost_ret (results_tmp2 rfl _ _ _) rfl ⟨_, rfl, HN.out, HB.out⟩
set_option maxRecDepth 100000 in
theorem centry_arg (base : Nat) (w : World) (c : Nat) (l : List (List UInt8)) (h : ChainAt base w c l) (k : Nat) (hk : l.length ≤ k) :
    Calls Try.prog 38 #[.pointer (some ⟨c, 0, none⟩), .int .u64 (k : Int)] w fun e w' => e = .returned (.tuple #[.slice none 0 0, .int .i64 1]) ∧ w = w' := by
  obtain ⟨f, v, vf, es, h2⟩ := h
  have HZ := Lib.hid (csize_at base _ c l h2.at_)
  have HC0 := Lib.hid h2.c0
  have hkz : ((l.length : Int) ≤ (k : Int)) := by omega
  clear h2
  generalize l.length = n at *
  have hd : decide (n ≤ k) = true := decide_eq_true (by omega)
  clear hk
  go_enter Try.func38, Try.ntmps38
  go_wp2_with (first
    | (go_at_call 75; refine (cnone_live _ c f HC0.out).mono ?_; rintro e w1 ⟨rfl, rfl⟩)
    | (go_at_call 44; refine HZ.out.mono ?_; rintro e w1 ⟨rfl, rfl⟩))
  exact bodyPost_ret (results_tmp2 rfl _ _ _) rfl ⟨rfl, rfl⟩
end Go.Proofs.Ytdkcndgehgmadaa
-- Walks: almonerlaw12.alive.
open Go Go.RowKit Alm
namespace Go.Proofs.Ytdkcndgehgmadaa
theorem bytes_string {w : World} {v : Value} (x : UInt8) (h : BytesAt w v [x]) : (convert 50 9 v).run Try.prog w = .ok (.string ⟨#[x]⟩) w := by
  obtain ⟨a, cap, rfl, h1, h2, h3⟩ := h
  obtain ⟨b, o, rfl, hr⟩ := h3.resolve_left (by simp)
  exact Lib.run_convert_whole w 50 5 9 Try.underlying50 Try.underlying5 Try.underlying9 b o ⟨#[x]⟩ (fun i hi => by
    have hi' : i = 0 := by have : i < 1 := hi; omega
    subst hi'
    exact hr 0 _ rfl) cap
/-- What alive has in hand. -/
structure AV (w W : World) (c : Nat) (R : List (Nat × Sum)) (S : List (Value × List Sum)) (B : List (Value × List UInt8)) : Prop where
  chain : ChainAt w.heap.size W c [[97], [98]]
  r : ∀ p ∈ R, W.rangeAt p.1 0 (cellsOf p.2)
  s : ∀ p ∈ S, SumsAt W p.1 p.2
  b : ∀ p ∈ B, BytesAt W p.1 p.2
  w : Below w.heap.size w W
theorem AV.below {w W W' : World} {c : Nat} {R : List (Nat × Sum)} {S : List (Value × List Sum)} {B : List (Value × List UInt8)} (h : AV w W c R S B) (hb : Below W.heap.size W W') : AV w W' c R S B :=
  ⟨h.chain.below hb, fun p hp => (Keeps.of_below (X := fun _ => False) hb).range (h.r p hp) (fun h => h), fun p hp => (h.s p hp).below hb (Nat.le_refl _), fun p hp => bytes_below (h.b p hp) hb (Nat.le_refl _), h.w.trans (hb.mono h.w.size)⟩
theorem AV.addR {w W : World} {c : Nat} {R : List (Nat × Sum)} {S : List (Value × List Sum)} {B : List (Value × List UInt8)} (h : AV w W c R S B) {z : Nat} {s : Sum} (hr : W.rangeAt z 0 (cellsOf s)) : AV w W c ((z, s) :: R) S B :=
  ⟨h.chain, fun p hp => by rcases List.mem_cons.1 hp with rfl | hp; exact hr; exact h.r p hp, h.s, h.b, h.w⟩
theorem AV.addS {w W : World} {c : Nat} {R : List (Nat × Sum)} {S : List (Value × List Sum)} {B : List (Value × List UInt8)} (h : AV w W c R S B) {v : Value} {s : List Sum} (hr : SumsAt W v s) : AV w W c R ((v, s) :: S) B :=
  ⟨h.chain, h.r, fun p hp => by rcases List.mem_cons.1 hp with rfl | hp; exact hr; exact h.s p hp, h.b, h.w⟩
theorem AV.addB {w W : World} {c : Nat} {R : List (Nat × Sum)} {S : List (Value × List Sum)} {B : List (Value × List UInt8)} (h : AV w W c R S B) {v : Value} {s : List UInt8} (hr : BytesAt W v s) : AV w W c R S ((v, s) :: B) :=
  ⟨h.chain, h.r, h.s, fun p hp => by rcases List.mem_cons.1 hp with rfl | hp; exact hr; exact h.b p hp, h.w⟩
theorem build_zero (w : World) : (Instr.build 24 #[]).run Try.prog w = .ok (sv zeroSum) w := by
  unfold sv; rw [cellsOf_zeroSum]; kernel_rfl
theorem sums_lit12 (W : World) (l : List Sum) (n : Nat) (h : l.length = n) (hn : n ≤ 1000) : SumsAt (W.alloc (.cells (cellsAll l).toArray 24)) (.slice (some ⟨W.heap.size, 0, none⟩) n n) l :=
  ⟨_, n, by rw [h], by omega, by unfold maxLen; omega, .inr ⟨_, _, rfl, range_new W _ _ _ rfl⟩⟩
theorem path_20 (a b : Sum) : path nd e0 [a, b] 0 = [b] := by
  rw [path_left_ [a, b] 0 (by simp) (by rw [show [a, b].length = 2 from rfl, cut_two]; omega)]
  rw [show [a, b].length = 2 from rfl, cut_two]
  simp only [List.take, List.drop]
  rw [path_end [a] 0 (by simp), rt_one]; rfl
theorem link_21 (a b : Sum) : link nd e0 [a, b] 1 true = [b] := by
  rw [link_left [a, b] 1 true (by omega) (by simp) (by rw [show [a, b].length = 2 from rfl, cut_two]; omega)]
  rw [show [a, b].length = 2 from rfl, cut_two]
  simp only [List.take, List.drop]
  have := link_end [a] true
  rw [show [a].length = 1 from rfl, if_pos rfl] at this
  rw [this, rt_one]; rfl
theorem cm_0 (base : Nat) (w : World) (c : Nat) (h : ChainAt base w c [[97], [98]]) {z : Sum} (hz : z = zeroSum) :
    Calls Try.prog 39 #[.pointer (some ⟨c, 0, none⟩), .int .u64 0] w fun e w' => e = .returned (.tuple #[sv z, .int .i64 0]) ∧ Below w.heap.size w w' := by
  have := cmark_at base w c _ h 0 (Nat.zero_le _)
  rw [List.take_zero, mk_nil, ← hz] at this
  exact this
theorem cm_3 (base : Nat) (w : World) (c : Nat) (h : ChainAt base w c [[97], [98]]) {z : Sum} (hz : z = zeroSum) :
    Calls Try.prog 39 #[.pointer (some ⟨c, 0, none⟩), .int .u64 3] w fun e w' => e = .returned (.tuple #[sv z, .int .i64 1]) ∧ Below w.heap.size w w' := by
  have := cmark_arg base w c _ h 3 (by decide)
  rw [← hz] at this
  exact this
theorem cr_1 (base : Nat) (w : World) (c : Nat) (h : ChainAt base w c [[97], [98]]) {y : Sum} (hy : y = lf [97]) :
    Calls Try.prog 40 #[.pointer (some ⟨c, 0, none⟩), .int .u64 1] w fun e w' => e = .returned (.tuple #[sv y, .int .i64 0]) ∧ Below w.heap.size w w' := by
  have := croot_at base w c _ h 1 (by decide)
  rw [show ([[97], [98]] : List (List UInt8)).take 1 = [[97]] from rfl, List.map_cons, List.map_nil, rt_one, ← hy] at this
  exact this
theorem cp_02 (base : Nat) (w : World) (c : Nat) (h : ChainAt base w c [[97], [98]]) {y : Sum} (hy : y = lf [98]) :
    Calls Try.prog 41 #[.pointer (some ⟨c, 0, none⟩), .int .u64 0, .int .u64 2] w (ToldAs w [y] 0) := by
  have := cpath_told base w c _ h 2 (by decide) 0 (by decide) (by decide)
  rw [show ([[97], [98]] : List (List UInt8)).take 2 = [[97], [98]] from rfl, List.map_cons, List.map_cons, List.map_nil, ← hy, path_20] at this
  exact this
theorem cl_12 (base : Nat) (w : World) (c : Nat) (h : ChainAt base w c [[97], [98]]) {y : Sum} (hy : y = lf [98]) :
    Calls Try.prog 42 #[.pointer (some ⟨c, 0, none⟩), .int .u64 1, .int .u64 2] w (ToldAs w [y] 0) := by
  have := clink_told base w c _ h 2 (by decide) 1 (by decide) (by decide) (by decide)
  rw [show ([[97], [98]] : List (List UInt8)).take 2 = [[97], [98]] from rfl, List.map_cons, List.map_cons, List.map_nil, ← hy, link_21] at this
  exact this
set_option maxRecDepth 100000 in
set_option maxHeartbeats 2000000 in
theorem alive12_any (w : World) : Calls Try.prog 46 #[] w fun e w' => e = .returned (.bool true) ∧ Below w.heap.size w w' := by
  have kc := fun (w : World) (C : Array Value) (n c : Nat) => Lib.run_convert_bytes_const (P := Try.prog) w 50 5 C n c Try.underlying50 Try.underlying5
  obtain ⟨z, hz⟩ : ∃ z, z = zeroSum := ⟨_, rfl⟩
  obtain ⟨ya, hya⟩ : ∃ y, y = lf [97] := ⟨_, rfl⟩
  obtain ⟨yb, hyb⟩ : ∃ y, y = lf [98] := ⟨_, rfl⟩
  have HY := Lib.hid (And.intro hz (And.intro hya hyb))
  have hbz : ∀ w, (Instr.build 24 #[]).run Try.prog w = .ok (sv z) w := by rw [hz]; exact build_zero
  clear hz hya hyb
  have HBZ := Lib.hid hbz; clear hbz
  go_enter Try.func46, Try.ntmps46
  go_wp2_with fail
  refine (cnew_at w).mono ?_
  rintro e w1 ⟨c, rfl, hC, hB⟩
  have HC := Lib.hid hC
  have HB := Lib.hid hB
  clear hC hB
  go_wp2_with fail
  have b1 := al (Below.refl _ w1) (.cells #[.int .u8 97] 5 (1, 2))
  obtain ⟨f, cv, vf, es, hC⟩ := HC.out.below b1
  have hy1 : BytesAt (w1.alloc (.cells #[.int .u8 97] 5 (1, 2))) (.slice (some ⟨w1.heap.size, 0, none⟩) 1 1) [97] := bytes_marked w1 97
  have hB1 := HB.out.trans (b1.mono HB.out.size)
  refine (cadd_in hC [97] _ hy1 hB1.size (by simp) (by simp)).mono ?_
  rintro e w2 ⟨rfl, hC2, hk2⟩
  have HC2 := Lib.hid hC2
  have HB2 := Lib.hid (hB1.trans (hk2.below hB1.size (fun k hk => hk)))
  clear HC HB b1 hC hy1 hB1 hC2 hk2
  go_wp2_with fail
  have b1 := al (Below.refl _ w2) (.cells #[.int .u8 98] 5 (1, 2))
  obtain ⟨f, cv, vf, es, hC⟩ := HC2.out.below b1
  have hy1 : BytesAt (w2.alloc (.cells #[.int .u8 98] 5 (1, 2))) (.slice (some ⟨w2.heap.size, 0, none⟩) 1 1) [98] := bytes_marked w2 98
  have hB1 := HB2.out.trans (b1.mono HB2.out.size)
  refine (cadd_in hC [98] _ hy1 hB1.size (by simp) (by simp)).mono ?_
  rintro e w3 ⟨rfl, hC2, hk2⟩
  have HA := Lib.hid (show AV w w3 c [] [] [] from ⟨hC2, by simp, by simp, by simp, hB1.trans (hk2.below hB1.size (fun k hk => hk))⟩)
  clear HC2 HB2 b1 hC hy1 hB1 hC2 hk2
  go_wp2_with fail
  refine (centry_at w.heap.size w3 c _ HA.out.chain 1 [98] rfl (by simp)).mono ?_
  rintro e w4 ⟨v4, rfl, hN, hb⟩
  obtain ⟨a4, c4, rfl, _, _, _⟩ := hN.1
  have HA4 := Lib.hid ((HA.out.below hb).addB hN.1)
  clear HA hN hb
  go_wp2_with fail
  refine (centry_arg w.heap.size w4 c _ HA4.out.chain 2 (by simp)).mono ?_
  rintro e w5 ⟨rfl, rfl⟩
  go_wp2_with fail
  refine (cm_0 w.heap.size w4 c HA4.out.chain HY.out.1).mono ?_
  rintro e w5 ⟨rfl, hb⟩
  have HA5 := Lib.hid (HA4.out.below hb)
  clear HA4 hb
  have HG := Lib.hid trivial
  go_wp2_with (have _ := HG; refine wpList_var_sum (by rfl) rfl _ _ rfl z rfl rfl ?_; intro w6 hb hr _ _; obtain ⟨z6, hz6⟩ : ∃ x, x = w5.heap.size := ⟨_, rfl⟩; rw [← hz6] at hr ⊢; have HA6 := Lib.hid ((HA5.out.below hb).addR hr); clear HG hb hr hz6 HA5)
  refine (cm_3 w.heap.size w6 c HA6.out.chain HY.out.1).mono ?_
  rintro e w7 ⟨rfl, hb⟩
  have HA7 := Lib.hid (HA6.out.below hb)
  clear HA6 hb
  have HG := Lib.hid trivial
  go_wp2_with (have _ := HG; refine wpList_var_sum (by rfl) rfl _ _ rfl z rfl rfl ?_; intro w8 hb hr _ _; have HA8 := Lib.hid (HA7.out.below hb); clear HG hb hr HA7)
  refine (cr_1 w.heap.size w8 c HA8.out.chain HY.out.2.1).mono ?_
  rintro e w9 ⟨rfl, hb⟩
  have HA9 := Lib.hid (HA8.out.below hb)
  clear HA8 hb
  have HG := Lib.hid trivial
  go_wp2_with (have _ := HG; refine wpList_var_sum (by rfl) rfl _ _ rfl ya rfl rfl ?_; intro w10 hb hr _ _; obtain ⟨z10, hz10⟩ : ∃ x, x = w9.heap.size := ⟨_, rfl⟩; rw [← hz10] at hr ⊢; have HA10 := Lib.hid ((HA9.out.below hb).addR hr); clear HG hb hr hz10 HA9)
  refine (cp_02 w.heap.size w10 c HA10.out.chain HY.out.2.2).mono ?_
  rintro e w11 ⟨v11, rfl, hs, hb⟩
  obtain ⟨a11, c11, rfl, _, _, _⟩ := hs.sums
  have HA11 := Lib.hid ((HA10.out.below hb).addS hs.sums)
  clear HA10 hb hs
  go_wp2_with fail
  refine (cl_12 w.heap.size w11 c HA11.out.chain HY.out.2.2).mono ?_
  rintro e w12 ⟨v12, rfl, hs, hb⟩
  obtain ⟨a12, c12, rfl, _, _, _⟩ := hs.sums
  have HA12 := Lib.hid ((HA11.out.below hb).addS hs.sums)
  clear HA11 hb hs
  go_wp2_with fail
  refine (clink_arg w.heap.size w12 c _ HA12.out.chain 2 (by simp) (by omega)).mono ?_
  rintro e w13 ⟨v13, rfl, hs, hb⟩
  obtain ⟨a13, c13, rfl, _, _, _⟩ := hs.sums
  have HA13 := Lib.hid (HA12.out.below hb)
  clear HA12 hb hs
  go_wp2_with fail
  have b1 := al (Below.refl _ w13) (.cells #[.int .u8 98] 5 (1, 2))
  have hy1 : BytesAt (w13.alloc (.cells #[.int .u8 98] 5 (1, 2))) (.slice (some ⟨w13.heap.size, 0, none⟩) 1 1) [98] := bytes_marked w13 98
  have HLB := Lib.hid (lf_any [98] _ _ hy1 (by simp))
  rw [← HY.out.2.2] at HLB
  refine HLB.out.mono ?_
  rintro e w14 ⟨rfl, hb⟩
  have HA14 := Lib.hid ((HA13.out.below b1).below hb)
  clear HA13 hb b1 hy1 HLB
  have HG := Lib.hid trivial
  go_wp2_with (have _ := HG; refine wpList_var_sum (by rfl) rfl _ _ rfl yb rfl rfl ?_; intro w15 hb hr _ _; obtain ⟨z15, hz15⟩ : ∃ x, x = w14.heap.size := ⟨_, rfl⟩; rw [← hz15] at hr ⊢; have HA15 := Lib.hid ((HA14.out.below hb).addR hr); clear HG hb hr hz15 HA14)
  clear kc
  refine wp_region_sched (fun V => AV w V c [(z15, yb), (z10, ya), (z6, z)] [(.slice a12 1 c12, [yb]), (.slice a11 1 c11, [yb])] [(.slice a4 1 c4, [98])]) [.t 0, .t 1, .t 2, .t 3, .t 4, .t 5, .t 6, .t 7, .e 8 true, .t 9, .t 10, .t 11, .t 12, .t 13, .t 14, .t 15, .t 16, .s 17, .t 18, .t 19, .t 20, .t 21, .t 22, .t 23, .t 24, .t 25, .t 26, .t 27, .t 28, .t 30, .s 29, .t 31, .t 32, .t 33, .t 34, .t 35, .t 36, .t 37, .t 38, .t 39, .t 40, .t 41, .s 42, .e 43 true, .e 44 true, .e 45 true, .t 46, .t 47, .t 48, .t 49, .t 50, .t 51, .t 52, .t 53, .s 54, .e 55 true, .e 56 true, .t 57, .t 58, .t 59, .t 60, .t 61, .t 62, .t 63, .s 64, .e 65 true, .e 66 true, .t 67, .t 68, .t 69, .t 70, .t 71, .t 72] (by kernel_rfl) (by kernel_rfl) (by intro c a d v w h; cases d <;> exact h) ?_
  have HS := Lib.hid (show AV w w15.drew c [(z15, yb), (z10, ya), (z6, z)] [(.slice a12 1 c12, [yb]), (.slice a11 1 c11, [yb])] [(.slice a4 1 c4, [98])] from HA15.out.below (Below.refl _ _).drew)
  clear HA15
  generalize w15.drew = V at *
  have hes := eq_sums_same
  iterate 8
    refine wpS_t rfl (v := ?_) (by rfl) (fun W => ?_) ?_
    rotate_left
    · go_simp
      try rfl
    try simp only [Act.put, List.setIfInBounds_toArray, List.set_cons_zero, List.set_cons_succ]
  refine wpS_k rfl (by rfl) (fun K hK => ?_)
  go_simp
  refine (csize_at w.heap.size V c _ HS.out.chain).mono ?_
  rintro e w16 ⟨rfl, rfl⟩
  refine hK _ _ ⟨by exact HS.out, ?_⟩; clear hK K
  try simp only [Act.put, List.setIfInBounds_toArray, List.set_cons_zero, List.set_cons_succ]
  iterate 8
    refine wpS_t rfl (v := ?_) (by rfl) (fun W => ?_) ?_
    rotate_left
    · go_simp
      try rfl
    try simp only [Act.put, List.setIfInBounds_toArray, List.set_cons_zero, List.set_cons_succ]
  refine wpS_s (by exact HS.out) rfl (v := .string ⟨#[98]⟩) (by rfl) (fun W hW => ?_) ?_
  · have hq := bytes_string 98 (hW.b _ (List.mem_cons_self ..))
    go_simp
  try simp only [Act.put, List.setIfInBounds_toArray, List.set_cons_zero, List.set_cons_succ]
  iterate 11
    refine wpS_t rfl (v := ?_) (by rfl) (fun W => ?_) ?_
    rotate_left
    · go_simp
      try rfl
    try simp only [Act.put, List.setIfInBounds_toArray, List.set_cons_zero, List.set_cons_succ]
  refine wpS_t rfl (v := sv z) (by rfl) (fun W => ?_) ?_
  · go_simp
    rw [HY.out.1, cellsOf_zeroSum]; rfl
  try simp only [Act.put, List.setIfInBounds_toArray, List.set_cons_zero, List.set_cons_succ]
  refine wpS_load_sum (by exact HS.out) rfl (by rfl) _ (by rfl) z6 0 (by rfl) z (fun W hW => hW.r (z6, z) (by simp)) ?_
  try simp only [Act.put, List.setIfInBounds_toArray, List.set_cons_zero, List.set_cons_succ]
  iterate 11
    refine wpS_t rfl (v := ?_) (by rfl) (fun W => ?_) ?_
    rotate_left
    · go_simp
      try rfl
    try simp only [Act.put, List.setIfInBounds_toArray, List.set_cons_zero, List.set_cons_succ]
  refine wpS_load_sum (by exact HS.out) rfl (by rfl) _ (by rfl) z10 0 (by rfl) ya (fun W hW => hW.r (z10, ya) (by simp)) ?_
  try simp only [Act.put, List.setIfInBounds_toArray, List.set_cons_zero, List.set_cons_succ]
  refine wpS_k rfl (by rfl) (fun K hK => ?_)
  go_simp
  refine hK _ _ ⟨by exact HS.out.below (al (Below.refl _ V) (.cells #[.int .u8 97] 5)), ?_⟩; clear hK K
  try simp only [Act.put, List.setIfInBounds_toArray, List.set_cons_zero, List.set_cons_succ]
  have kc := Lib.run_convert_bytes_const (P := Try.prog) V 50 5 #[.int .u8 97] 1 1 Try.underlying50 Try.underlying5
  refine wpS_k rfl (by rfl) (fun K hK => ?_)
  go_simp
  refine hK _ _ ⟨by exact HS.out.below (al (Below.refl _ V) (.cells #[.int .u8 97] 5 (1, 2))), ?_⟩; clear hK K
  try simp only [Act.put, List.setIfInBounds_toArray, List.set_cons_zero, List.set_cons_succ]
  have HS2 := Lib.hid (HS.out.below (al (Below.refl _ V) (.cells #[.int .u8 97] 5 (1, 2))))
  have hy1 : BytesAt (V.alloc (.cells #[.int .u8 97] 5 (1, 2))) (.slice (some ⟨V.heap.size, 0, none⟩) 1 1) [97] := bytes_marked V 97
  have HLA := Lib.hid (lf_any [97] _ _ hy1 (by simp))
  rw [← HY.out.2.1] at HLA
  clear hy1 kc HS
  refine wpS_k rfl (by rfl) (fun K hK => ?_)
  go_simp
  refine HLA.out.mono ?_
  rintro e V2 ⟨rfl, hb⟩
  have HS := Lib.hid (HS2.out.below hb)
  clear hb HS2 HLA
  refine hK _ _ ⟨by exact HS.out, ?_⟩; clear hK K
  try simp only [Act.put, List.setIfInBounds_toArray, List.set_cons_zero, List.set_cons_succ]
  iterate 8
    refine wpS_t rfl (v := ?_) (by rfl) (fun W => ?_) ?_
    rotate_left
    · go_simp
      try rfl
    try simp only [Act.put, List.setIfInBounds_toArray, List.set_cons_zero, List.set_cons_succ]
  refine wpS_load_sum (by exact HS.out) rfl (by rfl) _ (by rfl) z15 0 (by rfl) yb (fun W hW => hW.r (z15, yb) (by simp)) ?_
  try simp only [Act.put, List.setIfInBounds_toArray, List.set_cons_zero, List.set_cons_succ]
  refine wpS_k rfl (by rfl) (fun K hK => ?_)
  refine wp_build_sums 1 _ (by rfl) [yb] rfl (by omega) (by omega) (by rfl) ?_
  have HX := Lib.hid (sums_lit12 V2 [yb] 1 rfl (by omega))
  replace HS := Lib.hid (HS.out.below (al (Below.refl V2.heap.size V2) (.cells (cellsAll [yb]).toArray 24)))
  generalize V2.heap.size = g at *
  generalize V2.alloc (.cells (cellsAll [yb]).toArray 24) = V3 at *
  refine hK _ _ ⟨by exact HS.out, ?_⟩; clear hK K
  try simp only [Act.put, List.setIfInBounds_toArray, List.set_cons_zero, List.set_cons_succ]
  refine wpS_k rfl (by rfl) (fun K hK => ?_)
  go_simp
  refine (same_sums [yb] [yb] (.slice a11 1 c11) (.slice (some ⟨g, 0, none⟩) 1 1) V3 (HS.out.s (.slice a11 1 c11, [yb]) (by simp)) HX.out).mono ?_
  rw [decide_eq_true (rfl : [yb] = [yb])]
  rintro e V4 ⟨rfl, hb⟩
  replace HS := Lib.hid (HS.out.below hb)
  clear HX hb
  refine hK _ _ ⟨by exact HS.out, ?_⟩; clear hK K
  try simp only [Act.put, List.setIfInBounds_toArray, List.set_cons_zero, List.set_cons_succ]
  iterate 7
    refine wpS_t rfl (v := ?_) (by rfl) (fun W => ?_) ?_
    rotate_left
    · go_simp
      try rfl
    try simp only [Act.put, List.setIfInBounds_toArray, List.set_cons_zero, List.set_cons_succ]
  refine wpS_load_sum (by exact HS.out) rfl (by rfl) _ (by rfl) z15 0 (by rfl) yb (fun W hW => hW.r (z15, yb) (by simp)) ?_
  try simp only [Act.put, List.setIfInBounds_toArray, List.set_cons_zero, List.set_cons_succ]
  refine wpS_k rfl (by rfl) (fun K hK => ?_)
  refine wp_build_sums 1 _ (by rfl) [yb] rfl (by omega) (by omega) (by rfl) ?_
  have HX := Lib.hid (sums_lit12 V4 [yb] 1 rfl (by omega))
  replace HS := Lib.hid (HS.out.below (al (Below.refl V4.heap.size V4) (.cells (cellsAll [yb]).toArray 24)))
  generalize V4.heap.size = g2 at *
  generalize V4.alloc (.cells (cellsAll [yb]).toArray 24) = V5 at *
  refine hK _ _ ⟨by exact HS.out, ?_⟩; clear hK K
  try simp only [Act.put, List.setIfInBounds_toArray, List.set_cons_zero, List.set_cons_succ]
  refine wpS_k rfl (by rfl) (fun K hK => ?_)
  go_simp
  refine (same_sums [yb] [yb] (.slice a12 1 c12) (.slice (some ⟨g2, 0, none⟩) 1 1) V5 (HS.out.s (.slice a12 1 c12, [yb]) (by simp)) HX.out).mono ?_
  rw [decide_eq_true (rfl : [yb] = [yb])]
  rintro e V6 ⟨rfl, hb⟩
  replace HS := Lib.hid (HS.out.below hb)
  clear HX hb
  refine hK _ _ ⟨by exact HS.out, ?_⟩; clear hK K
  try simp only [Act.put, List.setIfInBounds_toArray, List.set_cons_zero, List.set_cons_succ]
  iterate 6
    refine wpS_t rfl (v := ?_) (by rfl) (fun W => ?_) ?_
    rotate_left
    · go_simp
      try rfl
    try simp only [Act.put, List.setIfInBounds_toArray, List.set_cons_zero, List.set_cons_succ]
  refine wpS_done ?_
  go_wp2_with fail
  exact bodyPost_ret (results_tmp rfl _ _ _) rfl ⟨rfl, HS.out.w⟩
end Go.Proofs.Ytdkcndgehgmadaa
-- Walks: almonerlaw12.ChainsMarks.
open Go Go.RowKit Alm
namespace Go.Proofs.Ytdkcndgehgmadaa
theorem cells8_append (a b : List UInt8) : cells8 (a ++ b) = cells8 a ++ cells8 b := by simp [cells8]
theorem wp_append_bytes {w : World} {o : Oper} {a : Act} {K : Act → World → Prop} {Q : Exit → Act → World → Prop} (s x : Operand)
    (ho : o.op = .call { callee := .builtin .append, args := #[s, x], argTypes := #[50, 50] })
    (base : Nat) (v : Value) (l ys : List UInt8) (n m : Nat) (hn : l.length = n) (hm : ys.length = m) (hs : a.eval s = v) (hown : w.ownsRow base 5 1 v n (cells8 l))
    (b off c : Nat) (hx : a.eval x = .slice (some ⟨b, off, none⟩) m c) (hr : w.rangeAt b off (cells8 ys)) (h0 : 0 < m) (hl : n + m < 4000000000000) (hB : base ≤ w.heap.size)
    (h : ∀ g cap w', w'.ownsRow base 5 1 (.slice (some ⟨g, 0, none⟩) (n + m) cap) (n + m) (cells8 (l ++ ys)) → w.grownBy w' v.ownBlock → (v.ownBlock = some g ∨ g = w.heap.size) → g < w'.heap.size → K (a.put o.dst (.slice (some ⟨g, 0, none⟩) (n + m) cap)) w') : o.wp Try.prog a w K Q := by
  obtain ⟨i, hi, hz⟩ := Option.map_eq_some_iff.1 infoByteZ
  simp only [Prod.mk.injEq] at hz
  refine wp_append_lies w s x _ ho base _ i (.int .u8 0) 1 1 Try.underlying50 hi hz.1 hz.2.1 hz.2.2 rfl (by omega) v n (cells8 l) hs hown ⟨b, off, none⟩ m c (cells8 ys) hx (by rw [length_cells8, hm]; omega) (fun j u hj => by rw [Addr.add_mid]; exact hr j u hj) (oneCell_cells8 ys) h0 (by unfold maxLen; omega) (by omega) hB w.heap.size rfl ?_
  intro g cap w' ho' hg hat hlt
  refine h g cap w' ?_ hg hat hlt
  rw [cells8_append]; exact ho'
/-- What the law has in hand in a round. -/
structure MV (w W0 W : World) (c : Nat) (l : List (List UInt8)) (R : List (Nat × Sum)) : Prop where
  chain : ChainAt w.heap.size W c l
  r : ∀ p ∈ R, W.rangeAt p.1 0 (cellsOf p.2)
  w : Below w.heap.size w W
  w0 : Below W0.heap.size W0 W
theorem MV.below {w W0 W W' : World} {c : Nat} {l : List (List UInt8)} {R : List (Nat × Sum)} (h : MV w W0 W c l R) (hb : Below W.heap.size W W') : MV w W0 W' c l R :=
  ⟨h.chain.below hb, fun p hp => (Keeps.of_below (X := fun _ => False) hb).range (h.r p hp) (fun h => h), h.w.trans (hb.mono h.w.size), h.w0.trans (hb.mono h.w0.size)⟩
theorem MV.addR {w W0 W : World} {c : Nat} {l : List (List UInt8)} {R : List (Nat × Sum)} (h : MV w W0 W c l R) {z : Nat} {s : Sum} (hr : W.rangeAt z 0 (cellsOf s)) : MV w W0 W c l ((z, s) :: R) :=
  ⟨h.chain, fun p hp => by rcases List.mem_cons.1 hp with rfl | hp; exact hr; exact h.r p hp, h.w, h.w0⟩
set_option maxRecDepth 100000 in
set_option maxHeartbeats 2000000 in
theorem chainsMarks_any (l : List (List UInt8)) (v : Value) (w : World) (hv : ListsAt w v l) (hn : l.length ≤ LIM) (hs : ∀ x ∈ l, x.length ≤ LIM) : Calls Try.prog 15 #[v] w fun e w' => e = .returned (.bool true) ∧ Below w.heap.size w w' := by
  have HV := Lib.hid hv
  have HGR := Lib.hid (great12_any l v w hv hn hs)
  obtain ⟨aa, ca, rfl, a1, a2, a3⟩ := hv
  clear a3
  obtain ⟨R, hR⟩ : ∃ R, R = gr12 l := ⟨_, rfl⟩
  rw [← hR] at HGR
  have HR := Lib.hid hR
  clear hR hs
  obtain ⟨n, hna⟩ : ∃ n, n = l.length := ⟨_, rfl⟩
  rw [← hna] at HV HGR a1 hn ⊢
  have HN := Lib.hid hna
  clear hna
  cases R with
  | true =>
    go_enter Try.func15, Try.ntmps15
    go_wp2_with fail
    refine HGR.out.mono ?_
    rintro e w1 ⟨rfl, rfl⟩
    go_wp2_with fail
    refine (alive12_any w).mono ?_
    rintro e w2 ⟨rfl, hb⟩
    have HF := Lib.hid hb; clear hb
    go_wp2_with fail
    exact bodyPost_ret (results_tmp rfl _ _ _) rfl ⟨rfl, HF.out⟩
  | false =>
    have hsm := gr12_le HR.out.symm
    have n60 : n ≤ 60 := by rw [HN.out]; exact hsm.1
    have n60' : (n : Int) ≤ 60 := by omega
    have HSM := Lib.hid hsm.2
    clear hsm hn
    go_enter Try.func15, Try.ntmps15
    go_wp2_with fail
    refine HGR.out.mono ?_
    rintro e w1 ⟨rfl, rfl⟩
    clear HGR
    go_wp2_with fail
    refine (made_any l _ w (by have := HV.out; rw [HN.out] at this ⊢; exact this) (by have := HN.out; omega)).mono ?_
    rintro e w1 ⟨hB, hc⟩
    rcases hc with ⟨c, rfl, hC, hsz⟩ | rfl
    · have HC := Lib.hid hC
      have HB0 := Lib.hid hB
      clear hC hB
      go_wp2_with fail
      go_loopw [4] (fun i W => ∃ j : Nat, j ≤ n ∧ i = .int .i64 (j : Int) ∧ ChainAt w.heap.size W c l ∧ Below w.heap.size w W) (fun i _ => n - (intOf i).toNat)
      case atStart => exact ⟨0, by omega, rfl, HC.out, HB0.out⟩
      case round =>
        obtain ⟨j, hj, rfl, hC, hB⟩ := hrel
        have HCR := Lib.hid (And.intro hC hB)
        clear hC hB HC HB0
        by_cases hlt : j < n
        · have hlt' : (j : Int) < (n : Int) := by omega
          have h0 : l ≠ [] := by intro h; have := HN.out; rw [h] at this; simp at this; omega
          have HW := Lib.hid (HV.out.below HCR.out.2)
          obtain ⟨b1', o1', c1', he1, _, _⟩ := HV.out.form h0
          simp only [Value.slice.injEq] at he1
          obtain ⟨rfl, h9, rfl⟩ := he1
          clear h9
          obtain ⟨u1, hc1, hu1⟩ := HW.out.cell (sp := none) (j := j) (by have := HN.out; omega)
          have hjl : j < l.length := by have := HN.out; omega
          have hx9 : l[j].length ≤ 40000 := HSM.out _ (List.getElem_mem hjl)
          have hstep : mk (l.take (j + 1)) = sh ((mk (l.take j)).toList ++ (lf l[j]).toList) := by rw [List.take_succ_eq_append_getElem hjl, mk_snoc]
          have HM1 := Lib.hid (fun W (h : ChainAt w.heap.size W c l) => cmark_at w.heap.size W c l h j (Nat.le_of_lt hjl))
          have HM2 : Hid (∀ W, ChainAt w.heap.size W c l → Calls Try.prog 39 #[.pointer (some ⟨c, 0, none⟩), .int .u64 ((j : Int) + 1)] W fun e w' => e = .returned (.tuple #[sv (mk (l.take (j + 1))), .int .i64 0]) ∧ Below W.heap.size W w') := Lib.hid (fun W h => cmark_at w.heap.size W c l h (j + 1) hjl)
          have HU := Lib.hid (And.intro hu1 hx9)
          have HST := Lib.hid hstep
          clear hu1 hx9 hstep h0 HW
          generalize l[j] = x at *
          clear hjl
          have HCU := Lib.hid hc1; clear hc1
          have HLF := Lib.hid (fun W (h : BytesAt W u1 x) => lf_any x u1 W h (by have := HU.out.2; omega))
          obtain ⟨m1, hm1⟩ : ∃ m, m = mk (l.take j) := ⟨_, rfl⟩
          obtain ⟨m2, hm2⟩ : ∃ m, m = mk (l.take (j + 1)) := ⟨_, rfl⟩
          obtain ⟨y, hy⟩ : ∃ m, m = lf x := ⟨_, rfl⟩
          rw [← hm1] at HM1 HST
          rw [← hm2] at HM2 HST
          rw [← hy] at HLF HST
          clear hm1 hm2 hy
          have hj0 : (0 : Int) ≤ (j : Int) := by omega
          obtain ⟨W0, hW0⟩ : ∃ W, W = wr := ⟨_, rfl⟩
          have HA := Lib.hid (show MV w W0 wr c l [] from ⟨HCR.out.1, by simp, HCR.out.2, by rw [hW0]; exact Below.refl _ _⟩)
          rw [← hW0] at HCU HU
          clear hW0 HCR
          go_wp2_with fail
          refine (HM1.out _ HA.out.chain).mono ?_
          rintro e w2 ⟨rfl, hb⟩
          have HA2 := Lib.hid (HA.out.below hb)
          clear hb HA
          have HG := Lib.hid trivial
          go_wp2_with (have _ := HG; refine wpList_var_sum (by rfl) rfl _ _ rfl m1 rfl rfl ?_; intro w3 hb hr _ _; obtain ⟨z3, hz3⟩ : ∃ x, x = w2.heap.size := ⟨_, rfl⟩; rw [← hz3] at hr ⊢; have HA3 := Lib.hid ((HA2.out.below hb).addR hr); clear HG hb hr hz3 HA2)
          refine (HM2.out _ HA3.out.chain).mono ?_
          rintro e w4 ⟨rfl, hb⟩
          have HA4 := Lib.hid (HA3.out.below hb)
          clear hb HA3
          have HG := Lib.hid trivial
          go_wp2_with (have _ := HG; refine wpList_var_sum (by rfl) rfl _ _ rfl m2 rfl rfl ?_; intro w5 hb hr _ _; obtain ⟨z5, hz5⟩ : ∃ x, x = w4.heap.size := ⟨_, rfl⟩; rw [← hz5] at hr ⊢; have HA5 := Lib.hid ((HA4.out.below hb).addR hr); have g5 := bc HCU.out HA5.out.w0; clear HG hb hr hz5 HA4)
          refine (HLF.out _ (bytes_below HU.out.1 HA5.out.w0 (Nat.le_refl _))).mono ?_
          rintro e w6 ⟨rfl, hb⟩
          have HA6 := Lib.hid (HA5.out.below hb)
          clear hb HA5 g5
          have HG := Lib.hid trivial
          go_wp2_with (have _ := HG; refine wpList_var_sum (by rfl) rfl _ _ rfl y rfl rfl ?_; intro w7 hb hr _ _; obtain ⟨z7, hz7⟩ : ∃ x, x = w6.heap.size := ⟨_, rfl⟩; rw [← hz7] at hr ⊢; have HA7 := Lib.hid ((HA6.out.below hb).addR hr); clear HG hb hr hz7 HA6)
          refine wp_region_sched (fun V => MV w W0 V c l [(z7, y), (z5, m2), (z3, m1)]) [.t 0, .t 2, .e 1 false, .e 3 false, .t 4] (by kernel_rfl) (by kernel_rfl) (by intro c a d v w h; cases d <;> exact h) ?_
          have HS := Lib.hid (HA7.out.below (Below.refl _ w7).drew)
          clear HA7
          generalize w7.drew = V at *
          iterate 2
            refine wpS_t rfl (v := ?_) (by rfl) (fun W => ?_) ?_
            rotate_left
            · go_simp
              try rfl
            try simp only [Act.put, List.setIfInBounds_toArray, List.set_cons_zero, List.set_cons_succ]
          refine wpS_e rfl (by rfl) (fun K hK => ?_)
          refine wp_append_bytes _ _ (by rfl) V.heap.size _ [] m1.toList 0 32 rfl (by simp) (by rfl) (World.ownsRow_nil _ _ _ _) z3 0 32 (by rfl) (HS.out.r (z3, m1) (by simp)) (by omega) (by omega) (Nat.le_refl _) ?_
          intro g1 cap1 V1 ho1 hg1 _ hl1
          refine hK _ _ ?_; clear hK K
          try simp only [Act.put, List.setIfInBounds_toArray, List.set_cons_zero, List.set_cons_succ]
          have hb1 : Below V.heap.size V V1 := (Keeps.of_grown (X := fun _ => False) hg1 (fun k hk => by cases hk)).below (Nat.le_refl _) (fun k h => h.elim)
          have HS1 := Lib.hid (HS.out.below hb1)
          have HO1 := Lib.hid ho1
          have HVS := Lib.hid hb1
          clear ho1 hg1 hl1 hb1
          refine wpS_e rfl (by rfl) (fun K hK => ?_)
          refine wp_append_bytes _ _ (by rfl) V.heap.size _ ([] ++ m1.toList) y.toList (0 + 32) 32 (by simp) (by simp) (by rfl) HO1.out z7 0 32 (by rfl) (HS1.out.r (z7, y) (by simp)) (by omega) (by omega) HVS.out.size ?_
          intro g2 cap2 V2 ho2 hg2 hat2 hl2
          refine hK _ _ ?_; clear hK K
          try simp only [Act.put, List.setIfInBounds_toArray, List.set_cons_zero, List.set_cons_succ]
          have hb2 : Below V.heap.size V V2 := ((Keeps.of_below (X := fun k => V.heap.size ≤ k) HVS.out).trans (Keeps.of_grown (X := fun k => V.heap.size ≤ k) hg2 (fun k hk => own_base HO1.out k hk))).below (Nat.le_refl _) (fun k h => h)
          have HS2 := Lib.hid (HS.out.below hb2)
          have hby : BytesAt V2 (.slice (some ⟨g2, 0, none⟩) (0 + 32 + 32) cap2) (m1.toList ++ y.toList) := by
            refine bytes_own (base := V.heap.size) (e := 5) ?_ (by simp)
            have := ho2
            rw [List.nil_append] at this
            rw [show (m1.toList ++ y.toList).length = 0 + 32 + 32 from by simp]
            exact this
          have HBY := Lib.hid hby
          clear hby hb2 ho2 hg2 hat2 hl2 HS HS1 HO1 HVS
          iterate 1
            refine wpS_t rfl (v := ?_) (by rfl) (fun W => ?_) ?_
            rotate_left
            · go_simp
              try rfl
            try simp only [Act.put, List.setIfInBounds_toArray, List.set_cons_zero, List.set_cons_succ]
          refine wpS_done ?_
          go_wp2_with fail
          have hes := eq_sums_same
          refine wp_region_sched (fun V => MV w W0 V c l [(z7, y), (z5, m2), (z3, m1)]) [.t 0, .t 1, .t 2, .t 3, .t 4, .t 5, .t 6, .t 8, .s 7, .e 9 true, .t 10, .t 11] (by kernel_rfl) (by kernel_rfl) (by intro c a d v w h; cases d <;> exact h) ?_
          have HS := Lib.hid (HS2.out.below (Below.refl _ V2).drew)
          have HB2 := Lib.hid (bytes_below HBY.out (Below.refl _ V2).drew (Nat.le_refl _))
          clear HS2 HBY
          generalize V2.drew = V3 at *
          iterate 8
            refine wpS_t rfl (v := ?_) (by rfl) (fun W => ?_) ?_
            rotate_left
            · go_simp
              try rfl
            try simp only [Act.put, List.setIfInBounds_toArray, List.set_cons_zero, List.set_cons_succ]
          refine wpS_load_sum (by exact HS.out) rfl (by rfl) _ (by rfl) z5 0 (by rfl) m2 (fun W hW => hW.r (z5, m2) (by simp)) ?_
          try simp only [Act.put, List.setIfInBounds_toArray, List.set_cons_zero, List.set_cons_succ]
          have HSH := Lib.hid (sh_any _ _ V3 HB2.out (by simp))
          rw [← HST.out] at HSH
          clear HB2
          refine wpS_k rfl (by rfl) (fun K hK => ?_)
          go_simp
          refine HSH.out.mono ?_
          rintro e V4 ⟨rfl, hb⟩
          have HS4 := Lib.hid (HS.out.below hb)
          clear HS hb HSH
          refine hK _ _ ⟨by exact HS4.out, ?_⟩; clear hK K
          try simp only [Act.put, List.setIfInBounds_toArray, List.set_cons_zero, List.set_cons_succ]
          iterate 2
            refine wpS_t rfl (v := ?_) (by rfl) (fun W => ?_) ?_
            rotate_left
            · go_simp
              try rfl
            try simp only [Act.put, List.setIfInBounds_toArray, List.set_cons_zero, List.set_cons_succ]
          refine wpS_done ?_
          go_wp2_with fail
          exact ⟨⟨j + 1, by omega, by simp, HS4.out.chain, HS4.out.w⟩, by simp [intOf]; omega⟩
        · have hjn : j = n := by omega
          subst hjn
          go_wp2_with fail
          refine (alive12_any wr).mono ?_
          rintro e w2 ⟨rfl, hb⟩
          have HF := Lib.hid (HCR.out.2.trans (hb.mono HCR.out.2.size)); clear hb
          go_wp2_with fail
          exact bodyPost_ret (results_tmp rfl _ _ _) rfl ⟨rfl, HF.out⟩
    · have HB0 := Lib.hid hB
      clear hB
      go_wp2_with fail
      refine (alive12_any w1).mono ?_
      rintro e w2 ⟨rfl, hb⟩
      have HF := Lib.hid (HB0.out.trans (hb.mono HB0.out.size)); clear hb
      go_wp2_with fail
      exact bodyPost_ret (results_tmp rfl _ _ _) rfl ⟨rfl, HF.out⟩
end Go.Proofs.Ytdkcndgehgmadaa
