/-
  Walks: links.Check.
-/
import Derived.Test.YtdkcndgehgmadaaG9
import Derived.Test.YtdkcndgehgmadaaE1
open Go Go.RowKit Alm
namespace Go.Proofs.Ytdkcndgehgmadaa
/-- A new variable that is two sums, set. -/
theorem wpList_var_both {ops : Array Oper} {rest : List Oper} {op : Oper} {a : Act} {w : World} {C : Array Value} {t : TypeId} {Q : Exit → Act → World → Prop} (hC : C.size = 64) (hgd : op.guard = none) (x y : Operand) (ho : op.op = .store 105 x y)
    (s u : Sum) (hx : a.eval x = .pointer (some ⟨w.heap.size, 0, none⟩)) (hy : a.eval y = bv s u)
    (h : ∀ W', Below w.heap.size w W' → W'.rangeAt w.heap.size 0 (cells2 s u) → wpList Try.prog ops Q rest (a.put op.dst undef) W') : wpList Try.prog ops Q (op :: rest) a (w.alloc (.cells C t)) := by
  have ht : (w.alloc (.cells C t)).there w.heap.size 0 64 := by rw [← hC]; exact there_new _ _ _
  have ht2 := World.there_setCells ht w.heap.size 0 (cells2 s u)
  exact wpList_store_both hgd x y ho w.heap.size 0 s u hx hy ht (h _ (setCells_below _ (Nat.le_refl _) _ 0 _ _ (al (Below.refl _ _) _)) (range_stored _ _ _ _ (by rw [length_cells2]; exact ht2)))
theorem wpG_load_sum {ops : Array Oper} {rest : List Oper} {op : Oper} {a : Act} {w : World} {Q : Exit → Act → World → Prop} (hw : Region.wanted op (yielded ops a.tmps) = true) (x : Operand) (ho : op.op = .load 24 x)
    (b o : Nat) (hx : a.eval x = .pointer (some ⟨b, o, none⟩)) (s : Sum) (hc : w.rangeAt b o (cellsOf s)) (h : wpList Try.prog ops Q rest (a.put op.dst (sv s)) w) : wpList Try.prog ops Q (op :: rest) a w :=
  BigFrame.wpList_want hw fun _ hK => wp_load_sum x ho b o hx s hc (hK _ _ h)
theorem wpG_load_both {ops : Array Oper} {rest : List Oper} {op : Oper} {a : Act} {w : World} {Q : Exit → Act → World → Prop} (hw : Region.wanted op (yielded ops a.tmps) = true) (x : Operand) (ho : op.op = .load 105 x)
    (b o : Nat) (hx : a.eval x = .pointer (some ⟨b, o, none⟩)) (s t : Sum) (hc : w.rangeAt b o (cells2 s t)) (h : wpList Try.prog ops Q rest (a.put op.dst (bv s t)) w) : wpList Try.prog ops Q (op :: rest) a w :=
  BigFrame.wpList_want hw fun _ hK => wp_load_mid _ x ho b o hx (cells2 s t) _ hc Try.underlying105 rfl (by rw [length_cells2]; exact infoBoth) (hK _ _ h)
theorem wpG_build_both {ops : Array Oper} {rest : List Oper} {op : Oper} {a : Act} {w : World} {Q : Exit → Act → World → Prop} (hw : Region.wanted op (yielded ops a.tmps) = true) (parts : Array (Nat × Operand)) (ho : op.op = .build 105 parts)
    (x y : Sum) (hp : (parts.toList.map fun (i, x) => (i, a.eval x)) = [(0, sv x), (1, sv y)]) (h : wpList Try.prog ops Q rest (a.put op.dst (bv x y)) w) : wpList Try.prog ops Q (op :: rest) a w :=
  BigFrame.wpList_want hw fun _ hK => by
    unfold Oper.wp
    rw [exec_build_both parts ho x y hp w]
    exact hK _ _ h
/-- Whether a link is let be. -/
noncomputable def letBe (m n : Nat) (a b : Sum) (p : List Sum) : Bool :=
  decide (1 ≤ m) && decide (m ≤ n) && (match leads2 nd a m n true p with
    | some ((x, y), []) => x == a && y == b
    | _ => false)
set_option maxRecDepth 100000 in
set_option maxHeartbeats 1000000 in
theorem check_out (m n : Nat) (a b : Sum) (v : Value) (p : List Sum) (w : World) (hv : SumsAt w v p) (h : m < 1 ∨ n < m) :
    Calls Try.prog 37 #[.int .u64 (m : Int), .int .u64 (n : Int), sv a, sv b, v] w fun e w' => e = .returned (.bool false) ∧ Below w.heap.size w w' := by
  obtain ⟨ad, cap, rfl, _, _, _⟩ := hv
  have HB : Hid (Below w.heap.size w (((w.alloc (.cells (cellsOf a).toArray 24)).alloc (.cells (cellsOf b).toArray 24)).alloc (.cells #[.slice ad p.length cap] 22))) := Lib.hid (al (al (al (Below.refl _ _) _) _) _)
  by_cases h1 : m < 1
  · have k1 : decide ((m : Int) < 1) = true := decide_eq_true (by omega)
    go_enter Try.func37, Try.ntmps37
    go_wp2_with fail
    exact bodyPost_ret (results_tmp rfl _ _ _) rfl ⟨rfl, HB.out⟩
  · have k1 : decide ((m : Int) < 1) = false := decide_eq_false (by omega)
    have k2 : decide (n < m) = true := decide_eq_true (by omega)
    have k3 : n < m := by omega
    go_enter Try.func37, Try.ntmps37
    go_wp2_with fail
    exact bodyPost_ret (results_tmp rfl _ _ _) rfl ⟨rfl, HB.out⟩
set_option maxRecDepth 100000 in
set_option maxHeartbeats 1000000 in
theorem check_in (m n : Nat) (a b : Sum) (v : Value) (p : List Sum) (w : World) (hv : SumsAt w v p) (h1 : 1 ≤ m) (h2 : m ≤ n) (hn : m = n ∨ n < 4000000000) :
    Calls Try.prog 37 #[.int .u64 (m : Int), .int .u64 (n : Int), sv a, sv b, v] w fun e w' => e = .returned (.bool (letBe m n a b p)) ∧ Below w.heap.size w w' := by
  obtain ⟨w1, hw1⟩ : ∃ W, W = w.alloc (.cells (cellsOf a).toArray 24) := ⟨_, rfl⟩
  obtain ⟨w2, hw2⟩ : ∃ W, W = w1.alloc (.cells (cellsOf b).toArray 24) := ⟨_, rfl⟩
  obtain ⟨w3, hw3⟩ : ∃ W, W = w2.alloc (.cells #[v] 22) := ⟨_, rfl⟩
  obtain ⟨w4, hw4⟩ : ∃ W, W = w3.alloc (.cells #[nextFn (w.heap.size + 1 + 1)] 102) := ⟨_, rfl⟩
  obtain ⟨w5, hw5⟩ : ∃ W, W = w4.alloc (.cells #[leadsFn w.heap.size (w.heap.size + 1 + 1 + 1) (w.heap.size + 1 + 1 + 1 + 1)] 103) := ⟨_, rfl⟩
  have z1 : w1.heap.size = w.heap.size + 1 := by rw [hw1]; exact Array.size_push _
  have z2 : w2.heap.size = w.heap.size + 1 + 1 := by rw [hw2, ← z1]; exact Array.size_push _
  have z3 : w3.heap.size = w.heap.size + 1 + 1 + 1 := by rw [hw3, ← z2]; exact Array.size_push _
  have z4 : w4.heap.size = w.heap.size + 1 + 1 + 1 + 1 := by rw [hw4, ← z3]; exact Array.size_push _
  have z5 : w5.heap.size = w.heap.size + 1 + 1 + 1 + 1 + 1 := by rw [hw5, ← z4]; exact Array.size_push _
  have b1 : Below w.heap.size w w1 := by rw [hw1]; exact al (Below.refl _ _) _
  have b2 : Below w1.heap.size w1 w2 := by rw [hw2]; exact al (Below.refl _ _) _
  have b3 : Below w2.heap.size w2 w3 := by rw [hw3]; exact al (Below.refl _ _) _
  have b4 : Below w3.heap.size w3 w4 := by rw [hw4]; exact al (Below.refl _ _) _
  have b5 : Below w4.heap.size w4 w5 := by rw [hw5]; exact al (Below.refl _ _) _
  have b15 : Below w1.heap.size w1 w5 := b2.trans ((b3.trans ((b4.trans (b5.mono (by omega))).mono (by omega))).mono (by omega))
  have b25 : Below w2.heap.size w2 w5 := b3.trans ((b4.trans (b5.mono (by omega))).mono (by omega))
  have b35 : Below w3.heap.size w3 w5 := b4.trans (b5.mono (by omega))
  have b05 : Below w.heap.size w w5 := b1.trans (b15.mono (by omega))
  have f1 : w5.rangeAt w.heap.size 0 (cellsOf a) := (Keeps.of_below (X := fun _ => False) b15).range (by rw [hw1]; exact range_new w _ _ _ rfl) (fun h => h)
  have f2 : w5.rangeAt (w.heap.size + 1) 0 (cellsOf b) := (Keeps.of_below (X := fun _ => False) b25).range (by rw [hw2, ← z1]; exact range_new w1 _ _ _ rfl) (fun h => h)
  have f3 : w5.heap[w.heap.size + 1 + 1]? = some (.cells #[v] 22 (0, 0)) := (Keeps.of_below (X := fun _ => False) b35).heap (by rw [hw3, ← z2]; exact Array.getElem?_push_size) (fun h => h)
  have f4 : w5.cell? ⟨w.heap.size + 1 + 1 + 1, 0, none⟩ = some (nextFn (w.heap.size + 1 + 1)) := (Keeps.of_below (X := fun _ => False) b5).cell (a := ⟨w.heap.size + 1 + 1 + 1, 0, none⟩) (by rw [hw4, ← z3]; exact range_new w3 _ _ [_] rfl 0 _ rfl) (fun h => h)
  have f5 : w5.cell? ⟨w.heap.size + 1 + 1 + 1 + 1, 0, none⟩ = some (leadsFn w.heap.size (w.heap.size + 1 + 1 + 1) (w.heap.size + 1 + 1 + 1 + 1)) := by rw [hw5, ← z4]; exact range_new w4 _ _ [_] rfl 0 _ rfl
  have hI : LeadsIn w5 w.heap.size (w.heap.size + 1 + 1 + 1) (w.heap.size + 1 + 1 + 1 + 1) (w.heap.size + 1 + 1) a := ⟨f1, f4, f5, by omega, by omega, by omega⟩
  have hv5 : SumsAt w5 v p := (Keeps.of_below (X := fun _ => False) b05).sums hv (fun _ _ h => h)
  have hlf : LeftAt w.heap.size w5 (w.heap.size + 1 + 1) p := ⟨v, f3, hv5, fun hp k hk => by
    obtain ⟨bb, o, cap, rfl, _, _, hr⟩ := sums_form hv hp
    have e : bb = k := by simpa [Value.ownBlock] using hk
    have : bb < w.heap.size := range_lt hr (by
      intro h
      have h3 := congrArg List.length h
      rw [length_cellsAll] at h3
      have : p.length = 0 := by simp only [List.length_nil] at h3; omega
      exact hp (List.length_eq_zero_iff.1 this))
    omega⟩
  have hld : Calls Try.prog 73 (leadsArgs m n true w.heap.size (w.heap.size + 1 + 1 + 1) (w.heap.size + 1 + 1 + 1 + 1)) w5 (LeadsOf w.heap.size w5 (w.heap.size + 1 + 1) (leads2 nd a m n true p)) := by
    rcases hn with rfl | hn
    · have : leads2 nd a m m true p = some ((a, a), p) := by rw [leads2, dif_pos (Nat.le_refl _)]; rfl
      rw [this]
      exact leads_edge _ _ _ _ _ a m p w5 hI hlf
    · exact leads_any _ _ _ _ _ a n n m true p w5 (Nat.le_refl _) h1 h2 hn (by omega) hI hlf
  have hbe : letBe m n a b p = (match leads2 nd a m n true p with
      | some ((x, y), []) => decide (x = a) && decide (y = b)
      | _ => false) := by
    unfold letBe
    rw [decide_eq_true h1, decide_eq_true h2]
    generalize leads2 nd a m n true p = r
    rcases r with _ | ⟨⟨x, y⟩, _ | ⟨s, q⟩⟩ <;> first | rfl | (by_cases hx : x = a <;> by_cases hy : y = b <;> simp [hx, hy])
  rw [hbe]
  generalize leads2 nd a m n true p = r at *
  have HX := Lib.hid (And.intro hld (And.intro b05 (And.intro z5 (And.intro f1 f2))))
  have HE : Hid (w5 = (((((w.alloc (.cells (cellsOf a).toArray 24)).alloc (.cells (cellsOf b).toArray 24)).alloc (.cells #[v] 22)).alloc (.cells #[nextFn (w.heap.size + 1 + 1)] 102)).alloc (.cells #[leadsFn w.heap.size (w.heap.size + 1 + 1 + 1) (w.heap.size + 1 + 1 + 1 + 1)] 103))) := Lib.hid (by rw [hw5, hw4, hw3, hw2, hw1])
  clear hld b1 b2 b3 b4 b5 b15 b25 b35 b05 f1 f2 f3 f4 f5 hI hv5 hlf hbe z1 z2 z3 z4 z5 hw5 hw4 hw3 hw2 hw1
  obtain ⟨ad, cap, rfl, _, _, _⟩ := hv
  have k1 : decide ((m : Int) < 1) = false := decide_eq_false (by omega)
  have k2 : decide (n < m) = false := decide_eq_false (by omega)
  have k3 : ¬ n < m := by omega
  have hst1 := fun W => run_store Try.prog W ⟨w.heap.size + 1 + 1 + 1, 0, none⟩ (nextFn (w.heap.size + 1 + 1)) .plain rfl
  have hst2 := fun W => run_store Try.prog W ⟨w.heap.size + 1 + 1 + 1 + 1, 0, none⟩ (leadsFn w.heap.size (w.heap.size + 1 + 1 + 1) (w.heap.size + 1 + 1 + 1 + 1)) .plain rfl
  clear h1 h2 hn
  go_enter Try.func37, Try.ntmps37
  go_wp2_with fail
  clear hst1 hst2
  change Calls _ _ _ (((((w.alloc (.cells (cellsOf a).toArray 24)).alloc (.cells (cellsOf b).toArray 24)).alloc (.cells #[.slice ad p.length cap] 22)).alloc (.cells #[nextFn (w.heap.size + 1 + 1)] 102)).alloc (.cells #[leadsFn w.heap.size (w.heap.size + 1 + 1 + 1) (w.heap.size + 1 + 1 + 1 + 1)] 103)) _
  rw [← HE.out]
  refine HX.out.1.mono ?_
  intro e6 w6 hl
  have hk6 := hl.1
  obtain ⟨x, y, ev, he, ht⟩ := hl.form
  subst he
  have hs6 : w.heap.size + 1 + 1 + 1 + 1 + 1 ≤ w6.heap.size := HX.out.2.2.1 ▸ hk6.size
  have f1 := hk6.range HX.out.2.2.2.1 (by omega)
  have f2 := hk6.range HX.out.2.2.2.2 (by omega)
  have hB6 : Below w.heap.size w w6 := ((Keeps.of_below (X := (· = w.heap.size + 1 + 1)) HX.out.2.1).trans hk6).below (Nat.le_refl _) (fun k hk => by omega)
  have HW := Lib.hid (And.intro f1 (And.intro f2 hB6))
  clear k1 k2 k3 hk6 hl hs6 f1 f2 hB6 HX HE
  rcases r with _ | ⟨⟨x', y'⟩, q⟩
  · cases ht
    go_wp2_with (first
      | (refine wpList_var_both (by rfl) rfl _ _ rfl x y rfl rfl ?_; intro W7 hb7 hr7; have HBF := Lib.hid (HW.out.2.2.trans (hb7.mono HW.out.2.2.size)); clear hb7 hr7)
      | (go_at_call 74; refine (is_short _).mono ?_; rintro e7 w7 ⟨rfl, rfl⟩))
    exact bodyPost_ret (results_tmp rfl _ _ _) rfl ⟨rfl, HBF.out⟩
  · obtain ⟨rfl, rfl, rfl, hq⟩ := ht
    have HQ := Lib.hid hq; clear hq
    have heq := eq_both
    go_wp2_with (refine wpList_var_both (by rfl) rfl _ _ rfl x' y' rfl rfl ?_; intro W7 hb7 hr7; have HR7 := Lib.hid (And.intro hb7 hr7); clear hb7 hr7)
    have hq7 := HQ.out.below HR7.out.1
    have hk7 := Keeps.of_below (X := fun _ => False) HR7.out.1
    have HA := Lib.hid (hk7.range HW.out.1 (fun h => h))
    have HBB := Lib.hid (hk7.range HW.out.2.1 (fun h => h))
    have HBF := Lib.hid (HW.out.2.2.trans (HR7.out.1.mono HW.out.2.2.size))
    obtain ⟨vq, g1, g2, _⟩ := hq7
    obtain ⟨aq, cq, rfl, _, _, _⟩ := g2
    have hc : W7.cell? ⟨w.heap.size + 1 + 1, 0, none⟩ = some (.slice aq q.length cq) := by rw [cell_of_row W7 _ _ _ _ (0, 0) g1]; rfl
    clear g1 hk7
    rcases q with _ | ⟨s, q⟩
    · go_wp2_with (first
        | (go_at_call 74; refine (is_nil_ _ _).mono ?_; rintro e7 w7 ⟨rfl, rfl⟩)
        | (refine wpG_load_both (by rfl) _ rfl w6.heap.size 0 rfl x' y' HR7.out.2 ?_)
        | (refine wpG_load_sum (by rfl) _ rfl w.heap.size 0 rfl a HA.out ?_)
        | (refine wpG_load_sum (by rfl) _ rfl (w.heap.size + 1) 0 rfl b HBB.out ?_)
        | (refine wpG_build_both (by rfl) _ rfl a b rfl ?_))
      exact bodyPost_ret (results_tmp rfl _ _ _) rfl ⟨rfl, HBF.out⟩
    · obtain ⟨k, hk⟩ : ∃ k, k = (s :: q).length := ⟨_, rfl⟩
      have hne : ((k : Int) == 0) = false := by rw [beq_eq_false_iff_ne]; simp only [List.length_cons] at hk; omega
      rw [← hk] at hc
      clear hk heq
      go_wp2_with (go_at_call 74; refine (is_nil_ _ _).mono ?_; rintro e7 w7 ⟨rfl, rfl⟩)
      exact bodyPost_ret (results_tmp rfl _ _ _) rfl ⟨rfl, HBF.out⟩
end Go.Proofs.Ytdkcndgehgmadaa
