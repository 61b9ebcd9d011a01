/-
  Walks: paths.Check.
-/
import Derived.Test.YtdkcndgehgmadaaP3
import Derived.Test.YtdkcndgehgmadaaSched2
import Derived.Recover
open Go Go.RowKit Alm
namespace Go.Proofs.Ytdkcndgehgmadaa
theorem caught_ (p : Addr) (x : Bool) (u : TypeId) (pv : Value) (older : List PanicEntry) (w : World) (hc : w.cell? p = some (.bool x)) (hz : w.frozen? p = false) :
    CallsD Try.prog 64 #[.pointer (some p)] (.panicking ({ v := .iface u pv, recovered := false } :: older)) w fun e u' w' =>
      e = .returned (.tuple #[]) ∧ u' = .panicking ({ v := .iface u pv, recovered := true } :: older) ∧ w' = w.setCell p (.bool false) := by
  refine callsD_of_wpS Try.func64 rfl fun c₀ cs hu => ?_
  apply wpS_seq
  apply wpS_region
  simp [wpOpsS, go_sem, recoverD, hu, Try.ntmps64, Exit.thenS]
  apply wpS_seq
  apply wpS_region
  simp [wpOpsS, go_sem, Exit.thenS]
  refine wpS_cond (t := true) (by simp [Act.eval, Array.replicate]) ?_
  simp only [if_true]
  apply wpS_region
  simp [wpOpsS, go_sem, hc, hz, bodyPostS, results, Try.results64]
theorem idle_ (p : Addr) (w : World) :
    CallsD Try.prog 64 #[.pointer (some p)] .returning w fun e u' w' => e = .returned (.tuple #[]) ∧ u' = .returning ∧ w' = w := by
  refine callsD_of_wpS Try.func64 rfl fun c₀ cs hu => ?_
  apply wpS_seq
  apply wpS_region
  simp [wpOpsS, go_sem, recoverD, hu, Try.ntmps64, Exit.thenS]
  apply wpS_seq
  apply wpS_region
  simp [wpOpsS, go_sem, Exit.thenS]
  refine wpS_cond (t := false) (by simp [Act.eval, Array.replicate]) ?_
  simp only [Bool.false_eq_true, if_false]
  refine wpS_of_wp (wp_skip ?_)
  cases c₀
  simp_all [bodyPostS, results, Try.results64]
theorem exec_load_pleads {f : Operand → Value} {o : Oper} (x : Operand) (ho : o.op = .load 95 x) (b : Nat) (v : Value) (hx : f x = .pointer (some ⟨b, 0, none⟩)) (W : World) (hc : W.cell? ⟨b, 0, none⟩ = some v) :
    (execOp f o).run Try.prog W = .ok (.value v) W := by
  unfold execOp
  simp only [ho, hx]
  go_simp
/-- Whether a path is let be. -/
noncomputable def pathBe (leaf : Sum) (m n : Nat) (p : List Sum) (root : Sum) : Bool :=
  decide (m < n) && (match leads nd leaf m n p with
    | some (s, []) => decide (s = root)
    | _ => false)
set_option maxRecDepth 100000 in
set_option maxHeartbeats 1000000 in
theorem pcheck_out (a : Sum) (m n : Nat) (v : Value) (p : List Sum) (b : Sum) (w : World) (hv : SumsAt w v p) (h : n ≤ m) :
    Calls Try.prog 26 #[sv a, .int .u64 (m : Int), .int .u64 (n : Int), v, sv b] w fun e w' => e = .returned (.bool false) ∧ Below w.heap.size w w' := by
  obtain ⟨ad, cap, rfl, _, _, _⟩ := hv
  have hmf : ∀ (fn : Fn) (first cap : Array Value) (w : World), (Instr.makeFunc fn first cap).run Try.prog w = .ok (.func fn first cap) w := fun _ _ _ _ => rfl
  have HB : Hid (Below w.heap.size w ((((w.alloc (.cells (cellsOf a).toArray 24)).alloc (.cells #[.slice ad p.length cap] 22)).alloc (.cells (cellsOf b).toArray 24)).alloc (.cells #[.bool false] 4))) := Lib.hid (al (al (al (al (Below.refl _ _) _) _) _) _)
  have k1 : decide (n ≤ m) = true := decide_eq_true h
  have k2 : (n : Int) ≤ (m : Int) := by omega
  go_enter_defers Try.func26, Try.ntmps26
  go_wp2_with fail
  have HC : Hid ((((((w.alloc (.cells (cellsOf a).toArray 24)).alloc (.cells #[.slice ad p.length cap] 22)).alloc (.cells (cellsOf b).toArray 24)).alloc (.cells #[.bool false] 4))).cell? ⟨w.heap.size + 1 + 1 + 1, 0, none⟩ = some (.bool false)) := Lib.hid (by
    have := range_new (((w.alloc (.cells (cellsOf a).toArray 24)).alloc (.cells #[.slice ad p.length cap] 22)).alloc (.cells (cellsOf b).toArray 24)) #[.bool false] 4 _ rfl 0 _ rfl
    simp only [World.size_alloc] at this; exact this)
  have hc := HC.out
  generalize ((((w.alloc (.cells (cellsOf a).toArray 24)).alloc (.cells #[.slice ad p.length cap] 22)).alloc (.cells (cellsOf b).toArray 24)).alloc (.cells #[.bool false] 4)) = V at *
  have HBO := HB.out
  simp [bodyPostD, Leaves, results, Try.results26, go_sem, hc]
  exact HBO
set_option maxRecDepth 100000 in
set_option maxHeartbeats 1000000 in
theorem pcheck_in (a : Sum) (m n : Nat) (v : Value) (p : List Sum) (b : Sum) (w : World) (hv : SumsAt w v p) (h : m < n) (hn : n < 4000000000) :
    Calls Try.prog 26 #[sv a, .int .u64 (m : Int), .int .u64 (n : Int), v, sv b] w fun e w' => e = .returned (.bool (pathBe a m n p b)) ∧ Below w.heap.size w w' := by
  obtain ⟨w1, hw1⟩ : ∃ W, W = w.alloc (.cells (cellsOf a).toArray 24) := ⟨_, rfl⟩
  obtain ⟨w2, hw2⟩ : ∃ W, W = w1.alloc (.cells #[v] 22) := ⟨_, rfl⟩
  obtain ⟨w3, hw3⟩ : ∃ W, W = w2.alloc (.cells (cellsOf b).toArray 24) := ⟨_, rfl⟩
  obtain ⟨w4, hw4⟩ : ∃ W, W = w3.alloc (.cells #[.bool false] 4) := ⟨_, rfl⟩
  obtain ⟨w5, hw5⟩ : ∃ W, W = w4.alloc (.cells #[pnextFn (w.heap.size + 1)] 40) := ⟨_, rfl⟩
  obtain ⟨w6, hw6⟩ : ∃ W, W = w5.alloc (.cells #[pleadsFn w.heap.size (w.heap.size + 1 + 1 + 1 + 1 + 1) (w.heap.size + 1 + 1 + 1 + 1)] 95) := ⟨_, rfl⟩
  have z1 : w1.heap.size = w.heap.size + 1 := by rw [hw1]; exact Array.size_push _
  have z2 : w2.heap.size = w.heap.size + 1 + 1 := by rw [hw2, ← z1]; exact Array.size_push _
  have z3 : w3.heap.size = w.heap.size + 1 + 1 + 1 := by rw [hw3, ← z2]; exact Array.size_push _
  have z4 : w4.heap.size = w.heap.size + 1 + 1 + 1 + 1 := by rw [hw4, ← z3]; exact Array.size_push _
  have z5 : w5.heap.size = w.heap.size + 1 + 1 + 1 + 1 + 1 := by rw [hw5, ← z4]; exact Array.size_push _
  have z6 : w6.heap.size = w.heap.size + 1 + 1 + 1 + 1 + 1 + 1 := by rw [hw6, ← z5]; exact Array.size_push _
  have b1 : Below w.heap.size w w1 := by rw [hw1]; exact al (Below.refl _ _) _
  have b2 : Below w1.heap.size w1 w2 := by rw [hw2]; exact al (Below.refl _ _) _
  have b3 : Below w2.heap.size w2 w3 := by rw [hw3]; exact al (Below.refl _ _) _
  have b4 : Below w3.heap.size w3 w4 := by rw [hw4]; exact al (Below.refl _ _) _
  have b5 : Below w4.heap.size w4 w5 := by rw [hw5]; exact al (Below.refl _ _) _
  have b6 : Below w5.heap.size w5 w6 := by rw [hw6]; exact al (Below.refl _ _) _
  have b46 : Below w4.heap.size w4 w6 := b5.trans (b6.mono (by omega))
  have b36 : Below w3.heap.size w3 w6 := b4.trans (b46.mono (by omega))
  have b26 : Below w2.heap.size w2 w6 := b3.trans (b36.mono (by omega))
  have b16 : Below w1.heap.size w1 w6 := b2.trans (b26.mono (by omega))
  have b06 : Below w.heap.size w w6 := b1.trans (b16.mono (by omega))
  have f1 : w6.rangeAt w.heap.size 0 (cellsOf a) := (Keeps.of_below (X := fun _ => False) b16).range (by rw [hw1]; exact range_new w _ _ _ rfl) (fun h => h)
  have f2 : w6.heap[w.heap.size + 1]? = some (.cells #[v] 22 (0, 0)) := (Keeps.of_below (X := fun _ => False) b26).heap (by rw [hw2, ← z1]; exact Array.getElem?_push_size) (fun h => h)
  have f3 : w6.rangeAt (w.heap.size + 1 + 1) 0 (cellsOf b) := (Keeps.of_below (X := fun _ => False) b36).range (by rw [hw3, ← z2]; exact range_new w2 _ _ _ rfl) (fun h => h)
  have f4 : w6.heap[w.heap.size + 1 + 1 + 1]? = some (.cells #[.bool false] 4 (0, 0)) := (Keeps.of_below (X := fun _ => False) b46).heap (by rw [hw4, ← z3]; exact Array.getElem?_push_size) (fun h => h)
  have f5 : w6.cell? ⟨w.heap.size + 1 + 1 + 1 + 1, 0, none⟩ = some (pnextFn (w.heap.size + 1)) := (Keeps.of_below (X := fun _ => False) b6).cell (a := ⟨w.heap.size + 1 + 1 + 1 + 1, 0, none⟩) (by rw [hw5, ← z4]; exact range_new w4 _ _ [_] rfl 0 _ rfl) (fun h => h)
  have f6 : w6.cell? ⟨w.heap.size + 1 + 1 + 1 + 1 + 1, 0, none⟩ = some (pleadsFn w.heap.size (w.heap.size + 1 + 1 + 1 + 1 + 1) (w.heap.size + 1 + 1 + 1 + 1)) := by rw [hw6, ← z5]; exact range_new w5 _ _ [_] rfl 0 _ rfl
  have hI : PLeadsIn w6 w.heap.size (w.heap.size + 1 + 1 + 1 + 1) (w.heap.size + 1 + 1 + 1 + 1 + 1) (w.heap.size + 1) a := ⟨f1, f5, f6, by omega, by omega, by omega⟩
  have hv6 : SumsAt w6 v p := (Keeps.of_below (X := fun _ => False) b06).sums hv (fun _ _ h => h)
  have hlf : LeftAt w.heap.size w6 (w.heap.size + 1) p := ⟨v, f2, hv6, fun hp k hk => by
    obtain ⟨bb, o, cap, rfl, _, _, hr⟩ := sums_form hv hp
    have e : bb = k := by simpa [Value.ownBlock] using hk
    have : bb < w.heap.size := range_lt hr (by
      intro h
      have h3 := congrArg List.length h
      rw [length_cellsAll] at h3
      have : p.length = 0 := by simp only [List.length_nil] at h3; omega
      exact hp (List.length_eq_zero_iff.1 this))
    omega⟩
  have hld := fun W (hb : Below w6.heap.size w6 W) => pleads_any w.heap.size w.heap.size (w.heap.size + 1 + 1 + 1 + 1) (w.heap.size + 1 + 1 + 1 + 1 + 1) (w.heap.size + 1) a n n m p W (Nat.le_refl _) (by omega) h hn (Nat.le_trans (by omega) hb.size) (hI.keep (.of_below hb)) (hlf.below hb)
  have hbe : pathBe a m n p b = (match leads nd a m n p with
      | some (s, []) => decide (s = b)
      | _ => false) := by
    unfold pathBe
    rw [decide_eq_true h]; rfl
  rw [hbe]
  generalize leads nd a m n p = r at *
  have HX := Lib.hid (And.intro hld (And.intro b06 (And.intro z6 (And.intro f3 (And.intro f4 hI)))))
  have HE : Hid (w6 = ((((((w.alloc (.cells (cellsOf a).toArray 24)).alloc (.cells #[v] 22)).alloc (.cells (cellsOf b).toArray 24)).alloc (.cells #[.bool false] 4)).alloc (.cells #[pnextFn (w.heap.size + 1)] 40)).alloc (.cells #[pleadsFn w.heap.size (w.heap.size + 1 + 1 + 1 + 1 + 1) (w.heap.size + 1 + 1 + 1 + 1)] 95))) := Lib.hid (by rw [hw6, hw5, hw4, hw3, hw2, hw1])
  clear hld b1 b2 b3 b4 b5 b6 b46 b36 b26 b16 b06 f1 f2 f3 f4 f5 f6 hI hv6 hlf hbe z1 z2 z3 z4 z5 z6 hw6 hw5 hw4 hw3 hw2 hw1
  obtain ⟨ad, cap, rfl, _, _, _⟩ := hv
  have hmf : ∀ (fn : Fn) (first cap : Array Value) (w : World), (Instr.makeFunc fn first cap).run Try.prog w = .ok (.func fn first cap) w := fun _ _ _ _ => rfl
  have k1 : decide (n ≤ m) = false := decide_eq_false (by omega)
  have k2 : ¬ (n : Int) ≤ (m : Int) := by omega
  have hst1 := fun W => run_store Try.prog W ⟨w.heap.size + 1 + 1 + 1 + 1, 0, none⟩ (pnextFn (w.heap.size + 1)) .plain rfl
  have hst2 := fun W => run_store Try.prog W ⟨w.heap.size + 1 + 1 + 1 + 1 + 1, 0, none⟩ (pleadsFn w.heap.size (w.heap.size + 1 + 1 + 1 + 1 + 1) (w.heap.size + 1 + 1 + 1 + 1)) .plain rfl
  clear h
  go_enter_defers Try.func26, Try.ntmps26
  go_wp2_with fail
  clear hst1 hst2
  rw [← HE.out]
  have hres : ∀ t1 t2 : Array Value, t1.getD 10 undef = t2.getD 10 undef → results Try.f26 t1 = results Try.f26 t2 := fun t1 t2 h => by
    have e1 : t1[10]?.getD undef = t2[10]?.getD undef := by simpa using h
    simp [results, Try.results26, e1]
  refine wp_region_sched2 (fun V => V.cell? ⟨w.heap.size + 1 + 1 + 1 + 1 + 1, 0, none⟩ = some (pleadsFn w.heap.size (w.heap.size + 1 + 1 + 1 + 1 + 1) (w.heap.size + 1 + 1 + 1 + 1)) ∧ V.rangeAt (w.heap.size + 1 + 1) 0 (cellsOf b)) [.t 1, .t 2, .s 0, .s 4, .e 3 true, .t 5, .t 6, .e 7 false, .t 8, .t 9, .t 10, .e 11 false] (by kernel_rfl) (by kernel_rfl) 10 (by kernel_rfl) ?_ ?_
  · intro c a1 a2 w' hd ht hh
    have hh : Leaves _ _ a1.tmps _ a1.defers (.panicking c) w' := hh
    change Leaves _ _ a2.tmps _ a2.defers (.panicking c) w'
    rw [← hd]
    exact leaves_same (hres _ _ ht) _ _ _ hh
  obtain ⟨c, hcd⟩ : ∃ c, c = w.heap.size + 1 := ⟨_, rfl⟩
  obtain ⟨d, hdd⟩ : ∃ d, d = w.heap.size + 1 + 1 + 1 := ⟨_, rfl⟩
  obtain ⟨L, hLd⟩ : ∃ d, d = w.heap.size + 1 + 1 + 1 + 1 + 1 := ⟨_, rfl⟩
  obtain ⟨N, hNd⟩ : ∃ d, d = w.heap.size + 1 + 1 + 1 + 1 := ⟨_, rfl⟩
  obtain ⟨R, hRd⟩ : ∃ d, d = w.heap.size + 1 + 1 := ⟨_, rfl⟩
  rw [← hLd, ← hNd, ← hdd, ← hRd, ← hcd] at HX
  rw [← hLd, ← hNd, ← hdd, ← hRd, ← hcd]
  have HD := Lib.hid (And.intro (show w.heap.size ≤ c by omega) (And.intro (show w.heap.size ≤ d by omega) (And.intro (show d ≠ c by omega) (And.intro (show R ≠ c by omega) (show L ≠ c by omega)))))
  have hbd := (Below.refl w6.heap.size w6).drew
  have hkd := Keeps.of_below (X := fun _ => False) hbd
  have HS := Lib.hid (show w6.drew.cell? ⟨L, 0, none⟩ = some (pleadsFn w.heap.size L N) ∧ w6.drew.rangeAt R 0 (cellsOf b) from ⟨hkd.cell HX.out.2.2.2.2.2.self (fun h => h), hkd.range HX.out.2.2.2.1 (fun h => h)⟩)
  have HF4 := Lib.hid (hkd.heap HX.out.2.2.2.2.1 (fun h => h))
  have HLD := Lib.hid (HX.out.1 w6.drew hbd)
  have HB := Lib.hid (HX.out.2.1.trans (hbd.mono HX.out.2.1.size))
  clear hbd hkd HX HE hres hcd hdd hLd hNd hRd
  generalize w6.drew = V at *
  iterate 2
    refine wpS_t rfl (v := ?_) (by rfl) (fun W => ?_) ?_
    rotate_left
    · go_simp
      try rfl
    try simp only [Act.put, List.setIfInBounds_toArray, List.set_cons_zero, List.set_cons_succ]
  refine wpS_s (by exact HS.out) rfl (by rfl) (v := pleadsFn w.heap.size L N) (fun W hW => exec_load_pleads _ (by rfl) L _ (by rfl) W hW.1) ?_
  try simp only [Act.put, List.setIfInBounds_toArray, List.set_cons_zero, List.set_cons_succ]
  refine wpS_load_sum (by exact HS.out) rfl (by rfl) _ (by rfl) R 0 (by rfl) b (fun V hV => hV.2) ?_
  try simp only [Act.put, List.setIfInBounds_toArray, List.set_cons_zero, List.set_cons_succ]
  refine wpS_k rfl (by rfl) (fun K hK => ?_)
  go_simp
  refine HLD.out.mono ?_
  intro e w7 hl
  obtain ⟨hk, ht⟩ := hl
  have HF7 := Lib.hid (hk.heap HF4.out HD.out.2.2.1)
  have hk7 := ((Keeps.of_below (X := (· = c)) HB.out).trans hk).mono (Y := fun k => w.heap.size ≤ k) (fun k hk => hk ▸ HD.out.1)
  have hc0 : w7.cell? ⟨d, 0, none⟩ = some (.bool false) := by rw [cell_of_row w7 _ _ _ _ (0, 0) HF7.out]; rfl
  have hfz : w7.frozen? ⟨d, 0, none⟩ = false := frozen_of_row w7 d _ _ _ HF7.out
  have HEND : ∀ x : Bool, Hid (Below w.heap.size w (w7.setCell ⟨d, 0, none⟩ (.bool x)) ∧ (w7.setCell ⟨d, 0, none⟩ (.bool x)).cell? ⟨d, 0, none⟩ = some (.bool x)) := fun x => Lib.hid ⟨(hk7.setCell (p := ⟨d, 0, none⟩) (.inl HD.out.2.1) _).below (Nat.le_refl _) (fun k hk => hk), by
    have e1 := heap_setCell_same w7 d 0 _ _ (.bool x) HF7.out
    rw [cell_of_row _ _ _ _ _ (0, 0) e1]; rfl⟩
  rcases r with _ | ⟨s, q⟩
  · cases ht
    change bodyPostD _ _ _ (.panic few) _ w7
    refine leaves_cons (f := 64) (args := #[.pointer (some ⟨d, 0, none⟩)]) (by simp) (by simp [go_sem]) ?_
    refine (caught_ ⟨d, 0, none⟩ false _ _ [] w7 hc0 hfz).mono ?_
    rintro e u' w'' ⟨rfl, rfl, rfl⟩
    have h2 := (HEND false).out.2
    have h1 := (HEND false).out.1
    generalize w7.setCell ⟨d, 0, none⟩ (.bool false) = W9 at *
    simp [Leaves, settle, results, Try.results26, go_sem, h2]
    exact h1
  · obtain ⟨rfl, hq⟩ := ht
    have HS7 := Lib.hid (And.intro (hk.cell HS.out.1 HD.out.2.2.2.2) (hk.range HS.out.2 HD.out.2.2.2.1))
    obtain ⟨vq, g1, g2, _⟩ := hq
    obtain ⟨aq, cq, rfl, _, _, _⟩ := g2
    have hcc : w7.cell? ⟨c, 0, none⟩ = some (.slice aq q.length cq) := by rw [cell_of_row w7 _ _ _ _ (0, 0) g1]; rfl
    have HCC := Lib.hid (And.intro hcc (And.intro hc0 hfz))
    clear hk hk7 g1 hcc hc0 hfz
    refine hK _ _ ⟨by exact HS7.out, ?_⟩; clear hK K
    try simp only [Act.put, List.setIfInBounds_toArray, List.set_cons_zero, List.set_cons_succ]
    by_cases hsb : s = b
    · subst hsb
      have heq := eq_sums_same s
      iterate 2
        refine wpS_t rfl (v := ?_) (by rfl) (fun W => ?_) ?_
        rotate_left
        · go_simp
          try rfl
        try simp only [Act.put, List.setIfInBounds_toArray, List.set_cons_zero, List.set_cons_succ]
      have hcc := HCC.out.1
      refine wpS_e rfl (by rfl) (fun K hK => ?_)
      go_simp
      refine hK _ _ ?_; clear hK K
      try simp only [Act.put, List.setIfInBounds_toArray, List.set_cons_zero, List.set_cons_succ]
      clear hcc
      rcases q with _ | ⟨t, q⟩
      · skip
        iterate 3
          refine wpS_t rfl (v := ?_) (by rfl) (fun W => ?_) ?_
          rotate_left
          · go_simp
            try rfl
          try simp only [Act.put, List.setIfInBounds_toArray, List.set_cons_zero, List.set_cons_succ]
        have hc0 := HCC.out.2.1
        have hfz := HCC.out.2.2
        refine wpS_e rfl (by rfl) (fun K hK => ?_)
        go_simp
        refine hK _ _ ?_; clear hK K
        try simp only [Act.put, List.setIfInBounds_toArray, List.set_cons_zero, List.set_cons_succ]
        clear hc0 hfz
        refine wpS_done ?_
        have h2 := (HEND true).out.2
        have h1 := (HEND true).out.1
        generalize w7.setCell ⟨d, 0, none⟩ (.bool true) = W9 at *
        go_wp2_with fail
        refine leaves_cons (f := 64) (args := #[.pointer (some ⟨d, 0, none⟩)]) (by simp) (by simp [go_sem]) ?_
        refine (idle_ ⟨d, 0, none⟩ W9).mono ?_
        rintro e u' w'' ⟨rfl, rfl, rfl⟩
        simp [Leaves, settle, results, Try.results26, go_sem, h2]
        exact h1
      · obtain ⟨k, hk⟩ : ∃ k, k = (t :: q).length := ⟨_, rfl⟩
        have hne : ((k : Int) == 0) = false := by rw [beq_eq_false_iff_ne]; simp only [List.length_cons] at hk; omega
        rw [← hk]
        clear hk
        iterate 3
          refine wpS_t rfl (v := ?_) (by rfl) (fun W => ?_) ?_
          rotate_left
          · go_simp
            try rfl
          try simp only [Act.put, List.setIfInBounds_toArray, List.set_cons_zero, List.set_cons_succ]
        have hc0 := HCC.out.2.1
        have hfz := HCC.out.2.2
        refine wpS_e rfl (by rfl) (fun K hK => ?_)
        go_simp
        refine hK _ _ ?_; clear hK K
        try simp only [Act.put, List.setIfInBounds_toArray, List.set_cons_zero, List.set_cons_succ]
        clear hc0 hfz
        refine wpS_done ?_
        have h2 := (HEND false).out.2
        have h1 := (HEND false).out.1
        generalize w7.setCell ⟨d, 0, none⟩ (.bool false) = W9 at *
        go_wp2_with fail
        refine leaves_cons (f := 64) (args := #[.pointer (some ⟨d, 0, none⟩)]) (by simp) (by simp [go_sem]) ?_
        refine (idle_ ⟨d, 0, none⟩ W9).mono ?_
        rintro e u' w'' ⟨rfl, rfl, rfl⟩
        simp [Leaves, settle, results, Try.results26, go_sem, h2]
        exact h1
    · rcases q with _ | ⟨t, q⟩
      · skip
        have hes : ∀ w : World, (Op.equalIn 10000 24 (.agg (cellsOf s).toArray) (.agg (cellsOf b).toArray)).run Try.prog w = .ok false w := fun w => by rw [eq_sums]; simp [hsb]
        iterate 2
          refine wpS_t rfl (v := ?_) (by rfl) (fun W => ?_) ?_
          rotate_left
          · go_simp
            try rfl
          try simp only [Act.put, List.setIfInBounds_toArray, List.set_cons_zero, List.set_cons_succ]
        refine wpS_e_skip rfl (by rfl) ?_
        try simp only [Act.put, List.setIfInBounds_toArray, List.set_cons_zero, List.set_cons_succ]
        iterate 2
          refine wpS_t_skip rfl (by rfl) ?_
          try simp only [Act.put, List.setIfInBounds_toArray, List.set_cons_zero, List.set_cons_succ]
        iterate 1
          refine wpS_t rfl (v := ?_) (by rfl) (fun W => ?_) ?_
          rotate_left
          · go_simp
            try rfl
          try simp only [Act.put, List.setIfInBounds_toArray, List.set_cons_zero, List.set_cons_succ]
        have hc0 := HCC.out.2.1
        have hfz := HCC.out.2.2
        refine wpS_e rfl (by rfl) (fun K hK => ?_)
        go_simp
        refine hK _ _ ?_; clear hK K
        try simp only [Act.put, List.setIfInBounds_toArray, List.set_cons_zero, List.set_cons_succ]
        clear hc0 hfz
        refine wpS_done ?_
        have h2 := (HEND false).out.2
        have h1 := (HEND false).out.1
        generalize w7.setCell ⟨d, 0, none⟩ (.bool false) = W9 at *
        go_wp2_with fail
        refine leaves_cons (f := 64) (args := #[.pointer (some ⟨d, 0, none⟩)]) (by simp) (by simp [go_sem]) ?_
        refine (idle_ ⟨d, 0, none⟩ W9).mono ?_
        rintro e u' w'' ⟨rfl, rfl, rfl⟩
        simp [Leaves, settle, results, Try.results26, go_sem, h2]
        first | exact h1 | exact ⟨hsb, h1⟩
      · skip
        have hes : ∀ w : World, (Op.equalIn 10000 24 (.agg (cellsOf s).toArray) (.agg (cellsOf b).toArray)).run Try.prog w = .ok false w := fun w => by rw [eq_sums]; simp [hsb]
        iterate 2
          refine wpS_t rfl (v := ?_) (by rfl) (fun W => ?_) ?_
          rotate_left
          · go_simp
            try rfl
          try simp only [Act.put, List.setIfInBounds_toArray, List.set_cons_zero, List.set_cons_succ]
        refine wpS_e_skip rfl (by rfl) ?_
        try simp only [Act.put, List.setIfInBounds_toArray, List.set_cons_zero, List.set_cons_succ]
        iterate 2
          refine wpS_t_skip rfl (by rfl) ?_
          try simp only [Act.put, List.setIfInBounds_toArray, List.set_cons_zero, List.set_cons_succ]
        iterate 1
          refine wpS_t rfl (v := ?_) (by rfl) (fun W => ?_) ?_
          rotate_left
          · go_simp
            try rfl
          try simp only [Act.put, List.setIfInBounds_toArray, List.set_cons_zero, List.set_cons_succ]
        have hc0 := HCC.out.2.1
        have hfz := HCC.out.2.2
        refine wpS_e rfl (by rfl) (fun K hK => ?_)
        go_simp
        refine hK _ _ ?_; clear hK K
        try simp only [Act.put, List.setIfInBounds_toArray, List.set_cons_zero, List.set_cons_succ]
        clear hc0 hfz
        refine wpS_done ?_
        have h2 := (HEND false).out.2
        have h1 := (HEND false).out.1
        generalize w7.setCell ⟨d, 0, none⟩ (.bool false) = W9 at *
        go_wp2_with fail
        refine leaves_cons (f := 64) (args := #[.pointer (some ⟨d, 0, none⟩)]) (by simp) (by simp [go_sem]) ?_
        refine (idle_ ⟨d, 0, none⟩ W9).mono ?_
        rintro e u' w'' ⟨rfl, rfl, rfl⟩
        simp [Leaves, settle, results, Try.results26, go_sem, h2]
        first | exact h1 | exact ⟨hsb, h1⟩
end Go.Proofs.Ytdkcndgehgmadaa
