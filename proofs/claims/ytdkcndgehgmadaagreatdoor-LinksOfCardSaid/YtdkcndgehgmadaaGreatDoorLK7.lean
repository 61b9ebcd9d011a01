/-
  Walks: almonerref11.leads at any size; Check.
-/
import Derived.Test.YtdkcndgehgmadaaGreatDoorLK6
open Go Go.RowKit Alm
namespace Go.Proofs.YtdkcndgehgmadaaGreatDoor
theorem ll_any (B : Nat) (a : Sum) : ∀ (d n m : Nat) (ed : Bool) (p : List Sum) (v : Value) (w : World), n ≤ d → 1 ≤ m → m ≤ n → n < 18446744073709551616 → B ≤ w.heap.size → SumsAt w v p → (p ≠ [] → ∀ k, v.ownBlock = some k → k < B) →
    Calls Tryz.prog 110 #[.int .u64 (m : Int), .int .u64 (n : Int), sv a, v, .bool ed] w (LLOf B w (leads2 nd a m n ed p)) := by
  intro d
  induction d with
  | zero => intro n m ed p v w h0 h1 h2; omega
  | succ d ih =>
    intro n m ed p v w h0 h1 h2 h3 hB hv hk
    by_cases hmn : m = n
    · subst hmn
      rw [leads2, dif_pos (Nat.le_refl m)]
      cases ed
      · rw [if_neg (by simp)]
        cases p with
        | nil => exact ll_few B a m v w hv
        | cons s r => exact ll_told B a s r m v w hv hk
      · rw [if_pos rfl]
        exact ll_edge B a m p v w hv hk
    · have hn2 : 2 ≤ n := by omega
      have c1 := cut_lt hn2
      have c2 := cut_pos n
      rw [leads_step a m n ed p (by omega) (by omega)]
      by_cases hc : m ≤ cut n
      · rw [if_pos hc]
        exact ll_left B a m n ed v p _ w hv hB (by omega) hn2 h3 hc fun W hb => ih (cut n) m ed p v W (by omega) h1 hc (by omega) (Nat.le_trans hB hb.size) (hv.below hb (Nat.le_refl _)) hk
      · rw [if_neg hc]
        exact ll_right B a m n ed v p _ w hv hB (by omega) hn2 h3 hc fun W hb => ih (n - cut n) (m - cut n) false p v W (by omega) (by omega) (by omega) (by omega) (Nat.le_trans hB hb.size) (hv.below hb (Nat.le_refl _)) hk
theorem own_sums {w : World} {v : Value} {p : List Sum} (hv : SumsAt w v p) : p ≠ [] → ∀ k, v.ownBlock = some k → k < w.heap.size := by
  intro h0 k hk
  obtain ⟨b, o, cap, rfl, _, _, hr⟩ := sums_form8 hv h0
  obtain rfl : b = k := by simpa [Value.ownBlock] using hk
  exact range_lt hr (by
    intro h
    have h3 := congrArg List.length h
    rw [length_cellsAll] at h3
    have : p.length = 0 := by simp only [List.length_nil] at h3; omega
    exact h0 (List.length_eq_zero_iff.1 this))
theorem beq_dec_ (x a : Sum) : (x == a) = decide (x = a) := by
  by_cases h : x = a
  · rw [decide_eq_true h, h]; simp
  · rw [decide_eq_false h, beq_eq_false_iff_ne]; exact h
theorem lbe_facts {m n : Nat} (h1 : 1 ≤ m) (h2 : m ≤ n) : ¬ (m : Int) < 1 ∧ decide ((m : Int) < 1) = false ∧ ¬ (n : Int) < (m : Int) ∧ decide (n < m) = false ∧ ¬ n < m ∧ decide ((n : Int) < (m : Int)) = false := by
  refine ⟨by omega, decide_eq_false (by omega), by omega, decide_eq_false (by omega), by omega, decide_eq_false (by omega)⟩
set_option maxRecDepth 100000 in
set_option maxHeartbeats 1000000 in
theorem rlcheck_any (m n : Nat) (a b : Sum) (v : Value) (p : List Sum) (w : World) (hv : SumsAt w v p) (hn : n < 18446744073709551616) : Calls Tryz.prog 27 #[.int .u64 (m : Int), .int .u64 (n : Int), sv a, sv b, v] w fun e w' => e = .returned (.bool (letBe m n a b p)) ∧ Below w.heap.size w w' := by
  have HV := Lib.hid hv
  have b0 : Below w.heap.size w (w.alloc (.cells (cellsOf a).toArray 24)) := Alm.al (Below.refl _ _) _
  have b1 : Below (w.alloc (.cells (cellsOf a).toArray 24)).heap.size (w.alloc (.cells (cellsOf a).toArray 24)) ((w.alloc (.cells (cellsOf a).toArray 24)).alloc (.cells (cellsOf b).toArray 24)) := Alm.al (Below.refl _ _) _
  have ra := (Keeps.of_below (X := fun _ => False) b1).range (range_new w (cellsOf a).toArray 24 _ rfl) (fun h => h)
  have rb := range_new (w.alloc (.cells (cellsOf a).toArray 24)) (cellsOf b).toArray 24 _ rfl
  rw [World.size_alloc] at rb
  have HB := Lib.hid (And.intro (b0.trans (b1.mono b0.size)) (And.intro ra rb))
  clear b0 b1 ra rb
  by_cases hmn : 1 ≤ m ∧ m ≤ n
  · have hld := fun W (hb : Below w.heap.size w W) => ll_any w.heap.size a n n m true p v W (Nat.le_refl _) hmn.1 hmn.2 hn hb.size (hv.below hb (Nat.le_refl _)) (own_sums hv)
    have hbe : letBe m n a b p = (match leads2 nd a m n true p with
        | some ((x, y), []) => x == a && y == b
        | _ => false) := by
      unfold letBe
      rw [decide_eq_true hmn.1, decide_eq_true hmn.2]; rfl
    obtain ⟨e1, e2, e3, e4, e5, e6⟩ := lbe_facts hmn.1 hmn.2
    rw [hbe]
    generalize leads2 nd a m n true p = r at *
    have HLD := Lib.hid hld
    clear hld hbe hn hmn
    obtain ⟨ad, cap, rfl, _, _, _⟩ := hv
    go_enter Tryz.func27, Tryz.ntmps27
    go_wp2_with (first
      | (refine wpList_load_sum rfl _ rfl w.heap.size 0 rfl a HB.out.2.1 ?_)
      | (go_at_call 110; refine Hid.out ?_))
    refine Lib.hid ?_
    refine (HLD.out _ HB.out.1).mono ?_
    rintro e w5 ⟨hb5, hr5⟩
    have H5 := Lib.hid (And.intro (HB.out.1.trans (hb5.mono HB.out.1.size)) (And.intro (brq hb5 HB.out.2.1) (brq hb5 HB.out.2.2)))
    clear hb5 HB HLD
    rcases r with _ | ⟨⟨x, y⟩, q⟩
    · obtain ⟨x, y, rfl⟩ := hr5
      go_wp2_with (refine wpList_var_bothR (by rfl) rfl _ _ rfl x y rfl rfl ?_; intro W6 hb6 hr6 hlt6; refine Hid.out ?_)
      refine Lib.hid ?_
      have H6 := Lib.hid (H5.out.1.trans (hb6.mono H5.out.1.size))
      clear hb6 hr6 hlt6
      go_wp2_with fail
      exact bodyPost_ret (results_tmp rfl _ _ _) rfl ⟨rfl, H6.out⟩
    · obtain ⟨v5, rfl, hs5, -⟩ := hr5
      rcases q with _ | ⟨s, q⟩
      · obtain ⟨a5, c5, rfl, _, _, _⟩ := hs5
        go_wp2_with (refine wpList_var_bothR (by rfl) rfl _ _ rfl x y rfl rfl ?_; intro W6 hb6 hr6 hlt6; refine Hid.out ?_)
        refine Lib.hid ?_
        have hry : W6.rangeAt w5.heap.size 32 (cellsOf y) := by have := range_right_ hr6; rw [length_cellsOf, Nat.zero_add] at this; exact this
        have H6 := Lib.hid (And.intro (H5.out.1.trans (hb6.mono H5.out.1.size)) (And.intro (brq hb6 H5.out.2.1) (And.intro (brq hb6 H5.out.2.2) (And.intro (range_left_ hr6) hry))))
        obtain ⟨g, hg⟩ : ∃ g, g = w5.heap.size := ⟨_, rfl⟩
        rw [← hg] at H6 ⊢
        clear hb6 hr6 hlt6 hry hg H5
        have he1 : ∀ w : World, (Op.equalIn 10000 24 (.agg (cellsOf x).toArray) (.agg (cellsOf a).toArray)).run Tryz.prog w = .ok (x == a) w := fun w => by rw [eq_sums, beq_dec_]
        have he2 : ∀ w : World, (Op.equalIn 10000 24 (.agg (cellsOf y).toArray) (.agg (cellsOf b).toArray)).run Tryz.prog w = .ok (y == b) w := fun w => by rw [eq_sums, beq_dec_]
        obtain ⟨r1, hr1⟩ : ∃ r, r = (x == a) := ⟨_, rfl⟩
        rw [← hr1] at he1
        obtain ⟨r2, hr2⟩ : ∃ r, r = (y == b) := ⟨_, rfl⟩
        rw [← hr2] at he2
        have HRR := Lib.hid (And.intro hr1 hr2)
        clear hr1 hr2
        cases r1
        · go_wp2_with (first
            | (refine wpList_load_sum_g (by rfl) _ rfl g 0 rfl x H6.out.2.2.2.1 ?_)
            | (refine wpList_load_sum_g (by rfl) _ rfl w.heap.size 0 rfl a H6.out.2.1 ?_))
          exact bodyPost_ret (results_tmp rfl _ _ _) rfl ⟨by simp only [← HRR.out.1, Bool.false_and]; rfl, H6.out.1⟩
        · go_wp2_with (first
            | (refine wpList_load_sum_g (by rfl) _ rfl g 0 rfl x H6.out.2.2.2.1 ?_)
            | (refine wpList_load_sum_g (by rfl) _ rfl w.heap.size 0 rfl a H6.out.2.1 ?_)
            | (refine wpList_load_sum_g (by rfl) _ rfl g 32 rfl y H6.out.2.2.2.2 ?_)
            | (refine wpList_load_sum_g (by rfl) _ rfl (w.heap.size + 1) 0 rfl b H6.out.2.2.1 ?_))
          refine bodyPost_ret (results_tmp rfl _ _ _) rfl ⟨?_, H6.out.1⟩
          simp only [← HRR.out.1, ← HRR.out.2, Bool.true_and]
          rfl
      · obtain ⟨b9, o, cq, z, n9, o1, rfl, ⟨hz1, hz2, hz3, hz4⟩, -, -, -⟩ := tail_form hs5
        go_wp2_with (refine wpList_var_bothR (by rfl) rfl _ _ rfl x y rfl rfl ?_; intro W6 hb6 hr6 hlt6; refine Hid.out ?_)
        refine Lib.hid ?_
        have H6 := Lib.hid (H5.out.1.trans (hb6.mono H5.out.1.size))
        clear hb6 hr6 hlt6 hs5
        go_wp2_with fail
        exact bodyPost_ret (results_tmp rfl _ _ _) rfl ⟨rfl, H6.out⟩
  · have hp : letBe m n a b p = false := by
      unfold letBe
      by_cases h1 : 1 ≤ m
      · rw [decide_eq_true h1, decide_eq_false (fun h2 => hmn ⟨h1, h2⟩)]; rfl
      · rw [decide_eq_false h1]; rfl
    rw [hp]
    obtain ⟨ad, cap, rfl, _, _, _⟩ := hv
    clear hp hn
    by_cases h1 : m < 1
    · have k1 : decide ((m : Int) < 1) = true := decide_eq_true (by omega)
      have k2 : (m : Int) < 1 := by omega
      clear hmn
      go_enter Tryz.func27, Tryz.ntmps27
      go_wp2_with fail
      exact bodyPost_ret (results_tmp rfl _ _ _) rfl ⟨rfl, HB.out.1⟩
    · have k1 : decide ((m : Int) < 1) = false := decide_eq_false (by omega)
      have k2 : ¬ (m : Int) < 1 := by omega
      have k3 : decide (n < m) = true := decide_eq_true (by omega)
      have k4 : n < m := by omega
      have k5 : (n : Int) < (m : Int) := by omega
      clear hmn
      go_enter Tryz.func27, Tryz.ntmps27
      go_wp2_with fail
      exact bodyPost_ret (results_tmp rfl _ _ _) rfl ⟨rfl, HB.out.1⟩
end Go.Proofs.YtdkcndgehgmadaaGreatDoor
