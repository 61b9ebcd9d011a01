/-
  Joined: H7, H8, H9, H10, H11.
-/
import Derived.Test.YtdkcndgehgmadaaGreatDoorZHB
import Derived.Test.YtdkcndgehgmadaaGreatDoorZPA
import Derived.Test.YtdkcndgehgmadaaGreatDoorZGA
import Derived.Test.YtdkcndgehgmadaaGreatDoorH4
import Derived.Test.YtdkcndgehgmadaaGreatDoorZAA
import Derived.Test.YtdkcndgehgmadaaGreatDoorZTA
-- Walks: what a path leads to, by the document: leads, Check.
open Go Go.RowKit Alm
namespace Go.Proofs.YtdkcndgehgmadaaGreatDoor
theorem lead_frame (a : Sum) (m n : Nat) : ∀ (p : List Sum) (s : Sum) (t : List Sum), leads nd a m n p = some (s, t) → ∀ r, leads nd a m n (p ++ r) = some (s, t ++ r) := by
  induction m, n using plen.induct with
  | case1 m n hn =>
    intro p s t h r
    rw [leads, dif_pos hn] at h ⊢
    obtain ⟨rfl, rfl⟩ := Prod.mk.inj (Option.some.inj h)
    rfl
  | case2 m n hn hk ih =>
    intro p s t h r
    rw [pleads_step a m n _ hn, if_pos hk] at h ⊢
    rcases hr : leads nd a m (cut n) p with _ | ⟨z, _ | ⟨x, q⟩⟩
    · rw [hr] at h; cases h
    · rw [hr] at h; cases h
    · rw [hr] at h
      rw [ih p z _ hr r]
      obtain ⟨rfl, rfl⟩ := Prod.mk.inj (Option.some.inj h)
      rfl
  | case3 m n hn hk ih =>
    intro p s t h r
    rw [pleads_step a m n _ hn, if_neg hk] at h ⊢
    rcases hr : leads nd a (m - cut n) (n - cut n) p with _ | ⟨z, _ | ⟨x, q⟩⟩
    · rw [hr] at h; cases h
    · rw [hr] at h; cases h
    · rw [hr] at h
      rw [ih p z _ hr r]
      obtain ⟨rfl, rfl⟩ := Prod.mk.inj (Option.some.inj h)
      rfl
/-- What leads answers. -/
def RL (a : Sum) (m n : Nat) (p : List Sum) (s : Sum) (ok : Bool) : Prop := ok = decide (p.length = plen m n) ∧ (p.length = plen m n → leads nd a m n p = some (s, []))
theorem rl_end (a : Sum) (m : Nat) (p : List Sum) : RL a m 1 p a (decide (p.length = 0)) := by
  have h : plen m 1 = 0 := by rw [plen, dif_pos (Nat.le_refl 1)]
  refine ⟨by rw [h], fun hp => ?_⟩
  rw [h] at hp
  rw [leads, dif_pos (Nat.le_refl 1), List.length_eq_zero_iff.1 hp]
theorem rl_none (a s : Sum) (m n : Nat) (hn : ¬ n ≤ 1) : RL a m n [] s false := by
  have h : plen m n ≠ 0 := by
    rw [plen, dif_neg hn]
    split <;> omega
  have h2 : ¬ ([] : List Sum).length = plen m n := fun h2 => h h2.symm
  exact ⟨by simpa using h2, fun h3 => absurd h3 h2⟩
theorem rl_left {a s x : Sum} {m n : Nat} {p : List Sum} {ok : Bool} (hn : ¬ n ≤ 1) (hk : m < cut n) (h : RL a m (cut n) p s ok) : RL a m n (p ++ [x]) (nd s x) ok := by
  have e : plen m n = plen m (cut n) + 1 := by rw [plen, dif_neg hn, if_pos hk]
  have e2 : ((p ++ [x]).length = plen m n) ↔ p.length = plen m (cut n) := by rw [e, List.length_append, List.length_singleton]; omega
  refine ⟨by rw [h.1]; simp only [e2], fun h2 => ?_⟩
  rw [pleads_step a m n _ hn, if_pos hk, lead_frame _ _ _ _ _ _ (h.2 (e2.1 h2)) [x]]
  rfl
theorem rl_right {a s x : Sum} {m n : Nat} {p : List Sum} {ok : Bool} (hn : ¬ n ≤ 1) (hk : ¬ m < cut n) (h : RL a (m - cut n) (n - cut n) p s ok) : RL a m n (p ++ [x]) (nd x s) ok := by
  have e : plen m n = plen (m - cut n) (n - cut n) + 1 := by rw [plen, dif_neg hn, if_neg hk]
  have e2 : ((p ++ [x]).length = plen m n) ↔ p.length = plen (m - cut n) (n - cut n) := by rw [e, List.length_append, List.length_singleton]; omega
  refine ⟨by rw [h.1]; simp only [e2], fun h2 => ?_⟩
  rw [pleads_step a m n _ hn, if_neg hk, lead_frame _ _ _ _ _ _ (h.2 (e2.1 h2)) [x]]
  rfl
theorem rl_be {a b s : Sum} {m n : Nat} {p : List Sum} {ok : Bool} (hm : m < n) (h : RL a m n p s ok) : pathBe a m n p b = (ok && decide (s = b)) := by
  unfold pathBe
  rw [decide_eq_true hm, h.1, Bool.true_and]
  by_cases he : p.length = plen m n
  · rw [h.2 he, decide_eq_true he, Bool.true_and]
  · rw [decide_eq_false he, Bool.false_and]
    by_cases h2 : p.length < plen m n
    · rw [leads_none nd a m n p h2]
    · obtain ⟨s, hs⟩ := leads_some nd a m n p (by omega)
      rw [hs]
      rcases hd : p.drop (plen m n) with _ | ⟨y, r⟩
      · have := congrArg List.length hd
        rw [List.length_drop, List.length_nil] at this
        omega
      · rfl
theorem long_be {a b : Sum} {m n : Nat} {p : List Sum} (hn : n < 18446744073709551616) (hp : 64 < p.length) : pathBe a m n p b = false := by
  unfold pathBe
  have h := plen_le m n 64 (by omega)
  obtain ⟨s, hs⟩ := leads_some nd a m n p (by omega)
  rw [hs]
  rcases hd : p.drop (plen m n) with _ | ⟨y, r⟩
  · have := congrArg List.length hd
    rw [List.length_drop, List.length_nil] at this
    omega
  · exact Bool.and_false _
end Go.Proofs.YtdkcndgehgmadaaGreatDoor
-- Walks: the document's leads.
open Go Go.RowKit Alm
namespace Go.Proofs.YtdkcndgehgmadaaGreatDoor
/-- What leads has made: its leaf, its answer's place. -/
structure RLIn (w w2 : World) (a : Sum) : Prop where
  leaf : w2.rangeAt w.heap.size 0 (cellsOf a)
  res : w2.there (w.heap.size + 1) 0 32
  below : Below w.heap.size w w2
  size : w2.heap.size = w.heap.size + 2
theorem rlin_start (w : World) (a : Sum) (t : TypeId) : RLIn w ((w.alloc (.cells (cellsOf a).toArray 24)).alloc (.cells (cellsOf zeroSum).toArray t)) a := by
  have b1 : Below (w.alloc (.cells (cellsOf a).toArray 24)).heap.size (w.alloc (.cells (cellsOf a).toArray 24)) ((w.alloc (.cells (cellsOf a).toArray 24)).alloc (.cells (cellsOf zeroSum).toArray t)) := al (Below.refl _ _) _
  have b0 : Below w.heap.size w (w.alloc (.cells (cellsOf a).toArray 24)) := al (Below.refl _ _) _
  refine ⟨(Keeps.of_below (X := fun _ => False) b1).range (range_new w _ _ _ rfl) (fun h => h), ?_, b0.trans (b1.mono b0.size), by rw [World.size_alloc, World.size_alloc]⟩
  have := there_new (w.alloc (.cells (cellsOf a).toArray 24)) (cellsOf zeroSum).toArray t
  rw [World.size_alloc] at this
  exact this
theorem rleads_res {fn : Func} {p u : Tmp} (h : fn.results = #[.cell p 24, .tmp u]) (tmps : Array Value) (w : World) (b : Nat) (s : Sum)
    (hp : tmps.getD p undef = .pointer (some ⟨b, 0, none⟩)) (ht : w.there b 0 32) :
    (results fn tmps).run Tryz.prog (w.setCells b 0 (cellsOf s)) = .ok (.tuple #[sv s, tmps.getD u undef]) (w.setCells b 0 (cellsOf s)) :=
  results_cell_tmp h tmps _ b 0 _ _ hp (range_stored _ _ _ _ (by rw [length_cellsOf]; exact World.there_setCells ht _ _ _)) Tryz.underlying24 rfl (by rw [length_cellsOf]; exact infoSum)
abbrev RLOf (w : World) (a : Sum) (m n : Nat) (p : List Sum) (e : Ending) (w' : World) : Prop := ∃ s ok, e = .returned (.tuple #[sv s, .bool ok]) ∧ Below w.heap.size w w' ∧ RL a m n p s ok
set_option maxRecDepth 100000 in
set_option maxHeartbeats 1000000 in
theorem rleads_end (a : Sum) (m : Nat) (p : List Sum) (v : Value) (w : World) (hv : SumsAt w v p) : Calls Tryz.prog 70 #[sv a, .int .u64 (m : Int), .int .u64 1, v] w (RLOf w a m 1 p) := by
  have HR := Lib.hid (rl_end a m p)
  obtain ⟨ad, cap, rfl, _, _, _⟩ := hv
  obtain ⟨z, hz⟩ : ∃ z, z = p.length := ⟨_, rfl⟩
  rw [← hz] at HR ⊢
  clear hz
  have HI := Lib.hid (rlin_start w a)
  by_cases h0 : z = 0
  · subst h0
    go_enter Tryz.func70, Tryz.ntmps70
    refine wp_cut 1 ?_
    intro T hT
    dsimp only [cutN]
    replace hT := Lib.hid hT
    go_wp2_with fail
    refine hT.out _ _ ?_
    clear hT
    dsimp only [dropN]
    change Code.wp _ _ _ _ ((w.alloc (.cells (cellsOf a).toArray 24)).alloc (.cells (cellsOf zeroSum).toArray 24))
    have H2 := Lib.hid (HI.out 24)
    generalize ((w.alloc (.cells (cellsOf a).toArray 24)).alloc (.cells (cellsOf zeroSum).toArray 24)) = w2 at *
    go_wp2_with (first
      | (refine wpList_load_sum rfl _ rfl w.heap.size 0 rfl a H2.out.leaf ?_)
      | (refine wpList_store_sum rfl _ _ rfl (w.heap.size + 1) 0 a rfl rfl H2.out.res ?_))
    refine bodyPost_ret (rleads_res Tryz.results70 _ _ _ _ rfl H2.out.res) rfl ?_
    exact ⟨a, _, rfl, setCells_below _ (by omega) _ _ _ _ H2.out.below, HR.out⟩
  · have hzi : ((z : Int) == 0) = false := by rw [beq_eq_false_iff_ne]; omega
    go_enter Tryz.func70, Tryz.ntmps70
    refine wp_cut 1 ?_
    intro T hT
    dsimp only [cutN]
    replace hT := Lib.hid hT
    go_wp2_with fail
    refine hT.out _ _ ?_
    clear hT
    dsimp only [dropN]
    change Code.wp _ _ _ _ ((w.alloc (.cells (cellsOf a).toArray 24)).alloc (.cells (cellsOf zeroSum).toArray 24))
    have H2 := Lib.hid (HI.out 24)
    generalize ((w.alloc (.cells (cellsOf a).toArray 24)).alloc (.cells (cellsOf zeroSum).toArray 24)) = w2 at *
    go_wp2_with (first
      | (refine wpList_load_sum rfl _ rfl w.heap.size 0 rfl a H2.out.leaf ?_)
      | (refine wpList_store_sum rfl _ _ rfl (w.heap.size + 1) 0 a rfl rfl H2.out.res ?_))
    refine bodyPost_ret (rleads_res Tryz.results70 _ _ _ _ rfl H2.out.res) rfl ?_
    refine ⟨a, _, rfl, setCells_below _ (by omega) _ _ _ _ H2.out.below, ?_⟩
    have h1 := HR.out
    rw [decide_eq_false h0] at h1
    exact h1
set_option maxRecDepth 100000 in
set_option maxHeartbeats 1000000 in
theorem rleads_few (a : Sum) (m n : Nat) (v : Value) (w : World) (hv : SumsAt w v []) (hn : 2 ≤ n) : Calls Tryz.prog 70 #[sv a, .int .u64 (m : Int), .int .u64 (n : Int), v] w (RLOf w a m n []) := by
  have HR := Lib.hid (rl_none a zeroSum m n (by omega))
  obtain ⟨ad, cap, rfl, _, _, _⟩ := hv
  have HI := Lib.hid (rlin_start w a)
  have k1 : ((n : Int) == 1) = false := by rw [beq_eq_false_iff_ne]; omega
  have k2 : decide (n = 1) = false := decide_eq_false (by omega)
  have k2' : ¬ (n = 1) := by omega
  have hb0 : ∀ w : World, (Instr.build 24 #[]).run Tryz.prog w = .ok (sv zeroSum) w := fun w => by kernel_rfl
  clear hn
  go_enter Tryz.func70, Tryz.ntmps70
  refine wp_cut 1 ?_
  intro T hT
  dsimp only [cutN]
  replace hT := Lib.hid hT
  go_wp2_with fail
  refine hT.out _ _ ?_
  clear hT
  dsimp only [dropN]
  change Code.wp _ _ _ _ ((w.alloc (.cells (cellsOf a).toArray 24)).alloc (.cells (cellsOf zeroSum).toArray 24))
  have H2 := Lib.hid (HI.out 24)
  generalize ((w.alloc (.cells (cellsOf a).toArray 24)).alloc (.cells (cellsOf zeroSum).toArray 24)) = w2 at *
  go_wp2_with (first
    | (refine wpList_store_sum rfl _ _ rfl (w.heap.size + 1) 0 zeroSum rfl rfl H2.out.res ?_))
  refine bodyPost_ret (rleads_res Tryz.results70 _ _ _ _ rfl H2.out.res) rfl ?_
  exact ⟨zeroSum, _, rfl, setCells_below _ (by omega) _ _ _ _ H2.out.below, HR.out⟩
end Go.Proofs.YtdkcndgehgmadaaGreatDoor
-- Walks: the document's leads, a step; whether a path leads where it should.
open Go Go.RowKit Alm
namespace Go.Proofs.YtdkcndgehgmadaaGreatDoor
theorem down_nums {y z cap : Nat} (hz : z = y + 1) (hc : z ≤ cap) (hm : cap ≤ maxLen) : ((z : Int) == 0) = false ∧ wrap64 ((z : Int) - 1) = (y : Int) ∧ IntKind.i64.wrap ((z : Int) - 1) = (y : Int) ∧ (y : Int) < (z : Int) ∧ (y : Int) ≤ (z : Int) ∧ (y : Int) ≤ (cap : Int) ∧ ¬ cap = y ∧ (0 : Int) ≤ (y : Int) ∧ y < z := by
  unfold maxLen at hm
  refine ⟨by rw [beq_eq_false_iff_ne]; omega, by unfold wrap64; omega, by rw [IntKind.wrap_i64]; omega, by omega, by omega, by omega, by omega, by omega, by omega⟩
theorem side_nums {m n k : Nat} (hk : ¬ m < k) (hm : m < n) (hn : n < 18446744073709551616) : decide (m < k) = false ∧ ¬ (m : Int) < (k : Int) ∧ IntKind.u64.wrap ((m : Int) - (k : Int)) = ((m - k : Nat) : Int) ∧ IntKind.u64.wrap ((n : Int) - (k : Int)) = ((n - k : Nat) : Int) := by
  refine ⟨decide_eq_false hk, by omega, by rw [IntKind.wrap_u64]; omega, by rw [IntKind.wrap_u64]; omega⟩
set_option maxRecDepth 100000 in
set_option maxHeartbeats 2000000 in
theorem rleads_step (a x : Sum) (m n : Nat) (p : List Sum) (v : Value) (w : World) (hv : SumsAt w v (p ++ [x])) (hn2 : 2 ≤ n) (hm : m < n) (hn : n < 18446744073709551616)
    (ih : ∀ (m' n' : Nat) (v' : Value) (W : World), 1 ≤ n' → m' < n' → n' < 18446744073709551616 → SumsAt W v' p → Calls Tryz.prog 70 #[sv a, .int .u64 (m' : Int), .int .u64 (n' : Int), v'] W (RLOf W a m' n' p)) :
    Calls Tryz.prog 70 #[sv a, .int .u64 (m : Int), .int .u64 (n : Int), v] w (RLOf w a m n (p ++ [x])) := by
  have h0 : p ++ [x] ≠ [] := by simp
  obtain ⟨b, o, cap, rfl, hc1, hc2, hr⟩ := sums_form8 hv h0
  have hsub := sums_front hv rfl (i := p.length) (by simp)
  rw [List.take_left] at hsub
  have hx := range_at hr (i := p.length) (by simp)
  rw [List.getElem_concat_length rfl] at hx
  obtain ⟨z, hz⟩ : ∃ z, z = (p ++ [x]).length := ⟨_, rfl⟩
  obtain ⟨y, hy⟩ : ∃ y, y = p.length := ⟨_, rfl⟩
  have hzy : z = y + 1 := by rw [hz, hy, List.length_append, List.length_singleton]
  rw [← hz] at hc1 ⊢
  rw [← hy] at hsub hx
  obtain ⟨n1, n2, n3, n4, n5, n6, n7, n8, n9⟩ := down_nums hzy hc1 hc2
  have hk1 := cut_lt (n := n) hn2
  have hk0 := cut_pos n
  have hcut := fun W => rcut_any n W hn2 hn
  have hrl : ∀ s ok, m < cut n → RL a m (cut n) p s ok → RL a m n (p ++ [x]) (nd s x) ok := fun s ok hk h => rl_left (by omega) hk h
  have hrr : ∀ s ok, ¬ m < cut n → RL a (m - cut n) (n - cut n) p s ok → RL a m n (p ++ [x]) (nd x s) ok := fun s ok hk h => rl_right (by omega) hk h
  obtain ⟨k, hkk⟩ : ∃ k, k = cut n := ⟨_, rfl⟩
  rw [← hkk] at hk1 hk0 hcut hrl hrr
  have k1 : ((n : Int) == 1) = false := by rw [beq_eq_false_iff_ne]; omega
  have k2 : decide (n = 1) = false := decide_eq_false (by omega)
  have k2' : ¬ (n = 1) := by omega
  have HS := Lib.hid (And.intro hsub hx)
  have HC := Lib.hid hcut
  have HL := Lib.hid hrl
  have HRR := Lib.hid hrr
  have HIH := Lib.hid ih
  have HN := Lib.hid (And.intro hm (And.intro hn (And.intro hk1 hk0)))
  have HI := Lib.hid (rlin_start w a)
  clear hv hc1 hc2 hr h0 hsub hx hz hy hzy hcut hrl hrr ih hk1 hk0 hkk hm hn hn2
  have HLR : Hid ((m < k) ∨ ¬ (m < k)) := Lib.hid (Nat.lt_or_ge m k |>.imp id (fun h => by omega))
  go_enter Tryz.func70, Tryz.ntmps70
  refine wp_cut 1 ?_
  intro T hT
  dsimp only [cutN]
  replace hT := Lib.hid hT
  go_wp2_with fail
  refine hT.out _ _ ?_
  clear hT
  dsimp only [dropN]
  change Code.wp _ _ _ _ ((w.alloc (.cells (cellsOf a).toArray 24)).alloc (.cells (cellsOf zeroSum).toArray 24))
  have H2 := Lib.hid (HI.out 24)
  generalize ((w.alloc (.cells (cellsOf a).toArray 24)).alloc (.cells (cellsOf zeroSum).toArray 24)) = w2 at *
  clear HI
  have HX2 := Lib.hid (range_below H2.out.below HS.out.2 (range_lt HS.out.2 (by intro h; have := length_cellsOf x; rw [h] at this; cases this)))
  have HS2 := Lib.hid (HS.out.1.below H2.out.below (Nat.le_refl _))
  go_wp2_with (first
    | (refine wpList_load_sum rfl _ rfl b (o + y * 32) rfl x HX2.out ?_)
    | (refine wpList_var_sum (by rfl) rfl _ _ rfl x rfl rfl ?_; intro W3 hb3 hr3 _ hlt3; refine Hid.out ?_))
  refine Lib.hid ?_
  have H3 := Lib.hid (And.intro (H2.out.below.trans (hb3.mono H2.out.below.size)) (And.intro ((Keeps.of_below (X := fun _ => False) hb3).range H2.out.leaf (fun h => h)) (And.intro ((Keeps.of_below (X := fun _ => False) hb3).there H2.out.res (by decide) (fun h => h)) (And.intro hr3 (HS2.out.below hb3 (Nat.le_refl _))))))
  clear hb3 hr3 hlt3 HX2 HS2
  obtain ⟨g, hg⟩ : ∃ g, g = w2.heap.size := ⟨_, rfl⟩
  rw [← hg] at H3 ⊢
  clear hg H2
  go_wp2_with (go_at_call 103; refine Hid.out ?_)
  refine Lib.hid ?_
  refine (HC.out _).mono ?_
  rintro e w4 ⟨rfl, rfl⟩
  by_cases hk : m < k
  · obtain ⟨d1, d2, _, d3⟩ := dec_lt hk
    have HR := Lib.hid (HIH.out m k _ W3 HN.out.2.2.2 hk (by have := HN.out; omega) H3.out.2.2.2.2)
    have HK := Lib.hid hk
    clear HLR
    go_wp2_with (first
      | (refine wpList_load_sum rfl _ rfl w.heap.size 0 rfl a H3.out.2.1 ?_)
      | (go_at_call 70; refine Hid.out ?_))
    refine Lib.hid ?_
    refine HR.out.mono ?_
    rintro e w5 ⟨s, ok, rfl, hb5, hrl⟩
    have H5 := Lib.hid (And.intro (HL.out s ok HK.out hrl) (And.intro (H3.out.1.trans (hb5.mono H3.out.1.size)) (And.intro ((Keeps.of_below (X := fun _ => False) hb5).there H3.out.2.2.1 (by decide) (fun h => h)) ((Keeps.of_below (X := fun _ => False) hb5).range H3.out.2.2.2.1 (fun h => h)))))
    clear hb5 hrl HR
    go_wp2_with (refine wpList_var_sum (by rfl) rfl _ _ rfl s rfl rfl ?_; intro W6 hb6 hr6 _ hlt6; refine Hid.out ?_)
    refine Lib.hid ?_
    have H6 := Lib.hid (And.intro (H5.out.2.1.trans (hb6.mono H5.out.2.1.size)) (And.intro ((Keeps.of_below (X := fun _ => False) hb6).there H5.out.2.2.1 (by decide) (fun h => h)) (And.intro ((Keeps.of_below (X := fun _ => False) hb6).range H5.out.2.2.2 (fun h => h)) hr6)))
    obtain ⟨g6, hg6⟩ : ∃ g, g = w5.heap.size := ⟨_, rfl⟩
    rw [← hg6] at H6 ⊢
    clear hb6 hr6 hlt6 hg6
    go_wp2_with (first
      | (refine wpList_load_sum rfl _ rfl g6 0 rfl s H6.out.2.2.2 ?_)
      | (refine wpList_load_sum rfl _ rfl g 0 rfl x H6.out.2.2.1 ?_)
      | (go_at_call 104; refine Hid.out ?_))
    refine Lib.hid ?_
    refine (rnode_any s x W6).mono ?_
    rintro e w7 ⟨rfl, hb7⟩
    have H7 := Lib.hid (And.intro (H6.out.1.trans (hb7.mono H6.out.1.size)) ((Keeps.of_below (X := fun _ => False) hb7).there H6.out.2.1 (by decide) (fun h => h)))
    clear hb7
    have hnd := H5.out.1
    generalize nd s x = t at *
    have HT := Lib.hid hnd
    clear hnd H5 H6
    go_wp2_with (refine wpList_store_sum rfl _ _ rfl (w.heap.size + 1) 0 t rfl rfl H7.out.2 ?_)
    refine bodyPost_ret (rleads_res Tryz.results70 _ _ _ _ rfl H7.out.2) rfl ?_
    exact ⟨t, _, rfl, setCells_below _ (by omega) _ _ _ _ H7.out.1, HT.out⟩
  · obtain ⟨d1, d2, d3, d4⟩ := side_nums hk HN.out.1 HN.out.2.1
    have HR := Lib.hid (HIH.out (m - k) (n - k) _ W3 (by have := HN.out; omega) (by have := HN.out; omega) (by have := HN.out; omega) H3.out.2.2.2.2)
    have HK := Lib.hid hk
    clear HLR
    go_wp2_with (first
      | (refine wpList_load_sum rfl _ rfl w.heap.size 0 rfl a H3.out.2.1 ?_)
      | (go_at_call 70; refine Hid.out ?_))
    refine Lib.hid ?_
    refine HR.out.mono ?_
    rintro e w5 ⟨s, ok, rfl, hb5, hrl⟩
    have H5 := Lib.hid (And.intro (HRR.out s ok HK.out hrl) (And.intro (H3.out.1.trans (hb5.mono H3.out.1.size)) (And.intro ((Keeps.of_below (X := fun _ => False) hb5).there H3.out.2.2.1 (by decide) (fun h => h)) ((Keeps.of_below (X := fun _ => False) hb5).range H3.out.2.2.2.1 (fun h => h)))))
    clear hb5 hrl HR
    go_wp2_with (refine wpList_var_sum (by rfl) rfl _ _ rfl s rfl rfl ?_; intro W6 hb6 hr6 _ hlt6; refine Hid.out ?_)
    refine Lib.hid ?_
    have H6 := Lib.hid (And.intro (H5.out.2.1.trans (hb6.mono H5.out.2.1.size)) (And.intro ((Keeps.of_below (X := fun _ => False) hb6).there H5.out.2.2.1 (by decide) (fun h => h)) (And.intro ((Keeps.of_below (X := fun _ => False) hb6).range H5.out.2.2.2 (fun h => h)) hr6)))
    obtain ⟨g6, hg6⟩ : ∃ g, g = w5.heap.size := ⟨_, rfl⟩
    rw [← hg6] at H6 ⊢
    clear hb6 hr6 hlt6 hg6
    go_wp2_with (first
      | (refine wpList_load_sum rfl _ rfl g6 0 rfl s H6.out.2.2.2 ?_)
      | (refine wpList_load_sum rfl _ rfl g 0 rfl x H6.out.2.2.1 ?_)
      | (go_at_call 104; refine Hid.out ?_))
    refine Lib.hid ?_
    refine (rnode_any x s W6).mono ?_
    rintro e w7 ⟨rfl, hb7⟩
    have H7 := Lib.hid (And.intro (H6.out.1.trans (hb7.mono H6.out.1.size)) ((Keeps.of_below (X := fun _ => False) hb7).there H6.out.2.1 (by decide) (fun h => h)))
    clear hb7
    have hnd := H5.out.1
    generalize nd x s = t at *
    have HT := Lib.hid hnd
    clear hnd H5 H6
    go_wp2_with (refine wpList_store_sum rfl _ _ rfl (w.heap.size + 1) 0 t rfl rfl H7.out.2 ?_)
    refine bodyPost_ret (rleads_res Tryz.results70 _ _ _ _ rfl H7.out.2) rfl ?_
    exact ⟨t, _, rfl, setCells_below _ (by omega) _ _ _ _ H7.out.1, HT.out⟩
theorem rleads_any : ∀ (d : Nat) (a : Sum) (p : List Sum) (m n : Nat) (v : Value) (w : World), p.length ≤ d → 1 ≤ n → m < n → n < 18446744073709551616 → SumsAt w v p → Calls Tryz.prog 70 #[sv a, .int .u64 (m : Int), .int .u64 (n : Int), v] w (RLOf w a m n p) := by
  intro d
  induction d with
  | zero =>
    intro a p m n v w hd h1 hm hn hv
    obtain rfl : p = [] := List.length_eq_zero_iff.1 (by omega)
    by_cases h : n = 1
    · subst h; exact rleads_end a m [] v w hv
    · exact rleads_few a m n v w hv (by omega)
  | succ d ih =>
    intro a p m n v w hd h1 hm hn hv
    by_cases h : n = 1
    · subst h; exact rleads_end a m p v w hv
    · rcases List.eq_nil_or_concat p with rfl | ⟨p', x, rfl⟩
      · exact rleads_few a m n v w hv (by omega)
      · rw [List.concat_eq_append] at hv hd ⊢
        rw [List.length_append, List.length_singleton] at hd
        exact rleads_step a x m n p' v w hv (by omega) hm hn fun m' n' v' W h1 h2 h3 h4 => ih a p' m' n' v' W (by omega) h1 h2 h3 h4
end Go.Proofs.YtdkcndgehgmadaaGreatDoor
-- Walk: the document's Check of a path.
open Go Go.RowKit Alm
namespace Go.Proofs.YtdkcndgehgmadaaGreatDoor
theorem rcheck_bounds {m n : Nat} (h : ¬ n ≤ m) : decide (n ≤ m) = false ∧ ¬ (n : Int) ≤ (m : Int) := ⟨decide_eq_false h, by omega⟩
set_option maxRecDepth 100000 in
set_option maxHeartbeats 1000000 in
theorem rcheck_any (a b : Sum) (m n : Nat) (v : Value) (p : List Sum) (w : World) (hv : SumsAt w v p) (hn : n < 18446744073709551616) : Calls Tryz.prog 13 #[sv a, .int .u64 (m : Int), .int .u64 (n : Int), v, sv b] w fun e w' => e = .returned (.bool (pathBe a m n p b)) ∧ Below w.heap.size w w' := by
  have HV := Lib.hid hv
  obtain ⟨ad, cap, rfl, _, _, _⟩ := hv
  have b0 : Below w.heap.size w (w.alloc (.cells (cellsOf a).toArray 24)) := al (Below.refl _ _) _
  have b1 : Below (w.alloc (.cells (cellsOf a).toArray 24)).heap.size (w.alloc (.cells (cellsOf a).toArray 24)) ((w.alloc (.cells (cellsOf a).toArray 24)).alloc (.cells (cellsOf b).toArray 24)) := al (Below.refl _ _) _
  have ra := (Keeps.of_below (X := fun _ => False) b1).range (range_new w (cellsOf a).toArray 24 _ rfl) (fun h => h)
  have rb := range_new (w.alloc (.cells (cellsOf a).toArray 24)) (cellsOf b).toArray 24 _ rfl
  rw [World.size_alloc] at rb
  have HB := Lib.hid (And.intro (b0.trans (b1.mono b0.size)) (And.intro ra rb))
  clear b0 b1 ra rb
  by_cases hmn : n ≤ m
  · have hp : pathBe a m n p b = false := by unfold pathBe; rw [decide_eq_false (by omega)]; rfl
    rw [hp]
    obtain ⟨d1, d2⟩ : decide (n ≤ m) = true ∧ (n : Int) ≤ (m : Int) := ⟨decide_eq_true hmn, by omega⟩
    clear hp hn
    go_enter Tryz.func13, Tryz.ntmps13
    go_wp2_with fail
    exact bodyPost_ret (results_tmp rfl _ _ _) rfl ⟨rfl, HB.out.1⟩
  · obtain ⟨d1, d2⟩ := rcheck_bounds hmn
    have hm : m < n := by omega
    by_cases hl : 64 < p.length
    · have hp : pathBe a m n p b = false := long_be hn hl
      rw [hp]
      obtain ⟨z, hz⟩ : ∃ z, z = p.length := ⟨_, rfl⟩
      rw [← hz] at hl ⊢
      have d3 : (64 : Int) < (z : Int) := by omega
      clear hp hn hm hz
      go_enter Tryz.func13, Tryz.ntmps13
      go_wp2_with fail
      exact bodyPost_ret (results_tmp rfl _ _ _) rfl ⟨rfl, HB.out.1⟩
    · have HBE := Lib.hid (fun s ok => rl_be (a := a) (b := b) (s := s) (ok := ok) (p := p) hm)
      have HLD := Lib.hid (fun W hb => rleads_any p.length a p m n _ W (Nat.le_refl _) (by omega) hm hn (HV.out.below hb (Nat.le_refl _)))
      obtain ⟨z, hz⟩ : ∃ z, z = p.length := ⟨_, rfl⟩
      rw [← hz] at hl HLD ⊢
      have d3 : ¬ (64 : Int) < (z : Int) := by omega
      have d4 : decide (64 < z) = false := decide_eq_false hl
      clear hn hm hz HV hl hmn
      go_enter Tryz.func13, Tryz.ntmps13
      go_wp2_with (first
        | (refine wpList_load_sum rfl _ rfl w.heap.size 0 rfl a HB.out.2.1 ?_)
        | (go_at_call 70; refine Hid.out ?_))
      refine Lib.hid ?_
      refine (HLD.out _ HB.out.1).mono ?_
      rintro e w5 ⟨s, ok, rfl, hb5, hrl⟩
      have HE := Lib.hid (HBE.out s ok hrl)
      have H5 := Lib.hid (And.intro (HB.out.1.trans (hb5.mono HB.out.1.size)) ((Keeps.of_below (X := fun _ => False) hb5).range HB.out.2.2 (fun h => h)))
      clear hb5 hrl HB HBE HLD
      go_wp2_with (refine wpList_var_sum (by rfl) rfl _ _ rfl s rfl rfl ?_; intro W6 hb6 hr6 _ hlt6; refine Hid.out ?_)
      refine Lib.hid ?_
      have H6 := Lib.hid (And.intro (H5.out.1.trans (hb6.mono H5.out.1.size)) (And.intro ((Keeps.of_below (X := fun _ => False) hb6).range H5.out.2 (fun h => h)) hr6))
      obtain ⟨g6, hg6⟩ : ∃ g, g = w5.heap.size := ⟨_, rfl⟩
      rw [← hg6] at H6 ⊢
      clear hb6 hr6 hlt6 hg6 H5
      have hes : ∀ w : World, (Op.equalIn 10000 24 (.agg (cellsOf s).toArray) (.agg (cellsOf b).toArray)).run Tryz.prog w = .ok (decide (s = b)) w := fun w => by rw [eq_sums]
      cases ok
      · go_wp2_with fail
        exact bodyPost_ret (results_tmp rfl _ _ _) rfl ⟨by rw [HE.out]; rfl, H6.out.1⟩
      · go_wp2_with (first
          | (refine wpList_load_sum_g (by rfl) _ rfl g6 0 rfl s H6.out.2.2 ?_)
          | (refine wpList_load_sum_g (by rfl) _ rfl (w.heap.size + 1) 0 rfl b H6.out.2.1 ?_))
        refine bodyPost_ret (results_tmp rfl _ _ _) rfl ⟨?_, H6.out.1⟩
        rw [HE.out]; rfl
end Go.Proofs.YtdkcndgehgmadaaGreatDoor
-- Before the law PathsOf: what Of answers, whatever the place; what is said, in a variable; a Book told a list.
open Go Go.RowKit Alm
namespace Go.Proofs.YtdkcndgehgmadaaGreatDoor
noncomputable def pathOf (l : List Sum) (z : Int) : List Sum := if 0 ≤ z ∧ z < l.length then path nd e0 l z.toNat else []
noncomputable def errOf (l : List Sum) (z : Int) : Int := if 0 ≤ z ∧ z < l.length then 0 else 1
theorem pathOf_len (l : List Sum) (z : Int) (h : l.length < 1000000) : (pathOf l z).length ≤ 20 := by
  unfold pathOf
  split
  · exact path_len l _ h
  · simp
theorem pof_any (l : List Sum) (v : Value) (z : Int) (w : World) (hv : SumsAt w v l) (hl : l.length < 1000000) : Calls Tryz.prog 9 #[v, .int .i64 z] w fun e w' => ∃ x, e = .returned (.tuple #[x, .int .i64 (errOf l z)]) ∧ Lie w' w.heap.size 32 x ((pathOf l z).map cellsOf) ∧ Below w.heap.size w w' := by
  by_cases h : 0 ≤ z ∧ z < l.length
  · obtain ⟨m, rfl⟩ : ∃ m : Nat, z = (m : Int) := ⟨z.toNat, by omega⟩
    rw [errOf, pathOf, if_pos h, if_pos h]
    refine (pathsOf_any l m v w hv (by omega) hl).mono ?_
    rintro e w' ⟨v', rfl, hn, hb⟩
    exact ⟨v', rfl, new_lie hn, hb⟩
  · rw [errOf, pathOf, if_neg h, if_neg h]
    refine (pof_out l v z w hv (by omega)).mono ?_
    rintro e w' ⟨rfl, rfl⟩
    exact ⟨_, rfl, .inl ⟨rfl, rfl⟩, Below.refl _ _⟩
theorem rof_any (l : List Sum) (v : Value) (z : Int) (w : World) (hv : SumsAt w v l) (hl : l.length < 1000000) : Calls Tryz.prog 10 #[v, .int .i64 z] w fun e w' => ∃ x, e = .returned (.tuple #[x, .int .i64 (errOf l z)]) ∧ SumsAt w' x (pathOf l z) ∧ Below w.heap.size w w' := by
  by_cases h : 0 ≤ z ∧ z < l.length
  · obtain ⟨m, rfl⟩ : ∃ m : Nat, z = (m : Int) := ⟨z.toNat, by omega⟩
    rw [errOf, pathOf, if_pos h, if_pos h]
    refine (rof_in l v m w hv (by omega) hl).mono ?_
    rintro e w' ⟨v', rfl, hn, hb⟩
    exact ⟨v', rfl, hn, hb⟩
  · rw [errOf, pathOf, if_neg h, if_neg h]
    refine (rof_out l v z w hv (by omega)).mono ?_
    rintro e w' ⟨rfl, rfl⟩
    exact ⟨_, rfl, lie_sums (l := []) (base := w.heap.size) (.inl ⟨rfl, rfl⟩), Below.refl _ _⟩
theorem pc_any (a b : Sum) (m n : Nat) (v : Value) (p : List Sum) (w : World) (hv : SumsAt w v p) (hn : n < 18446744073709551616) : Calls Tryz.prog 12 #[sv a, .int .u64 (m : Int), .int .u64 (n : Int), v, sv b] w fun e w' => e = .returned (.bool (pathBe a m n p b)) ∧ Below w.heap.size w w' := by
  by_cases h : m < n
  · exact pcheck_in a m n v p b w hv h hn
  · have hp : pathBe a m n p b = false := by unfold pathBe; rw [decide_eq_false h]; rfl
    rw [hp]
    exact pcheck_out a m n v p b w hv (by omega)
/-- What is said of a path, in a variable. -/
def QSaidAt (W : World) (z : Nat) (a : Sum) (m n : Nat) (v : Value) (b : Sum) : Prop :=
  W.rangeAt z 0 (cellsOf a) ∧ W.cell? ⟨z, 32, none⟩ = some (.int .u64 (m : Int)) ∧ W.cell? ⟨z, 33, none⟩ = some (.int .u64 (n : Int)) ∧ W.cell? ⟨z, 34, none⟩ = some v ∧ W.rangeAt z 35 (cellsOf b)
theorem QSaidAt.below {W W' : World} {z m n : Nat} {a b : Sum} {v : Value} (h : QSaidAt W z a m n v b) (hb : Below W.heap.size W W') : QSaidAt W' z a m n v b := by
  have k := Keeps.of_below (X := fun _ => False) hb
  exact ⟨k.range h.1 (fun h => h), k.cell (a := ⟨z, 32, none⟩) h.2.1 (fun h => h), k.cell (a := ⟨z, 33, none⟩) h.2.2.1 (fun h => h), k.cell (a := ⟨z, 34, none⟩) h.2.2.2.1 (fun h => h), k.range h.2.2.2.2 (fun h => h)⟩
theorem qsaid_new (w : World) (m n : Nat) (a b : Sum) (v : Value) : QSaidAt (w.alloc (.cells (cellsOf a ++ [Value.int .u64 (m : Int), .int .u64 (n : Int), v] ++ cellsOf b).toArray 27)) w.heap.size a m n v b := by
  have h := range_new w (cellsOf a ++ [Value.int .u64 (m : Int), .int .u64 (n : Int), v] ++ cellsOf b).toArray 27 _ rfl
  rw [List.toList_toArray, range_append, range_append] at h
  obtain ⟨⟨h1, h2⟩, h3⟩ := h
  simp only [List.length_append, length_cellsOf, List.length_cons, List.length_nil, Nat.zero_add, Nat.reduceAdd] at h2 h3
  exact ⟨h1, h2 0 _ rfl, h2 1 _ rfl, h2 2 _ rfl, h3⟩
theorem wpList_box_qsaid {ops : Array Oper} {rest : List Oper} {op : Oper} {a : Act} {w : World} {Q : Exit → Act → World → Prop} (hgd : op.guard = none) (x : Operand) (ho : op.op = .box 27 x)
    (s : Sum) (m n : Nat) (v : Value) (t : Sum) (hx : a.eval x = said10 s m n v t)
    (h : ∀ W', Below w.heap.size w W' → w.heap.size < W'.heap.size → QSaidAt W' w.heap.size s m n v t → wpList Tryz.prog ops Q rest (a.put op.dst (.pointer (some ⟨w.heap.size, 0, none⟩))) W') : wpList Tryz.prog ops Q (op :: rest) a w :=
  wpList_plain hgd fun _ hK => by
    have h := h _ (al (Below.refl _ w) _) (by rw [World.size_alloc]; omega) (qsaid_new w m n s t v)
    unfold Oper.wp execOp
    simp only [ho, hx]
    go_simp
    simp only [List.cons_append, List.nil_append, List.append_assoc] at h
    exact hK _ _ h
theorem of_told {q W : Nat} {F F' : Nat → Value} {H : List Held} {v : Value} {n k : Nat} (hf : ∀ k, (F' 5).ownBlock = some k → (F 5).ownBlock = some k ∨ W ≤ k) (h : OfBook q F' (H ++ [(v, .slice none 0 0, n)]) k) : OfBook q F H k ∨ W ≤ k ∨ v.ownBlock = some k := by
  rcases h with e | e | ⟨i, hi, e⟩
  · exact .inl (.inl e)
  · rcases hf k e with e | e
    · exact .inl (.inr (.inl e))
    · exact .inr (.inl e)
  · unfold lst at e
    rw [hd_append] at e
    by_cases h1 : i < H.length
    · rw [if_pos h1] at e
      exact .inl (.inr (.inr ⟨i, h1, e⟩))
    · rw [if_neg h1, if_pos (by rw [List.length_append, List.length_singleton] at hi; omega)] at e
      exact .inr (.inr e)
theorem of_new {q k : Nat} (h : OfBook q (fun _ => (.slice none 0 0 : Value)) [] k) : k = q := by
  rcases h with e | e | ⟨i, hi, e⟩
  · exact e
  · cases e
  · simp at hi
end Go.Proofs.YtdkcndgehgmadaaGreatDoor
