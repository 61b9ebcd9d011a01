/-
  Walks: links.Check's 'leads', to the left.
-/
import Derived.Test.YtdkcndgehgmadaaG6
open Go Go.RowKit Alm
namespace Go.Proofs.Ytdkcndgehgmadaa
theorem exec_build_both {f : Operand → Value} {o : Oper} (parts : Array (Nat × Operand)) (ho : o.op = .build 105 parts) (x y : Sum) (hp : (parts.toList.map fun (i, x) => (i, f x)) = [(0, sv x), (1, sv y)]) (W : World) :
    (execOp f o).run Try.prog W = .ok (.value (bv x y)) W := by
  have : (parts.map fun (i, x) => (i, f x)) = #[(0, sv x), (1, sv y)] := by
    apply Array.toList_inj.1
    rw [Array.toList_map]; exact hp
  unfold execOp
  simp only [ho, Sem.run_bind, Sem.run_pure, Result.andThen_ok, this, build_both]
theorem range_left_ {w : World} {b o : Nat} {xs ys : List Value} (h : w.rangeAt b o (xs ++ ys)) : w.rangeAt b o xs := fun j v hv => h j v (by rw [List.getElem?_append_left (List.getElem?_eq_some_iff.1 hv).1]; exact hv)
theorem range_right_ {w : World} {b o : Nat} {xs ys : List Value} (h : w.rangeAt b o (xs ++ ys)) : w.rangeAt b (o + xs.length) ys := fun j v hv => by
  have := h (xs.length + j) v (by rw [List.getElem?_append_right (by omega), Nat.add_sub_cancel_left]; exact hv)
  rwa [← Nat.add_assoc] at this
/-- The last step on the left. -/
noncomputable def onLeft (r : Option ((Sum × Sum) × List Sum)) : Option ((Sum × Sum) × List Sum) := match r with
  | some ((x, y), s :: q) => some ((x, nd y s), q)
  | _ => none
/-- The last step on the right. -/
noncomputable def onRight (r : Option ((Sum × Sum) × List Sum)) : Option ((Sum × Sum) × List Sum) := match r with
  | some ((x, y), s :: q) => some ((nd s x, nd s y), q)
  | _ => none
/-- What leads tells: the sums and the error. -/
def LeadTold (B : Nat) (w : World) (c : Nat) (r : Option ((Sum × Sum) × List Sum)) (x y : Sum) (ev : Value) : Prop := match r with
  | some ((x', y'), q) => x' = x ∧ y' = y ∧ ev = .nilIface ∧ LeftAt B w c q
  | none => ev = .iface 26 (.int .i64 5)
theorem LeadsOf.form {B : Nat} {w w' : World} {c : Nat} {r : Option ((Sum × Sum) × List Sum)} {e : Ending} (h : LeadsOf B w c r e w') : ∃ x y ev, e = .returned (.tuple #[bv x y, ev]) ∧ LeadTold B w' c r x y ev := by
  rcases r with _ | ⟨⟨x, y⟩, q⟩
  · obtain ⟨_, x, y, h⟩ := h
    exact ⟨x, y, _, h, rfl⟩
  · exact ⟨x, y, _, h.2.1, rfl, rfl, rfl, h.2.2⟩
theorem Told.left {B : Nat} {w w4 w9 : World} {c : Nat} {q : List Sum} {x y s : Sum} {ev : Value} (h : Told B w4 c q s ev) (hk : Keeps (· = c) w w9) (hl : ∀ r, LeftAt B w4 c r → LeftAt B w9 c r) :
    LeadsOf B w c (onLeft (some ((x, y), q))) (.returned (.tuple #[bv x (nd y s), ev])) w9 := by
  cases q with
  | nil => cases h; exact ⟨hk, _, _, rfl⟩
  | cons s' r =>
    obtain ⟨rfl, rfl, h3⟩ := h
    exact ⟨hk, rfl, hl _ h3⟩
set_option maxRecDepth 100000 in
set_option maxHeartbeats 1000000 in
theorem leads_left (B A N L c : Nat) (a : Sum) (m n : Nat) (e0' : Bool) (r : Option ((Sum × Sum) × List Sum)) (w : World) (hB : B ≤ w.heap.size) (hI : LeadsIn w A N L c a) (hc0 : c < w.heap.size)
    (h1 : 1 ≤ m) (hmn : m < n) (hn9 : n < 4000000000) (hk : m ≤ cut n)
    (ih : ∀ W, Below w.heap.size w W → Calls Try.prog 73 (leadsArgs m (cut n) e0' A N L) W (LeadsOf B W c r)) :
    Calls Try.prog 73 (leadsArgs m n e0' A N L) w (LeadsOf B w c (onLeft r)) := by
  have R0 : Res w 64 (w.alloc (.cells (cells8 (List.replicate 64 0)).toArray 105)) := Res.start _ _ _ _ (by rfl)
  have RL := Res.start (w.alloc (.cells (cells8 (List.replicate 64 0)).toArray 105)) 64 (cells8 (List.replicate 64 0)).toArray 105 (by rfl)
  have HL := Lib.hid (RL.cell (R0.cell hI.self))
  have HW := Lib.hid (And.intro hB (And.intro hI (And.intro hc0 (And.intro R0 RL))))
  have HIH := Lib.hid ih
  clear ih hI hB R0 RL hc0
  obtain ⟨k, hkk⟩ : ∃ k, k = cut n := ⟨_, rfl⟩
  rw [← hkk] at hk HIH
  have HK := Lib.hid hkk; clear hkk
  have k1 : ((m : Int) == (n : Int)) = false := by rw [beq_eq_false_iff_ne]; omega
  have k2 : decide (m = n) = false := decide_eq_false (by omega)
  have k2' : ¬ (m = n) := by omega
  have k3 : decide (m ≤ k) = true := decide_eq_true hk
  have k3' : (m : Int) ≤ (k : Int) := by omega
  go_enter Try.func73, Try.ntmps73
  go_wp2_with (first
      | (go_at_call 71; refine (linksCut_any n _ (by omega) (by omega)).mono ?_; rw [← HK.out]; rintro e1 w1 ⟨rfl, rfl⟩)
      | (refine wpList_load_leads rfl _ rfl L (leadsFn A N L) rfl HL.out ?_))
  obtain ⟨W1, hW1⟩ : ∃ W, W = (w.alloc (.cells (cells8 (List.replicate 64 0)).toArray 105)).alloc (.cells (cells8 (List.replicate 64 0)).toArray 105) := ⟨_, rfl⟩
  change Calls _ _ _ ((w.alloc (.cells (cells8 (List.replicate 64 0)).toArray 105)).alloc (.cells (cells8 (List.replicate 64 0)).toArray 105)) _
  have hR0 := HW.out.2.2.2.1
  have hRL := HW.out.2.2.2.2
  rw [← hW1] at hRL ⊢
  have hs1 : (w.alloc (.cells (cells8 (List.replicate 64 0)).toArray 105)).heap.size = w.heap.size + 1 := Array.size_push _
  have ht15 : W1.there (w.heap.size + 1) 0 64 := by rw [← hs1]; exact hRL.there
  have ht9 : W1.there w.heap.size 0 64 := there_block (hRL.below.block _ (hR0.lt (by decide))) hR0.there
  have hb1 : Below w.heap.size w W1 := hR0.below.trans (hRL.below.mono hR0.below.size)
  clear hR0 hRL hs1 hW1 HL
  refine (HIH.out W1 hb1).mono ?_
  intro e1 w2 hl
  have hk2 := hl.1
  obtain ⟨x, y, ev, he, ht⟩ := hl.form
  subst he
  have hc0 := HW.out.2.2.1
  have n9 : w.heap.size ≠ c := Nat.ne_of_gt hc0
  have n15 : w.heap.size + 1 ≠ c := Nat.ne_of_gt (Nat.lt_succ_of_lt hc0)
  have ht15 := hk2.there ht15 (by decide) n15
  have ht9 := hk2.there ht9 (by decide) n9
  have HT15 := Lib.hid ht15
  have hk3 := keeps_setCells_ (w.heap.size + 1) (cells2 x y) 0 w2
  have HR15 := Lib.hid (range_stored (w.heap.size + 1) (cells2 x y) 0 w2 (by rw [length_cells2]; exact World.there_setCells ht15 (w.heap.size + 1) 0 (cells2 x y)))
  have ht9' : (w2.setCells (w.heap.size + 1) 0 (cells2 x y)).there w.heap.size 0 64 := hk3.there ht9 (by decide) (by intro h; omega)
  have HT9 := Lib.hid ht9'
  have hK3 : Keeps (· = c) w (w2.setCells (w.heap.size + 1) 0 (cells2 x y)) := ((Keeps.of_below hb1).trans hk2).trans' hk3 (fun i hi => .inr (by subst hi; exact Nat.le_succ _))
  have HK3 := Lib.hid hK3
  clear hl hk2 ht15 ht9 hb1 hc0
  rcases r with _ | ⟨⟨x', y'⟩, q⟩
  · cases ht
    have hk4 := keeps_setCells_ w.heap.size (cells2 x y) 0 (w2.setCells (w.heap.size + 1) 0 (cells2 x y))
    have HF : Hid (LeadsOf B w c (onLeft none) (.returned (.tuple #[bv x y, .iface 26 (.int .i64 5)])) ((w2.setCells (w.heap.size + 1) 0 (cells2 x y)).setCells w.heap.size 0 (cells2 x y))) := Lib.hid ⟨hK3.trans' hk4 (fun i hi => .inr (Nat.le_of_eq hi.symm)), x, y, rfl⟩
    have HX := Lib.hid (range_stored w.heap.size (cells2 x y) 0 _ (by rw [length_cells2]; exact World.there_setCells ht9' w.heap.size 0 (cells2 x y)))
    clear hK3 hk3 hk4 ht9' n9 n15
    go_wp2_with (first
      | (refine wpList_load_both rfl _ rfl (w.heap.size + 1) 0 rfl x y HR15.out ?_)
      | (refine wpList_store_both rfl _ _ rfl (w.heap.size + 1) 0 x y rfl rfl HT15.out ?_)
      | (refine wpList_store_both rfl _ _ rfl w.heap.size 0 x y rfl rfl HT9.out ?_))
    refine bodyPost_ret (results_cell_tmp Try.results73 _ _ w.heap.size 0 (cells2 x y) _ rfl HX.out Try.underlying105 rfl (by rw [length_cells2]; exact infoBoth)) rfl ?_
    exact HF.out
  · obtain ⟨rfl, rfl, rfl, hq⟩ := ht
    have hI3 := HW.out.2.1.keep hK3
    have HN3 := Lib.hid hI3.next
    have hl3 : LeftAt B (w2.setCells (w.heap.size + 1) 0 (cells2 x' y')) c q := hq.keep hk3 (fun e => n15 e.symm) (fun k hk _ => hk ▸ Nat.le_succ_of_le HW.out.1)
    have HL3 := Lib.hid hl3
    clear hK3 ht9' n9 n15 hI3 hl3 hq hk3
    go_wp2_with (first
      | (refine wpList_load_next rfl _ rfl N (nextFn c) rfl HN3.out ?_)
      | (refine wpList_store_both rfl _ _ rfl (w.heap.size + 1) 0 x' y' rfl rfl HT15.out ?_))
    refine (next_any B (w2.setCells (w.heap.size + 1) 0 (cells2 x' y')) c q HL3.out).mono ?_
    intro e4 w4 hn
    have hk4 := hn.keeps
    obtain ⟨s, ev, he, hl⟩ := hn.form
    subst he
    have hc0 := HW.out.2.2.1
    have n9 : w.heap.size ≠ c := Nat.ne_of_gt hc0
    have n15 : w.heap.size + 1 ≠ c := Nat.ne_of_gt (Nat.lt_succ_of_lt hc0)
    have hr15 := hk4.range HR15.out n15
    have ht9 := hk4.there HT9.out (by decide) n9
    have hK4 := HK3.out.trans hk4
    have hsz : w.heap.size < w4.heap.size := there_lt ht9 (by decide)
    have hsz15 : w.heap.size + 1 < w4.heap.size := range_lt hr15 (by intro h; have := length_cells2 x' y'; rw [h] at this; cases this)
    have R4 : Res w4 32 (w4.alloc (.cells (cells8 (List.replicate 32 0)).toArray 24)) := Res.start _ _ _ _ (by rfl)
    have HT4 := Lib.hid R4.there
    have R5 := R4.store (cellsOf s)
    have HR5 := Lib.hid (range_stored w4.heap.size (cellsOf s) 0 (w4.alloc (.cells (cells8 (List.replicate 32 0)).toArray 24)) (by rw [length_cellsOf]; exact R5.there))
    have hr15' : ((w4.alloc (.cells (cells8 (List.replicate 32 0)).toArray 24)).setCells w4.heap.size 0 (cellsOf s)).rangeAt (w.heap.size + 1) 0 (cells2 x' y') := R5.range hr15
    have ht9' := there_block (R5.below.block _ hsz) ht9
    have hK5 := hK4.trans (.of_below R5.below)
    have HZ := Lib.hid (And.intro hr15' (And.intro ht9' (And.intro hK5 (And.intro hl (And.intro R5.below hsz)))))
    clear hn hk4 hl hc0 n9 n15 hr15 ht9 hK4 hsz hsz15 R4 R5 hr15' ht9' hK5
    go_wp2_with (first
      | (refine wpList_store_sum rfl _ _ rfl w4.heap.size 0 s rfl rfl HT4.out ?_))
    refine wp_region_sched (fun W => W.rangeAt (w.heap.size + 1) 0 (cellsOf x') ∧ W.rangeAt (w.heap.size + 1) 32 (cellsOf y') ∧ W.rangeAt w4.heap.size 0 (cellsOf s)) [.t 0, .t 2, .t 7, .s 1, .s 3, .e 4 true, .e 5 true, .t 6, .e 8 false, .t 9] (by kernel_rfl) (by kernel_rfl) (by intro c a d v w h; cases d <;> exact h) ?_
    change wpS _ _ _ _ _ _ _ ((w4.alloc (.cells (cells8 (List.replicate 32 0)).toArray 24)).setCells w4.heap.size 0 (cellsOf s)).drew
    have hra := HZ.out.1
    have hst : ((w4.alloc (.cells (cells8 (List.replicate 32 0)).toArray 24)).setCells w4.heap.size 0 (cellsOf s)).rangeAt (w.heap.size + 1) 0 (cellsOf x') ∧ ((w4.alloc (.cells (cells8 (List.replicate 32 0)).toArray 24)).setCells w4.heap.size 0 (cellsOf s)).rangeAt (w.heap.size + 1) 32 (cellsOf y') ∧ ((w4.alloc (.cells (cells8 (List.replicate 32 0)).toArray 24)).setCells w4.heap.size 0 (cellsOf s)).rangeAt w4.heap.size 0 (cellsOf s) :=
      ⟨range_left_ hra, by have := range_right_ hra; rw [length_cellsOf] at this; exact this, HR5.out⟩
    have HS := Lib.hid hst
    clear hra hst ht15 ht9
    generalize hW5 : (w4.alloc (.cells (cells8 (List.replicate 32 0)).toArray 24)).setCells w4.heap.size 0 (cellsOf s) = W5 at *
    clear hW5
    iterate 3
      refine wpS_t rfl (v := ?_) (by rfl) (fun W => ?_) ?_
      rotate_left
      · go_simp
        try rfl
      try simp only [Act.put, List.setIfInBounds_toArray, List.set_cons_zero, List.set_cons_succ]
    refine wpS_load_sum (by exact HS.out) rfl (by rfl) _ (by rfl) (w.heap.size + 1) 0 (by rfl) x' (fun W hW => hW.1) ?_
    try simp only [Act.put, List.setIfInBounds_toArray, List.set_cons_zero, List.set_cons_succ]
    refine wpS_load_sum (by exact HS.out) rfl (by rfl) _ (by rfl) (w.heap.size + 1) 32 (by rfl) y' (fun W hW => hW.2.1) ?_
    try simp only [Act.put, List.setIfInBounds_toArray, List.set_cons_zero, List.set_cons_succ]
    refine wpS_k rfl (by rfl) (fun K hK => ?_)
    refine wp_load_sum _ rfl w4.heap.size 0 rfl s HS.out.2.2 ?_
    refine hK _ _ ⟨by exact HS.out, ?_⟩; clear hK K
    try simp only [Act.put, List.setIfInBounds_toArray, List.set_cons_zero, List.set_cons_succ]
    refine wpS_k rfl (by rfl) (fun K hK => ?_)
    go_simp
    refine (nd_any y' s _).mono ?_
    rintro e6 w6 ⟨rfl, hb6⟩
    have hb : Below W5.heap.size W5 w6 := (Below.refl _ W5).drew.trans hb6
    have hkk : Keeps (fun _ => False) W5 w6 := .of_below hb
    have hS6 : w6.rangeAt (w.heap.size + 1) 0 (cellsOf x') ∧ w6.rangeAt (w.heap.size + 1) 32 (cellsOf y') ∧ w6.rangeAt w4.heap.size 0 (cellsOf s) :=
      ⟨hkk.range HS.out.1 (fun h => h), hkk.range HS.out.2.1 (fun h => h), hkk.range HS.out.2.2 (fun h => h)⟩
    have ht9 := hkk.there HZ.out.2.1 (by decide) (fun h => h)
    have hc0 := HW.out.2.2.1
    have n9 : w.heap.size ≠ c := Nat.ne_of_gt hc0
    have hk9 := keeps_setCells_ w.heap.size (cells2 x' (nd y' s)) 0 w6
    have HF := Lib.hid (HZ.out.2.2.2.1.left (x := x') (y := y') (w := w) (((HZ.out.2.2.1.trans (.of_below hb))).trans' hk9 (fun i hi => .inr (Nat.le_of_eq hi.symm))) (fun r h => (((h.below HZ.out.2.2.2.2.1)).below hb).keep hk9 (fun e => n9 e.symm) (fun k hk _ => hk ▸ HW.out.1)))
    have HX := Lib.hid (range_stored w.heap.size (cells2 x' (nd y' s)) 0 w6 (by rw [length_cells2]; exact World.there_setCells ht9 w.heap.size 0 (cells2 x' (nd y' s))))
    have HT := Lib.hid ht9
    clear hb hkk ht9 hc0 n9 hk9 hb6
    generalize nd y' s = z at *
    refine hK _ _ ⟨by exact hS6, ?_⟩; clear hK K
    try simp only [Act.put, List.setIfInBounds_toArray, List.set_cons_zero, List.set_cons_succ]
    refine wpS_t rfl (v := bv x' z) (by rfl) (fun W => exec_build_both _ rfl x' z (by rfl) W) ?_
    try simp only [Act.put, List.setIfInBounds_toArray, List.set_cons_zero, List.set_cons_succ]
    refine wpS_e rfl (by rfl) (fun K hK => ?_)
    refine wp_store_both _ _ (by rfl) w.heap.size 0 x' z (by rfl) (by rfl) HT.out ?_
    refine hK _ _ ?_; clear hK K
    try simp only [Act.put, List.setIfInBounds_toArray, List.set_cons_zero, List.set_cons_succ]
    iterate 1
      refine wpS_t rfl (v := ?_) (by rfl) (fun W => ?_) ?_
      rotate_left
      · go_simp
        try rfl
      try simp only [Act.put, List.setIfInBounds_toArray, List.set_cons_zero, List.set_cons_succ]
    refine wpS_done ?_
    go_wp2_with fail
    refine bodyPost_ret (results_cell_tmp Try.results73 _ _ w.heap.size 0 (cells2 x' z) _ rfl HX.out Try.underlying105 rfl (by rw [length_cells2]; exact infoBoth)) rfl ?_
    exact HF.out
end Go.Proofs.Ytdkcndgehgmadaa
