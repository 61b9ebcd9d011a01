/-
  Plain: the same as Sched, with one move more: an operation that goes with two others, of which one waits for the other.
-/
import Derived.Test.YtfmgoehnbaiamaaSched
open Go
namespace Alm
section
variable {P : Program} {md : Region.Mode} {S : World → Prop}
/-- A move: an operation that yields in every world; one that yields in every world that meets S; one that comes up alone (true: S is to be shown behind it); two of which either may be the first. -/
inductive MvT where
  | t (i : Nat)
  | s (i : Nat)
  | e (i : Nat) (keep : Bool)
  | f (i j : Nat) (keep : Bool)
  | g (k i j : Nat) (keep : Bool)

/-- How many operations. -/
def stepsOfT : List MvT → Nat
  | [] => 0
  | .f _ _ _ :: r => stepsOfT r + 2
  | .g _ _ _ _ :: r => stepsOfT r + 3
  | _ :: r => stepsOfT r + 1

/-- The moves of a walk. -/
def wpT (P : Program) (md : Region.Mode) (ops : Array Oper) (Q : Exit → Act → World → Prop) (S : World → Prop) : List MvT → Act → World → Prop
  | [], a, w => Q .normal a w
  | .t i :: r, a, w => ∃ o v, ops[i]? = some o ∧ Yields P ops o v a ∧ wpT P md ops Q S r (a.put o.dst v) w
  | .s i :: r, a, w => S w ∧ ∃ o v, ops[i]? = some o ∧ YieldsIf P ops S o v a ∧ wpT P md ops Q S r (a.put o.dst v) w
  | .e i kp :: r, a, w => wpOp P ops Q i (fun a' w' => (kp = true → S w') ∧ wpT P md ops Q S r a' w') a w
  | .f i j kp :: r, a, w =>
    wpOp P ops Q i (fun a' w' => (kp = true → S w') ∧ wpOp P ops Q j (fun a' w' => (kp = true → S w') ∧ wpT P md ops Q S r a' w') a' w') a w ∧
    wpOp P ops Q j (fun a' w' => (kp = true → S w') ∧ wpOp P ops Q i (fun a' w' => (kp = true → S w') ∧ wpT P md ops Q S r a' w') a' w') a w
  | .g k i j kp :: r, a, w =>
    wpOp P ops Q k (fun a' w' => (kp = true → S w') ∧ wpOp P ops Q i (fun a' w' => (kp = true → S w') ∧ wpOp P ops Q j (fun a' w' => (kp = true → S w') ∧ wpT P md ops Q S r a' w') a' w') a' w') a w ∧
    wpOp P ops Q i (fun a' w' => (kp = true → S w') ∧
      wpOp P ops Q k (fun a' w' => (kp = true → S w') ∧ wpOp P ops Q j (fun a' w' => (kp = true → S w') ∧ wpT P md ops Q S r a' w') a' w') a' w' ∧
      wpOp P ops Q j (fun a' w' => (kp = true → S w') ∧ wpOp P ops Q k (fun a' w' => (kp = true → S w') ∧ wpT P md ops Q S r a' w') a' w') a' w') a w

def tsOfT (ms : List MvT) : List Nat := ms.filterMap fun | .t i => some i | _ => none
def lsOfT (ms : List MvT) : List Nat := ms.filterMap fun | .s i => some i | _ => none

/-- Is that an order that serves every order? -/
def schedBT (md : Region.Mode) (ops : Array Oper) (ts ls : List Nat) : List MvT → Array Bool → Bool
  | [], listed => (Region.ready md ops listed).isEmpty
  | .t i :: r, listed => ts.contains i && (Region.ready md ops listed).contains i && Region.free md ops listed i && schedBT md ops ts ls r (listed.setIfInBounds i true)
  | .s i :: r, listed => !ts.contains i && ls.contains i && (Region.ready md ops listed).contains i && Region.free md ops listed i && schedBT md ops ts ls r (listed.setIfInBounds i true)
  | .e i kp :: r, listed => !ts.contains i && !ls.contains i && (Region.ready md ops listed == [i]) && (kp || !keepB md ops ls i) && schedBT md ops ts ls r (listed.setIfInBounds i true)
  | .f i j kp :: r, listed => (!ts.contains i && !ls.contains i && !ts.contains j && !ls.contains j) && (Region.ready md ops listed == [i, j] && Region.ready md ops (listed.setIfInBounds i true) == [j] && Region.ready md ops (listed.setIfInBounds j true) == [i]) && (kp || (!keepB md ops ls i && !keepB md ops ls j)) && schedBT md ops ts ls r ((listed.setIfInBounds i true).setIfInBounds j true)
  | .g k i j kp :: r, listed => (!ts.contains k && !ls.contains k && !ts.contains i && !ls.contains i && !ts.contains j && !ls.contains j) && (decide (k ≠ i) && decide (k ≠ j)) &&
    (Region.ready md ops listed == [k, i] && Region.ready md ops (listed.setIfInBounds k true) == [i] && Region.ready md ops ((listed.setIfInBounds k true).setIfInBounds i true) == [j] && Region.ready md ops (listed.setIfInBounds i true) == [k, j] && Region.ready md ops ((listed.setIfInBounds i true).setIfInBounds j true) == [k]) &&
    (kp || (!keepB md ops ls k && !keepB md ops ls i && !keepB md ops ls j)) && schedBT md ops ts ls r (((listed.setIfInBounds k true).setIfInBounds i true).setIfInBounds j true)

theorem wpAnyK_one {ops : Array Oper} {Q : Exit → Act → World → Prop} {ts ls : List Nat} {x n : Nat} {lx : Array Bool} {a : Act} {w : World} (hr : Region.ready md ops lx = [x]) (ht : ts.contains x = false) (hl : ls.contains x = false)
    (h : wpOp P ops Q x (fun a' w' => (keepB md ops ls x = true → S w') ∧ wpAnyK P md ops Q S ts ls n (lx.setIfInBounds x true) a' w') a w) : wpAnyK P md ops Q S ts ls (n + 1) lx a w := by
  refine ⟨fun h0 => (by rw [h0] at hr; cases hr), fun y hy => ?_⟩
  rw [hr] at hy
  obtain rfl : y = x := by simpa using hy
  unfold opK
  rw [if_neg (by rw [ht]; simp), if_neg (by rw [hl]; simp)]
  exact h
theorem wpAnyK_two {ops : Array Oper} {Q : Exit → Act → World → Prop} {ts ls : List Nat} {x y n : Nat} {lx : Array Bool} {a : Act} {w : World} (hr : Region.ready md ops lx = [x, y]) (htx : ts.contains x = false) (hlx : ls.contains x = false) (hty : ts.contains y = false) (hly : ls.contains y = false)
    (h1 : wpOp P ops Q x (fun a' w' => (keepB md ops ls x = true → S w') ∧ wpAnyK P md ops Q S ts ls n (lx.setIfInBounds x true) a' w') a w)
    (h2 : wpOp P ops Q y (fun a' w' => (keepB md ops ls y = true → S w') ∧ wpAnyK P md ops Q S ts ls n (lx.setIfInBounds y true) a' w') a w) : wpAnyK P md ops Q S ts ls (n + 1) lx a w := by
  refine ⟨fun h0 => (by rw [h0] at hr; cases hr), fun z hz => ?_⟩
  rw [hr] at hz
  rcases List.mem_cons.1 hz with rfl | hz
  · unfold opK
    rw [if_neg (by rw [htx]; simp), if_neg (by rw [hlx]; simp)]
    exact h1
  · obtain rfl : z = y := by simpa using hz
    unfold opK
    rw [if_neg (by rw [hty]; simp), if_neg (by rw [hly]; simp)]
    exact h2

theorem wpAnyK_of_ST {ops : Array Oper} {Q : Exit → Act → World → Prop} {ts ls : List Nat} (hs : Region.noSelect ops = true) (hQ : ∀ c (a : Act) (d : Option Tmp) (v : Value) w, Q (.panic c) (a.put d v) w → Q (.panic c) a w) :
    ∀ (ms : List MvT) (listed : Array Bool) (a : Act) (w : World), closed md ops listed → schedBT md ops ts ls ms listed = true → wpT P md ops Q S ms a w → wpAnyK P md ops Q S ts ls (stepsOfT ms) listed a w
  | [], listed, a, w, _, hB, h => ⟨by simpa [schedBT] using hB, h⟩
  | .t i :: r, listed, a, w, hcl, hB, h => by
    simp only [schedBT, Bool.and_eq_true] at hB
    obtain ⟨⟨⟨hts, hr⟩, hf⟩, hB'⟩ := hB
    obtain ⟨o, v, ho, hy, hn⟩ := h
    have hr' : i ∈ Region.ready md ops listed := by simpa using hr
    refine wpAnyK_first (Y := Yields P ops o v) (B := fun _ => True) ho (Region.noSelect_spec hs) ?_ ?_ ?_ (fun _ _ _ _ _ _ _ => trivial) (stepsOfT r) listed a w hcl (Region.free_spec ho hf) hr' hy trivial (wpAnyK_of_ST hs hQ r _ _ _ (closed_set hcl hr') hB' hn)
    · intro K a w hy _ hK
      unfold opK
      rw [if_pos hts]
      exact ⟨o, v, ho, hy, hK⟩
    · intro oj a hap hy u
      obtain ⟨h1, h2, h3⟩ := Oper.apart_spec hap
      exact hy.of_same (execOp_put o (fun cs b => Region.noSelect_spec hs i o cs b ho) a oj.dst u h3) (wanted_put o a oj.dst u h3)
    · intro j oj hj hap a w hy K' hw
      exact wpOp_put hj hap (fun cs b => Region.noSelect_spec hs i o cs b ho) (fun cs b => Region.noSelect_spec hs j oj cs b hj) (fun c a w => hQ c a _ _ w) hy hw
  | .s i :: r, listed, a, w, hcl, hB, h => by
    simp only [schedBT, Bool.and_eq_true, Bool.not_eq_true'] at hB
    obtain ⟨⟨⟨⟨hts, hls⟩, hr⟩, hf⟩, hB'⟩ := hB
    obtain ⟨hS, o, v, ho, hy, hn⟩ := h
    have hr' : i ∈ Region.ready md ops listed := by simpa using hr
    refine wpAnyK_first (Y := YieldsIf P ops S o v) (B := S) ho (Region.noSelect_spec hs) ?_ ?_ ?_ ?_ (stepsOfT r) listed a w hcl (Region.free_spec ho hf) hr' hy hS (wpAnyK_of_ST hs hQ r _ _ _ (closed_set hcl hr') hB' hn)
    · intro K a w hy hS hK
      unfold opK
      rw [if_neg (by rw [hts]; simp), if_pos hls]
      exact ⟨hS, o, v, ho, hy, hK⟩
    · intro oj a hap hy u
      obtain ⟨h1, h2, h3⟩ := Oper.apart_spec hap
      exact hy.of_same (execOp_put o (fun cs b => Region.noSelect_spec hs i o cs b ho) a oj.dst u h3) (wanted_put o a oj.dst u h3)
    · intro j oj hj hap a w hy K' hw
      exact wpOp_putIf hj hap (fun cs b => Region.noSelect_spec hs i o cs b ho) (fun cs b => Region.noSelect_spec hs j oj cs b hj) (fun c a w => hQ c a _ _ w) hy hw
    · intro listed j hcl hj hil0 w' hk
      refine hk ?_
      obtain ⟨hjun, oj, hoj, hall⟩ := mem_ready.1 hj
      unfold keepB
      refine List.any_eq_true.2 ⟨i, by simpa using hls, ?_⟩
      cases hd : depB md ops i ops.size j with
      | false => rfl
      | true => rw [depB_listed hcl i ops.size j oj hoj hall hd] at hil0; cases hil0
  | .e i kp :: r, listed, a, w, hcl, hB, h => by
    simp only [schedBT, Bool.and_eq_true, Bool.not_eq_true', Bool.or_eq_true, beq_iff_eq] at hB
    obtain ⟨⟨⟨⟨hts, hls⟩, hr⟩, hk⟩, hB'⟩ := hB
    have hr' : i ∈ Region.ready md ops listed := by rw [hr]; simp
    refine ⟨fun h0 => (by rw [h0] at hr; cases hr), fun j hj => ?_⟩
    rw [hr] at hj
    obtain rfl : j = i := by simpa using hj
    unfold opK
    rw [if_neg (by rw [hts]; simp), if_neg (by rw [hls]; simp)]
    refine wpOp_mono (fun a' w' h' => ⟨fun hkb => ?_, wpAnyK_of_ST hs hQ r _ _ _ (closed_set hcl hr') hB' h'.2⟩) h
    rcases hk with hk | hk
    · exact h'.1 hk
    · rw [hk] at hkb; cases hkb

  | .f i j kp :: r, listed, a, w, hcl, hB, h => by
    simp only [schedBT, Bool.and_eq_true, Bool.not_eq_true', Bool.or_eq_true, beq_iff_eq] at hB
    obtain ⟨⟨⟨⟨⟨⟨ht1, hl1⟩, ht2⟩, hl2⟩, ⟨⟨hr, hri⟩, hrj⟩⟩, hk⟩, hB'⟩ := hB
    have hi : i ∈ Region.ready md ops listed := by rw [hr]; simp
    have hj : j ∈ Region.ready md ops listed := by rw [hr]; simp
    have hij : j ∈ Region.ready md ops (listed.setIfInBounds i true) := by rw [hri]; simp
    have hji : i ∈ Region.ready md ops (listed.setIfInBounds j true) := by rw [hrj]; simp
    have hne : i ≠ j := by
      intro e
      subst e
      have := (mem_ready.1 hij).1
      obtain ⟨o, ho, _⟩ := (mem_ready.1 hi).2
      have hib : i < listed.size := by
        rcases Nat.lt_or_ge i listed.size with h' | h'
        · exact h'
        · have h0 := (mem_ready.1 hi).1
          simp [Array.getElem?_eq_none h'] at h0
      simp [hib] at this
    have e2 : (listed.setIfInBounds j true).setIfInBounds i true = (listed.setIfInBounds i true).setIfInBounds j true := Array.setIfInBounds_comm _ _ (Ne.symm hne)
    have hki : keepB md ops ls i = true → kp = true := fun h1 => by rcases hk with hk | hk; exact hk; rw [hk.1] at h1; cases h1
    have hkj : keepB md ops ls j = true → kp = true := fun h1 => by rcases hk with hk | hk; exact hk; rw [hk.2] at h1; cases h1
    have key : ∀ a w, wpT P md ops Q S r a w → wpAnyK P md ops Q S ts ls (stepsOfT r) ((listed.setIfInBounds i true).setIfInBounds j true) a w := fun a w hh => wpAnyK_of_ST hs hQ r _ _ _ (closed_set (closed_set hcl hi) hij) hB' hh
    have inner : ∀ (x : Nat) (lx : Array Bool) a w, Region.ready md ops lx = [x] → (lx.setIfInBounds x true) = ((listed.setIfInBounds i true).setIfInBounds j true) → ts.contains x = false → ls.contains x = false → (keepB md ops ls x = true → kp = true) →
        wpOp P ops Q x (fun a' w' => (kp = true → S w') ∧ wpT P md ops Q S r a' w') a w → wpAnyK P md ops Q S ts ls (stepsOfT r + 1) lx a w := by
      intro x lx a w hrx hlx htx hlsx hkx hh
      refine ⟨fun h0 => (by rw [h0] at hrx; cases hrx), fun y hy => ?_⟩
      rw [hrx] at hy
      obtain rfl : y = x := by simpa using hy
      unfold opK
      rw [if_neg (by rw [htx]; simp), if_neg (by rw [hlsx]; simp)]
      exact wpOp_mono (fun a' w' h' => ⟨fun hkb => h'.1 (hkx hkb), by rw [hlx]; exact key _ _ h'.2⟩) hh
    refine ⟨fun h0 => (by rw [h0] at hr; cases hr), fun y hy => ?_⟩
    rw [hr] at hy
    rcases List.mem_cons.1 hy with rfl | hy
    · unfold opK
      rw [if_neg (by rw [ht1]; simp), if_neg (by rw [hl1]; simp)]
      exact wpOp_mono (fun a' w' h' => ⟨fun hkb => h'.1 (hki hkb), inner j _ _ _ hri rfl ht2 hl2 hkj h'.2⟩) h.1
    · obtain rfl : y = j := by simpa using hy
      unfold opK
      rw [if_neg (by rw [ht2]; simp), if_neg (by rw [hl2]; simp)]
      exact wpOp_mono (fun a' w' h' => ⟨fun hkb => h'.1 (hkj hkb), inner i _ _ _ hrj e2 ht1 hl1 hki h'.2⟩) h.2
  | .g k i j kp :: r, listed, a, w, hcl, hB, h => by
    simp only [schedBT, Bool.and_eq_true, Bool.not_eq_true', Bool.or_eq_true, beq_iff_eq, decide_eq_true_eq] at hB
    obtain ⟨⟨⟨⟨⟨⟨⟨⟨⟨htk, hlk⟩, hti⟩, hli⟩, htj⟩, hlj⟩, ⟨nki, nkj⟩⟩, ⟨⟨⟨⟨r0, rk⟩, rki⟩, ri⟩, rij⟩⟩, hk⟩, hB'⟩ := hB
    have e1 : (listed.setIfInBounds i true).setIfInBounds k true = (listed.setIfInBounds k true).setIfInBounds i true := Array.setIfInBounds_comm _ _ (Ne.symm nki)
    have e2 : ((listed.setIfInBounds i true).setIfInBounds j true).setIfInBounds k true = ((listed.setIfInBounds k true).setIfInBounds i true).setIfInBounds j true := by
      rw [Array.setIfInBounds_comm _ _ (Ne.symm nkj), e1]
    have mk : k ∈ Region.ready md ops listed := by rw [r0]; simp
    have mi : i ∈ Region.ready md ops (listed.setIfInBounds k true) := by rw [rk]; simp
    have mj : j ∈ Region.ready md ops ((listed.setIfInBounds k true).setIfInBounds i true) := by rw [rki]; simp
    have key : ∀ a w, wpT P md ops Q S r a w → wpAnyK P md ops Q S ts ls (stepsOfT r) (((listed.setIfInBounds k true).setIfInBounds i true).setIfInBounds j true) a w := fun a w hh => wpAnyK_of_ST hs hQ r _ _ _ (closed_set (closed_set (closed_set hcl mk) mi) mj) hB' hh
    have gk : keepB md ops ls k = true → kp = true := fun h1 => by rcases hk with hk | hk; exact hk; rw [hk.1.1] at h1; cases h1
    have gi : keepB md ops ls i = true → kp = true := fun h1 => by rcases hk with hk | hk; exact hk; rw [hk.1.2] at h1; cases h1
    have gj : keepB md ops ls j = true → kp = true := fun h1 => by rcases hk with hk | hk; exact hk; rw [hk.2] at h1; cases h1
    refine wpAnyK_two r0 htk hlk hti hli ?_ ?_
    · refine wpOp_mono (fun a' w' h' => ⟨fun hkb => h'.1 (gk hkb), ?_⟩) h.1
      refine wpAnyK_one rk hti hli (wpOp_mono (fun a' w' h' => ⟨fun hkb => h'.1 (gi hkb), ?_⟩) h'.2)
      exact wpAnyK_one rki htj hlj (wpOp_mono (fun a' w' h' => ⟨fun hkb => h'.1 (gj hkb), key _ _ h'.2⟩) h'.2)
    · refine wpOp_mono (fun a' w' h' => ⟨fun hkb => h'.1 (gi hkb), ?_⟩) h.2
      refine wpAnyK_two ri htk hlk htj hlj ?_ ?_
      · refine wpOp_mono (fun a' w' h' => ⟨fun hkb => h'.1 (gk hkb), ?_⟩) h'.2.1
        rw [e1]
        exact wpAnyK_one rki htj hlj (wpOp_mono (fun a' w' h' => ⟨fun hkb => h'.1 (gj hkb), key _ _ h'.2⟩) h'.2)
      · refine wpOp_mono (fun a' w' h' => ⟨fun hkb => h'.1 (gj hkb), ?_⟩) h'.2.2
        exact wpAnyK_one rij htk hlk (wpOp_mono (fun a' w' h' => ⟨fun hkb => h'.1 (gk hkb), by rw [e2]; exact key _ _ h'.2⟩) h'.2)

theorem closed_startT (ops : Array Oper) (n : Nat) : closed md ops (Array.replicate n false) := by
  intro i oi _ h; rw [getD_replicate_false'] at h; cases h

/-- **The beginning.** -/
theorem wp_region_schedT {id : Nat} {Q : Exit → Act → World → Prop} {a : Act} {w : World} {l : List Oper} (S : World → Prop) (ms : List MvT) (hm : P.follows .mixedOrders = true)
    (hB : (Region.noSelect l.toArray && decide (stepsOfT ms ≤ l.length) && schedBT .any l.toArray (tsOfT ms) (lsOfT ms) ms (Array.replicate l.toArray.size false)) = true)
    (hQ : ∀ c (a : Act) (d : Option Tmp) (v : Value) w, Q (.panic c) (a.put d v) w → Q (.panic c) a w)
    (h : wpT P .any l.toArray Q S ms a w.drew) : (Code.region id l.toArray true).wp P Q a w := by
  simp only [Bool.and_eq_true, decide_eq_true_eq] at hB
  refine wp_region_any hm (wpAny_more (stepsOfT ms) _ _ _ _ (by simpa using hB.1.2) (wpAny_of_K _ _ _ _ (wpAnyK_of_ST hB.1.1 hQ ms _ _ _ (closed_start _ _) hB.2 h)))

/-! ### The moves -/
section
variable {l : List Oper} {Q : Exit → Act → World → Prop} {r : List MvT} {a : Act} {w : World} {o : Oper} {i : Nat}
theorem wpT_t {v : Value} (ho : l[i]? = some o) (hw : Region.wanted o (yielded l.toArray a.tmps) = true) (hv : ∀ W, (execOp a.eval o).run P W = .ok (.value v) W) (h : wpT P md l.toArray Q S r (a.put o.dst v) w) : wpT P md l.toArray Q S (.t i :: r) a w :=
  ⟨o, v, by simpa using ho, .inl ⟨hw, hv⟩, h⟩
theorem wpT_t_skip (ho : l[i]? = some o) (hw : Region.wanted o (yielded l.toArray a.tmps) = false) (h : wpT P md l.toArray Q S r (a.put o.dst undef) w) : wpT P md l.toArray Q S (.t i :: r) a w :=
  ⟨o, undef, by simpa using ho, .inr ⟨hw, rfl⟩, h⟩
theorem wpT_s {v : Value} (hS : S w) (ho : l[i]? = some o) (hw : Region.wanted o (yielded l.toArray a.tmps) = true) (hv : ∀ W, S W → (execOp a.eval o).run P W = .ok (.value v) W) (h : wpT P md l.toArray Q S r (a.put o.dst v) w) : wpT P md l.toArray Q S (.s i :: r) a w :=
  ⟨hS, o, v, by simpa using ho, .inl ⟨hw, hv⟩, h⟩
theorem wpT_s_skip (hS : S w) (ho : l[i]? = some o) (hw : Region.wanted o (yielded l.toArray a.tmps) = false) (h : wpT P md l.toArray Q S r (a.put o.dst undef) w) : wpT P md l.toArray Q S (.s i :: r) a w :=
  ⟨hS, o, undef, by simpa using ho, .inr ⟨hw, rfl⟩, h⟩
theorem wpT_e (ho : l[i]? = some o) (hw : Region.wanted o (yielded l.toArray a.tmps) = true) (h : ∀ K : Act → World → Prop, (∀ a' w', wpT P md l.toArray Q S r a' w' → K a' w') → o.wp P a w K Q) : wpT P md l.toArray Q S (.e i false :: r) a w := by
  have ho : l.toArray[i]? = some o := by simpa using ho
  change wpOp P l.toArray Q i _ a w
  unfold wpOp
  simp only [ho, hw, if_true]
  exact .inl (h _ fun a' w' hh => ⟨(fun h => by cases h), hh⟩)
theorem wpT_f' {i j : Nat} (h1 : wpOp P l.toArray Q i (fun a' w' => wpOp P l.toArray Q j (fun a' w' => wpT P md l.toArray Q S r a' w') a' w') a w)
    (h2 : wpOp P l.toArray Q j (fun a' w' => wpOp P l.toArray Q i (fun a' w' => wpT P md l.toArray Q S r a' w') a' w') a w) : wpT P md l.toArray Q S (.f i j false :: r) a w :=
  ⟨wpOp_mono (fun a' w' h => ⟨fun e => (by cases e), wpOp_mono (fun a' w' h => ⟨fun e => (by cases e), h⟩) h⟩) h1,
   wpOp_mono (fun a' w' h => ⟨fun e => (by cases e), wpOp_mono (fun a' w' h => ⟨fun e => (by cases e), h⟩) h⟩) h2⟩
theorem wpT_g {k i j : Nat} (h1 : wpOp P l.toArray Q k (fun a' w' => S w' ∧ wpOp P l.toArray Q i (fun a' w' => S w' ∧ wpOp P l.toArray Q j (fun a' w' => S w' ∧ wpT P md l.toArray Q S r a' w') a' w') a' w') a w)
    (h2 : wpOp P l.toArray Q i (fun a' w' => S w' ∧ wpOp P l.toArray Q k (fun a' w' => S w' ∧ wpOp P l.toArray Q j (fun a' w' => S w' ∧ wpT P md l.toArray Q S r a' w') a' w') a' w' ∧ wpOp P l.toArray Q j (fun a' w' => S w' ∧ wpOp P l.toArray Q k (fun a' w' => S w' ∧ wpT P md l.toArray Q S r a' w') a' w') a' w') a w) : wpT P md l.toArray Q S (.g k i j true :: r) a w :=
  ⟨wpOp_mono (fun _a' _w' h => ⟨fun _ => h.1, wpOp_mono (fun _a' _w' h => ⟨fun _ => h.1, wpOp_mono (fun _a' _w' h => ⟨fun _ => h.1, h.2⟩) h.2⟩) h.2⟩) h1,
   wpOp_mono (fun _a' _w' h => ⟨fun _ => h.1, wpOp_mono (fun _a' _w' h => ⟨fun _ => h.1, wpOp_mono (fun _a' _w' h => ⟨fun _ => h.1, h.2⟩) h.2⟩) h.2.1, wpOp_mono (fun _a' _w' h => ⟨fun _ => h.1, wpOp_mono (fun _a' _w' h => ⟨fun _ => h.1, h.2⟩) h.2⟩) h.2.2⟩) h2⟩
/-- The same where S is wanted behind both. -/
theorem wpT_fk {i j : Nat} (h1 : wpOp P l.toArray Q i (fun a' w' => S w' ∧ wpOp P l.toArray Q j (fun a' w' => S w' ∧ wpT P md l.toArray Q S r a' w') a' w') a w)
    (h2 : wpOp P l.toArray Q j (fun a' w' => S w' ∧ wpOp P l.toArray Q i (fun a' w' => S w' ∧ wpT P md l.toArray Q S r a' w') a' w') a w) : wpT P md l.toArray Q S (.f i j true :: r) a w :=
  ⟨wpOp_mono (fun _a' _w' h => ⟨fun _ => h.1, wpOp_mono (fun _a' _w' h => ⟨fun _ => h.1, h.2⟩) h.2⟩) h1,
   wpOp_mono (fun _a' _w' h => ⟨fun _ => h.1, wpOp_mono (fun _a' _w' h => ⟨fun _ => h.1, h.2⟩) h.2⟩) h2⟩
theorem wpT_e_skip (ho : l[i]? = some o) (hw : Region.wanted o (yielded l.toArray a.tmps) = false) (h : wpT P md l.toArray Q S r (a.put o.dst undef) w) : wpT P md l.toArray Q S (.e i false :: r) a w := by
  have ho : l.toArray[i]? = some o := by simpa using ho
  change wpOp P l.toArray Q i _ a w
  unfold wpOp
  simp only [ho, hw, Bool.false_eq_true, if_false]
  exact ⟨fun h => h.elim, h⟩
theorem wpT_k (ho : l[i]? = some o) (hw : Region.wanted o (yielded l.toArray a.tmps) = true) (h : ∀ K : Act → World → Prop, (∀ a' w', S w' ∧ wpT P md l.toArray Q S r a' w' → K a' w') → o.wp P a w K Q) : wpT P md l.toArray Q S (.e i true :: r) a w := by
  have ho : l.toArray[i]? = some o := by simpa using ho
  change wpOp P l.toArray Q i _ a w
  unfold wpOp
  simp only [ho, hw, if_true]
  exact .inl (h _ fun a' w' hh => ⟨fun _ => hh.1, hh.2⟩)
theorem wpT_k_skip (hS : S w) (ho : l[i]? = some o) (hw : Region.wanted o (yielded l.toArray a.tmps) = false) (h : wpT P md l.toArray Q S r (a.put o.dst undef) w) : wpT P md l.toArray Q S (.e i true :: r) a w := by
  have ho : l.toArray[i]? = some o := by simpa using ho
  change wpOp P l.toArray Q i _ a w
  unfold wpOp
  simp only [ho, hw, Bool.false_eq_true, if_false]
  exact ⟨fun _ => hS, h⟩
/-- A load of many cells. -/
theorem wpT_load_mid (hS : S w) (ho : l[i]? = some o) (hg : Region.wanted o (yielded l.toArray a.tmps) = true) (ty : TypeId) (x : Operand) (hop : o.op = .load ty x) (b off : Nat) (hx : a.eval x = .pointer (some ⟨b, off, none⟩)) (cs : List Value) (d : TypeDesc)
    (hc : ∀ W, S W → W.rangeAt b off cs) (hu : P.underlying ty = some d) (hd : d.isRow = true) (hi : (P.info? ty).map (·.size) = some cs.length) (h : wpT P md l.toArray Q S r (a.put o.dst (.agg cs.toArray)) w) : wpT P md l.toArray Q S (.s i :: r) a w :=
  wpT_s hS ho hg (fun W hW => by
    unfold execOp
    simp only [hop, hx, Instr.loadAt, Instr.sureAddr, Sem.run_bind, Sem.run_pure, Result.andThen_ok, run_loadVar_mid W b off ty cs d (hc W hW) hu hd hi]) h
theorem wpT_done (h : Q .normal a w) : wpT P md l.toArray Q S [] a w := h
end
end
end Alm
