/-
  Merged: Sched4, S19, S20, D17, D18, D19, D20.
-/
import Derived.Test.YtfmgoehnbaiamaaSched
import Derived.Test.YtfmgoehnbaiamaaZS3
import Derived.Test.YtfmgoehnbaiamaaZV
import Derived.Test.YtfmgoehnbaiamaaZD4
-- Plain: the same as Sched, with moves for more operations that may come in more than one order.
open Go
namespace Alm
section
variable {P : Program} {md : Region.Mode} {S : World → Prop}
/-- A move: an operation that yields in every world; one that yields in every world that meets S; one that comes up alone (true: S is to be shown behind it); two of which either may be the first. -/
inductive MvU where
  | t (i : Nat)
  | s (i : Nat)
  | e (i : Nat) (keep : Bool)
  | f (i j : Nat) (keep : Bool)
  | g (k i j : Nat) (keep : Bool)
  | n (is : List Nat) (deps : List (Nat × List Nat)) (keep : Bool)

/-- What one of them waits for, of the others. -/
def depsOf (deps : List (Nat × List Nat)) (i : Nat) : List Nat := (deps.filter fun p => p.1 == i).flatMap (·.2)

/-- How many operations. -/
def stepsOfU : List MvU → Nat
  | [] => 0
  | .f _ _ _ :: r => stepsOfU r + 2
  | .g _ _ _ _ :: r => stepsOfU r + 3
  | .n is _ _ :: r => stepsOfU r + is.length
  | _ :: r => stepsOfU r + 1

/-- The moves of a walk. -/
def wpU (P : Program) (md : Region.Mode) (ops : Array Oper) (Q : Exit → Act → World → Prop) (S : World → Prop) : List MvU → Act → World → Prop
  | [], a, w => Q .normal a w
  | .t i :: r, a, w => ∃ o v, ops[i]? = some o ∧ Yields P ops o v a ∧ wpU P md ops Q S r (a.put o.dst v) w
  | .s i :: r, a, w => S w ∧ ∃ o v, ops[i]? = some o ∧ YieldsIf P ops S o v a ∧ wpU P md ops Q S r (a.put o.dst v) w
  | .e i kp :: r, a, w => wpOp P ops Q i (fun a' w' => (kp = true → S w') ∧ wpU P md ops Q S r a' w') a w
  | .f i j kp :: r, a, w =>
    wpOp P ops Q i (fun a' w' => (kp = true → S w') ∧ wpOp P ops Q j (fun a' w' => (kp = true → S w') ∧ wpU P md ops Q S r a' w') a' w') a w ∧
    wpOp P ops Q j (fun a' w' => (kp = true → S w') ∧ wpOp P ops Q i (fun a' w' => (kp = true → S w') ∧ wpU P md ops Q S r a' w') a' w') a w
  | .g k i j kp :: r, a, w =>
    wpOp P ops Q k (fun a' w' => (kp = true → S w') ∧ wpOp P ops Q i (fun a' w' => (kp = true → S w') ∧ wpOp P ops Q j (fun a' w' => (kp = true → S w') ∧ wpU P md ops Q S r a' w') a' w') a' w') a w ∧
    wpOp P ops Q i (fun a' w' => (kp = true → S w') ∧
      wpOp P ops Q k (fun a' w' => (kp = true → S w') ∧ wpOp P ops Q j (fun a' w' => (kp = true → S w') ∧ wpU P md ops Q S r a' w') a' w') a' w' ∧
      wpOp P ops Q j (fun a' w' => (kp = true → S w') ∧ wpOp P ops Q k (fun a' w' => (kp = true → S w') ∧ wpU P md ops Q S r a' w') a' w') a' w') a w
  | .n is deps kp :: r, a, w =>
    ∃ I : (Nat → Bool) → Act → World → Prop, I (fun _ => false) a w ∧ (kp = true → ∀ d a w, I d a w → S w) ∧
      (∀ i ∈ is, ∀ d a w, d i = false → (∀ x ∈ depsOf deps i, d x = true) → I d a w → wpOp P ops Q i (fun a' w' => I (fun j => decide (j = i) || d j) a' w') a w) ∧
      (∀ d a w, (∀ i ∈ is, d i = true) → I d a w → wpU P md ops Q S r a w)

def tsOfU (ms : List MvU) : List Nat := ms.filterMap fun | .t i => some i | _ => none
def lsOfU (ms : List MvU) : List Nat := ms.filterMap fun | .s i => some i | _ => none

/-- Whatever comes up is one of these, and what it waits for is done; at the end all are. -/
def nB (md : Region.Mode) (ops : Array Oper) (is : List Nat) (deps : List (Nat × List Nat)) (target : Array Bool) : Nat → Array Bool → Bool
  | 0, listed => (listed == target) && is.all fun i => listed.getD i false
  | n + 1, listed => !(Region.ready md ops listed).isEmpty && (Region.ready md ops listed).all fun i => is.contains i && ((depsOf deps i).all fun x => is.contains x && listed.getD x false) && nB md ops is deps target n (listed.setIfInBounds i true)
/-- Is that an order that serves every order? -/
def schedBU (md : Region.Mode) (ops : Array Oper) (ts ls : List Nat) : List MvU → Array Bool → Bool
  | [], listed => (Region.ready md ops listed).isEmpty
  | .t i :: r, listed => ts.contains i && (Region.ready md ops listed).contains i && Region.free md ops listed i && schedBU md ops ts ls r (listed.setIfInBounds i true)
  | .s i :: r, listed => !ts.contains i && ls.contains i && (Region.ready md ops listed).contains i && Region.free md ops listed i && schedBU md ops ts ls r (listed.setIfInBounds i true)
  | .e i kp :: r, listed => !ts.contains i && !ls.contains i && (Region.ready md ops listed == [i]) && (kp || !keepB md ops ls i) && schedBU md ops ts ls r (listed.setIfInBounds i true)
  | .f i j kp :: r, listed => (!ts.contains i && !ls.contains i && !ts.contains j && !ls.contains j) && (Region.ready md ops listed == [i, j] && Region.ready md ops (listed.setIfInBounds i true) == [j] && Region.ready md ops (listed.setIfInBounds j true) == [i]) && (kp || (!keepB md ops ls i && !keepB md ops ls j)) && schedBU md ops ts ls r ((listed.setIfInBounds i true).setIfInBounds j true)
  | .g k i j kp :: r, listed => (!ts.contains k && !ls.contains k && !ts.contains i && !ls.contains i && !ts.contains j && !ls.contains j) && (decide (k ≠ i) && decide (k ≠ j)) &&
    (Region.ready md ops listed == [k, i] && Region.ready md ops (listed.setIfInBounds k true) == [i] && Region.ready md ops ((listed.setIfInBounds k true).setIfInBounds i true) == [j] && Region.ready md ops (listed.setIfInBounds i true) == [k, j] && Region.ready md ops ((listed.setIfInBounds i true).setIfInBounds j true) == [k]) &&
    (kp || (!keepB md ops ls k && !keepB md ops ls i && !keepB md ops ls j)) && schedBU md ops ts ls r (((listed.setIfInBounds k true).setIfInBounds i true).setIfInBounds j true)
  | .n is deps kp :: r, listed => (is.all fun i => !ts.contains i && !ls.contains i && !listed.getD i false && (kp || !keepB md ops ls i)) && nB md ops is deps (is.foldl (fun l i => l.setIfInBounds i true) listed) is.length listed && schedBU md ops ts ls r (is.foldl (fun l i => l.setIfInBounds i true) listed)

theorem wpAnyK_oneU {ops : Array Oper} {Q : Exit → Act → World → Prop} {ts ls : List Nat} {x n : Nat} {lx : Array Bool} {a : Act} {w : World} (hr : Region.ready md ops lx = [x]) (ht : ts.contains x = false) (hl : ls.contains x = false)
    (h : wpOp P ops Q x (fun a' w' => (keepB md ops ls x = true → S w') ∧ wpAnyK P md ops Q S ts ls n (lx.setIfInBounds x true) a' w') a w) : wpAnyK P md ops Q S ts ls (n + 1) lx a w := by
  refine ⟨fun h0 => (by rw [h0] at hr; cases hr), fun y hy => ?_⟩
  rw [hr] at hy
  obtain rfl : y = x := by simpa using hy
  unfold opK
  rw [if_neg (by rw [ht]; simp), if_neg (by rw [hl]; simp)]
  exact h
theorem wpAnyK_twoU {ops : Array Oper} {Q : Exit → Act → World → Prop} {ts ls : List Nat} {x y n : Nat} {lx : Array Bool} {a : Act} {w : World} (hr : Region.ready md ops lx = [x, y]) (htx : ts.contains x = false) (hlx : ls.contains x = false) (hty : ts.contains y = false) (hly : ls.contains y = false)
    (h1 : wpOp P ops Q x (fun a' w' => (keepB md ops ls x = true → S w') ∧ wpAnyK P md ops Q S ts ls n (lx.setIfInBounds x true) a' w') a w)
    (h2 : wpOp P ops Q y (fun a' w' => (keepB md ops ls y = true → S w') ∧ wpAnyK P md ops Q S ts ls n (lx.setIfInBounds y true) a' w') a w) : wpAnyK P md ops Q S ts ls (n + 1) lx a w := by
  refine ⟨fun h0 => (by rw [h0] at hr; cases hr), fun z hz => ?_⟩
  rw [hr] at hz
  rcases List.mem_cons.1 hz with rfl | hz
  · unfold opK
    rw [if_neg (by rw [htx]; simp), if_neg (by rw [hlx]; simp)]
    exact h1
  · obtain rfl : z = y := by simpa using hz
    unfold opK
    rw [if_neg (by rw [hty]; simp), if_neg (by rw [hly]; simp)]
    exact h2

theorem wpAnyK_of_SU {ops : Array Oper} {Q : Exit → Act → World → Prop} {ts ls : List Nat} (hs : Region.noSelect ops = true) (hQ : ∀ c (a : Act) (d : Option Tmp) (v : Value) w, Q (.panic c) (a.put d v) w → Q (.panic c) a w) :
    ∀ (ms : List MvU) (listed : Array Bool) (a : Act) (w : World), closed md ops listed → schedBU md ops ts ls ms listed = true → wpU P md ops Q S ms a w → wpAnyK P md ops Q S ts ls (stepsOfU ms) listed a w
  | [], listed, a, w, _, hB, h => ⟨by simpa [schedBU] using hB, h⟩
  | .t i :: r, listed, a, w, hcl, hB, h => by
    simp only [schedBU, Bool.and_eq_true] at hB
    obtain ⟨⟨⟨hts, hr⟩, hf⟩, hB'⟩ := hB
    obtain ⟨o, v, ho, hy, hn⟩ := h
    have hr' : i ∈ Region.ready md ops listed := by simpa using hr
    refine wpAnyK_first (Y := Yields P ops o v) (B := fun _ => True) ho (Region.noSelect_spec hs) ?_ ?_ ?_ (fun _ _ _ _ _ _ _ => trivial) (stepsOfU r) listed a w hcl (Region.free_spec ho hf) hr' hy trivial (wpAnyK_of_SU hs hQ r _ _ _ (closed_set hcl hr') hB' hn)
    · intro K a w hy _ hK
      unfold opK
      rw [if_pos hts]
      exact ⟨o, v, ho, hy, hK⟩
    · intro oj a hap hy u
      obtain ⟨h1, h2, h3⟩ := Oper.apart_spec hap
      exact hy.of_same (execOp_put o (fun cs b => Region.noSelect_spec hs i o cs b ho) a oj.dst u h3) (wanted_put o a oj.dst u h3)
    · intro j oj hj hap a w hy K' hw
      exact wpOp_put hj hap (fun cs b => Region.noSelect_spec hs i o cs b ho) (fun cs b => Region.noSelect_spec hs j oj cs b hj) (fun c a w => hQ c a _ _ w) hy hw
  | .s i :: r, listed, a, w, hcl, hB, h => by
    simp only [schedBU, Bool.and_eq_true, Bool.not_eq_true'] at hB
    obtain ⟨⟨⟨⟨hts, hls⟩, hr⟩, hf⟩, hB'⟩ := hB
    obtain ⟨hS, o, v, ho, hy, hn⟩ := h
    have hr' : i ∈ Region.ready md ops listed := by simpa using hr
    refine wpAnyK_first (Y := YieldsIf P ops S o v) (B := S) ho (Region.noSelect_spec hs) ?_ ?_ ?_ ?_ (stepsOfU r) listed a w hcl (Region.free_spec ho hf) hr' hy hS (wpAnyK_of_SU hs hQ r _ _ _ (closed_set hcl hr') hB' hn)
    · intro K a w hy hS hK
      unfold opK
      rw [if_neg (by rw [hts]; simp), if_pos hls]
      exact ⟨hS, o, v, ho, hy, hK⟩
    · intro oj a hap hy u
      obtain ⟨h1, h2, h3⟩ := Oper.apart_spec hap
      exact hy.of_same (execOp_put o (fun cs b => Region.noSelect_spec hs i o cs b ho) a oj.dst u h3) (wanted_put o a oj.dst u h3)
    · intro j oj hj hap a w hy K' hw
      exact wpOp_putIf hj hap (fun cs b => Region.noSelect_spec hs i o cs b ho) (fun cs b => Region.noSelect_spec hs j oj cs b hj) (fun c a w => hQ c a _ _ w) hy hw
    · intro listed j hcl hj hil0 w' hk
      refine hk ?_
      obtain ⟨hjun, oj, hoj, hall⟩ := mem_ready.1 hj
      unfold keepB
      refine List.any_eq_true.2 ⟨i, by simpa using hls, ?_⟩
      cases hd : depB md ops i ops.size j with
      | false => rfl
      | true => rw [depB_listed hcl i ops.size j oj hoj hall hd] at hil0; cases hil0
  | .e i kp :: r, listed, a, w, hcl, hB, h => by
    simp only [schedBU, Bool.and_eq_true, Bool.not_eq_true', Bool.or_eq_true, beq_iff_eq] at hB
    obtain ⟨⟨⟨⟨hts, hls⟩, hr⟩, hk⟩, hB'⟩ := hB
    have hr' : i ∈ Region.ready md ops listed := by rw [hr]; simp
    refine ⟨fun h0 => (by rw [h0] at hr; cases hr), fun j hj => ?_⟩
    rw [hr] at hj
    obtain rfl : j = i := by simpa using hj
    unfold opK
    rw [if_neg (by rw [hts]; simp), if_neg (by rw [hls]; simp)]
    refine wpOp_mono (fun a' w' h' => ⟨fun hkb => ?_, wpAnyK_of_SU hs hQ r _ _ _ (closed_set hcl hr') hB' h'.2⟩) h
    rcases hk with hk | hk
    · exact h'.1 hk
    · rw [hk] at hkb; cases hkb

  | .f i j kp :: r, listed, a, w, hcl, hB, h => by
    simp only [schedBU, Bool.and_eq_true, Bool.not_eq_true', Bool.or_eq_true, beq_iff_eq] at hB
    obtain ⟨⟨⟨⟨⟨⟨ht1, hl1⟩, ht2⟩, hl2⟩, ⟨⟨hr, hri⟩, hrj⟩⟩, hk⟩, hB'⟩ := hB
    have hi : i ∈ Region.ready md ops listed := by rw [hr]; simp
    have hj : j ∈ Region.ready md ops listed := by rw [hr]; simp
    have hij : j ∈ Region.ready md ops (listed.setIfInBounds i true) := by rw [hri]; simp
    have hji : i ∈ Region.ready md ops (listed.setIfInBounds j true) := by rw [hrj]; simp
    have hne : i ≠ j := by
      intro e
      subst e
      have := (mem_ready.1 hij).1
      obtain ⟨o, ho, _⟩ := (mem_ready.1 hi).2
      have hib : i < listed.size := by
        rcases Nat.lt_or_ge i listed.size with h' | h'
        · exact h'
        · have h0 := (mem_ready.1 hi).1
          simp [Array.getElem?_eq_none h'] at h0
      simp [hib] at this
    have e2 : (listed.setIfInBounds j true).setIfInBounds i true = (listed.setIfInBounds i true).setIfInBounds j true := Array.setIfInBounds_comm _ _ (Ne.symm hne)
    have hki : keepB md ops ls i = true → kp = true := fun h1 => by rcases hk with hk | hk; exact hk; rw [hk.1] at h1; cases h1
    have hkj : keepB md ops ls j = true → kp = true := fun h1 => by rcases hk with hk | hk; exact hk; rw [hk.2] at h1; cases h1
    have key : ∀ a w, wpU P md ops Q S r a w → wpAnyK P md ops Q S ts ls (stepsOfU r) ((listed.setIfInBounds i true).setIfInBounds j true) a w := fun a w hh => wpAnyK_of_SU hs hQ r _ _ _ (closed_set (closed_set hcl hi) hij) hB' hh
    have inner : ∀ (x : Nat) (lx : Array Bool) a w, Region.ready md ops lx = [x] → (lx.setIfInBounds x true) = ((listed.setIfInBounds i true).setIfInBounds j true) → ts.contains x = false → ls.contains x = false → (keepB md ops ls x = true → kp = true) →
        wpOp P ops Q x (fun a' w' => (kp = true → S w') ∧ wpU P md ops Q S r a' w') a w → wpAnyK P md ops Q S ts ls (stepsOfU r + 1) lx a w := by
      intro x lx a w hrx hlx htx hlsx hkx hh
      refine ⟨fun h0 => (by rw [h0] at hrx; cases hrx), fun y hy => ?_⟩
      rw [hrx] at hy
      obtain rfl : y = x := by simpa using hy
      unfold opK
      rw [if_neg (by rw [htx]; simp), if_neg (by rw [hlsx]; simp)]
      exact wpOp_mono (fun a' w' h' => ⟨fun hkb => h'.1 (hkx hkb), by rw [hlx]; exact key _ _ h'.2⟩) hh
    refine ⟨fun h0 => (by rw [h0] at hr; cases hr), fun y hy => ?_⟩
    rw [hr] at hy
    rcases List.mem_cons.1 hy with rfl | hy
    · unfold opK
      rw [if_neg (by rw [ht1]; simp), if_neg (by rw [hl1]; simp)]
      exact wpOp_mono (fun a' w' h' => ⟨fun hkb => h'.1 (hki hkb), inner j _ _ _ hri rfl ht2 hl2 hkj h'.2⟩) h.1
    · obtain rfl : y = j := by simpa using hy
      unfold opK
      rw [if_neg (by rw [ht2]; simp), if_neg (by rw [hl2]; simp)]
      exact wpOp_mono (fun a' w' h' => ⟨fun hkb => h'.1 (hkj hkb), inner i _ _ _ hrj e2 ht1 hl1 hki h'.2⟩) h.2
  | .g k i j kp :: r, listed, a, w, hcl, hB, h => by
    simp only [schedBU, Bool.and_eq_true, Bool.not_eq_true', Bool.or_eq_true, beq_iff_eq, decide_eq_true_eq] at hB
    obtain ⟨⟨⟨⟨⟨⟨⟨⟨⟨htk, hlk⟩, hti⟩, hli⟩, htj⟩, hlj⟩, ⟨nki, nkj⟩⟩, ⟨⟨⟨⟨r0, rk⟩, rki⟩, ri⟩, rij⟩⟩, hk⟩, hB'⟩ := hB
    have e1 : (listed.setIfInBounds i true).setIfInBounds k true = (listed.setIfInBounds k true).setIfInBounds i true := Array.setIfInBounds_comm _ _ (Ne.symm nki)
    have e2 : ((listed.setIfInBounds i true).setIfInBounds j true).setIfInBounds k true = ((listed.setIfInBounds k true).setIfInBounds i true).setIfInBounds j true := by
      rw [Array.setIfInBounds_comm _ _ (Ne.symm nkj), e1]
    have mk : k ∈ Region.ready md ops listed := by rw [r0]; simp
    have mi : i ∈ Region.ready md ops (listed.setIfInBounds k true) := by rw [rk]; simp
    have mj : j ∈ Region.ready md ops ((listed.setIfInBounds k true).setIfInBounds i true) := by rw [rki]; simp
    have key : ∀ a w, wpU P md ops Q S r a w → wpAnyK P md ops Q S ts ls (stepsOfU r) (((listed.setIfInBounds k true).setIfInBounds i true).setIfInBounds j true) a w := fun a w hh => wpAnyK_of_SU hs hQ r _ _ _ (closed_set (closed_set (closed_set hcl mk) mi) mj) hB' hh
    have gk : keepB md ops ls k = true → kp = true := fun h1 => by rcases hk with hk | hk; exact hk; rw [hk.1.1] at h1; cases h1
    have gi : keepB md ops ls i = true → kp = true := fun h1 => by rcases hk with hk | hk; exact hk; rw [hk.1.2] at h1; cases h1
    have gj : keepB md ops ls j = true → kp = true := fun h1 => by rcases hk with hk | hk; exact hk; rw [hk.2] at h1; cases h1
    refine wpAnyK_twoU r0 htk hlk hti hli ?_ ?_
    · refine wpOp_mono (fun a' w' h' => ⟨fun hkb => h'.1 (gk hkb), ?_⟩) h.1
      refine wpAnyK_oneU rk hti hli (wpOp_mono (fun a' w' h' => ⟨fun hkb => h'.1 (gi hkb), ?_⟩) h'.2)
      exact wpAnyK_oneU rki htj hlj (wpOp_mono (fun a' w' h' => ⟨fun hkb => h'.1 (gj hkb), key _ _ h'.2⟩) h'.2)
    · refine wpOp_mono (fun a' w' h' => ⟨fun hkb => h'.1 (gi hkb), ?_⟩) h.2
      refine wpAnyK_twoU ri htk hlk htj hlj ?_ ?_
      · refine wpOp_mono (fun a' w' h' => ⟨fun hkb => h'.1 (gk hkb), ?_⟩) h'.2.1
        rw [e1]
        exact wpAnyK_oneU rki htj hlj (wpOp_mono (fun a' w' h' => ⟨fun hkb => h'.1 (gj hkb), key _ _ h'.2⟩) h'.2)
      · refine wpOp_mono (fun a' w' h' => ⟨fun hkb => h'.1 (gj hkb), ?_⟩) h'.2.2
        exact wpAnyK_oneU rij htk hlk (wpOp_mono (fun a' w' h' => ⟨fun hkb => h'.1 (gk hkb), by rw [e2]; exact key _ _ h'.2⟩) h'.2)
  | .n is deps kp :: r, listed, a, w, hcl, hB, h => by
    simp only [schedBU, Bool.and_eq_true, List.all_eq_true, Bool.not_eq_true', Bool.or_eq_true] at hB
    obtain ⟨⟨h1, h2⟩, h3⟩ := hB
    obtain ⟨I, hI0, hIS, hIo, hIe⟩ := h
    have key : ∀ (n : Nat) (lx : Array Bool) (a : Act) (w : World) (d : Nat → Bool), closed md ops lx → nB md ops is deps (is.foldl (fun l i => l.setIfInBounds i true) listed) n lx = true → (∀ j ∈ is, d j = lx.getD j false) → I d a w → wpAnyK P md ops Q S ts ls (stepsOfU r + n) lx a w := by
      intro n
      induction n with
      | zero =>
        intro lx a w d hcx hn hd hI
        simp only [nB, Bool.and_eq_true, beq_iff_eq, List.all_eq_true] at hn
        obtain ⟨e, hall⟩ := hn
        rw [← e] at h3
        exact wpAnyK_of_SU hs hQ r _ _ _ hcx h3 (hIe d a w (fun i hi => by rw [hd i hi]; exact hall i hi) hI)
      | succ n ih =>
        intro lx a w d hcx hn hd hI
        simp only [nB, Bool.and_eq_true, Bool.not_eq_true', List.all_eq_true] at hn
        obtain ⟨hne, hall⟩ := hn
        refine ⟨fun h0 => (by rw [h0] at hne; cases hne), fun i hi => ?_⟩
        obtain ⟨⟨hin, hdep⟩, hn'⟩ := hall i hi
        have him : i ∈ is := by simpa using hin
        have hun := (mem_ready.1 hi).1
        have hlt : i < lx.size := by
          rcases Nat.lt_or_ge i lx.size with h' | h'
          · exact h'
          · simp [Array.getElem?_eq_none h'] at hun
        have hdi : d i = false := by
          rw [hd i him]
          simpa [hlt] using hun
        have hg := h1 i him
        unfold opK
        rw [if_neg (by rw [hg.1.1.1]; simp), if_neg (by rw [hg.1.1.2]; simp)]
        refine wpOp_mono (fun a' w' h' => ⟨fun hkb => ?_, ih _ a' w' _ (closed_set hcx hi) hn' (fun j hj => ?_) h'⟩) (hIo i him d a w hdi (fun x hx => ?_) hI)
        · rcases hg.2 with hk | hk
          · exact hIS hk _ _ _ h'
          · rw [hk] at hkb; cases hkb
        · by_cases hji : j = i
          · subst hji
            simp [hlt]
          · have hij : ¬ i = j := fun e => hji e.symm
            simp only [hji, decide_false, Bool.false_or]
            rw [hd j hj]
            simp [hij]
        · have hx' := hdep x hx
          rw [hd x (by simpa using hx'.1)]
          exact hx'.2
    exact key is.length listed a w (fun _ => false) hcl h2 (fun j hj => by have := (h1 j hj).1.2; exact this.symm) hI0

theorem closed_startU (ops : Array Oper) (n : Nat) : closed md ops (Array.replicate n false) := by
  intro i oi _ h; rw [getD_replicate_false'] at h; cases h

/-- **The beginning.** -/
theorem wp_region_schedU {id : Nat} {Q : Exit → Act → World → Prop} {a : Act} {w : World} {l : List Oper} (S : World → Prop) (ms : List MvU) (hm : P.follows .mixedOrders = true)
    (hB : (Region.noSelect l.toArray && decide (stepsOfU ms ≤ l.length) && schedBU .any l.toArray (tsOfU ms) (lsOfU ms) ms (Array.replicate l.toArray.size false)) = true)
    (hQ : ∀ c (a : Act) (d : Option Tmp) (v : Value) w, Q (.panic c) (a.put d v) w → Q (.panic c) a w)
    (h : wpU P .any l.toArray Q S ms a w.drew) : (Code.region id l.toArray true).wp P Q a w := by
  simp only [Bool.and_eq_true, decide_eq_true_eq] at hB
  refine wp_region_any hm (wpAny_more (stepsOfU ms) _ _ _ _ (by simpa using hB.1.2) (wpAny_of_K _ _ _ _ (wpAnyK_of_SU hB.1.1 hQ ms _ _ _ (closed_start _ _) hB.2 h)))

/-! ### The moves -/
section
variable {l : List Oper} {Q : Exit → Act → World → Prop} {r : List MvU} {a : Act} {w : World} {o : Oper} {i : Nat}
theorem wpU_t {v : Value} (ho : l[i]? = some o) (hw : Region.wanted o (yielded l.toArray a.tmps) = true) (hv : ∀ W, (execOp a.eval o).run P W = .ok (.value v) W) (h : wpU P md l.toArray Q S r (a.put o.dst v) w) : wpU P md l.toArray Q S (.t i :: r) a w :=
  ⟨o, v, by simpa using ho, .inl ⟨hw, hv⟩, h⟩
theorem wpU_t_skip (ho : l[i]? = some o) (hw : Region.wanted o (yielded l.toArray a.tmps) = false) (h : wpU P md l.toArray Q S r (a.put o.dst undef) w) : wpU P md l.toArray Q S (.t i :: r) a w :=
  ⟨o, undef, by simpa using ho, .inr ⟨hw, rfl⟩, h⟩
theorem wpU_s {v : Value} (hS : S w) (ho : l[i]? = some o) (hw : Region.wanted o (yielded l.toArray a.tmps) = true) (hv : ∀ W, S W → (execOp a.eval o).run P W = .ok (.value v) W) (h : wpU P md l.toArray Q S r (a.put o.dst v) w) : wpU P md l.toArray Q S (.s i :: r) a w :=
  ⟨hS, o, v, by simpa using ho, .inl ⟨hw, hv⟩, h⟩
theorem wpU_s_skip (hS : S w) (ho : l[i]? = some o) (hw : Region.wanted o (yielded l.toArray a.tmps) = false) (h : wpU P md l.toArray Q S r (a.put o.dst undef) w) : wpU P md l.toArray Q S (.s i :: r) a w :=
  ⟨hS, o, undef, by simpa using ho, .inr ⟨hw, rfl⟩, h⟩
theorem wpU_e (ho : l[i]? = some o) (hw : Region.wanted o (yielded l.toArray a.tmps) = true) (h : ∀ K : Act → World → Prop, (∀ a' w', wpU P md l.toArray Q S r a' w' → K a' w') → o.wp P a w K Q) : wpU P md l.toArray Q S (.e i false :: r) a w := by
  have ho : l.toArray[i]? = some o := by simpa using ho
  change wpOp P l.toArray Q i _ a w
  unfold wpOp
  simp only [ho, hw, if_true]
  exact .inl (h _ fun a' w' hh => ⟨(fun h => by cases h), hh⟩)
theorem wpU_f' {i j : Nat} (h1 : wpOp P l.toArray Q i (fun a' w' => wpOp P l.toArray Q j (fun a' w' => wpU P md l.toArray Q S r a' w') a' w') a w)
    (h2 : wpOp P l.toArray Q j (fun a' w' => wpOp P l.toArray Q i (fun a' w' => wpU P md l.toArray Q S r a' w') a' w') a w) : wpU P md l.toArray Q S (.f i j false :: r) a w :=
  ⟨wpOp_mono (fun a' w' h => ⟨fun e => (by cases e), wpOp_mono (fun a' w' h => ⟨fun e => (by cases e), h⟩) h⟩) h1,
   wpOp_mono (fun a' w' h => ⟨fun e => (by cases e), wpOp_mono (fun a' w' h => ⟨fun e => (by cases e), h⟩) h⟩) h2⟩
theorem wpU_g {k i j : Nat} (h1 : wpOp P l.toArray Q k (fun a' w' => S w' ∧ wpOp P l.toArray Q i (fun a' w' => S w' ∧ wpOp P l.toArray Q j (fun a' w' => S w' ∧ wpU P md l.toArray Q S r a' w') a' w') a' w') a w)
    (h2 : wpOp P l.toArray Q i (fun a' w' => S w' ∧ wpOp P l.toArray Q k (fun a' w' => S w' ∧ wpOp P l.toArray Q j (fun a' w' => S w' ∧ wpU P md l.toArray Q S r a' w') a' w') a' w' ∧ wpOp P l.toArray Q j (fun a' w' => S w' ∧ wpOp P l.toArray Q k (fun a' w' => S w' ∧ wpU P md l.toArray Q S r a' w') a' w') a' w') a w) : wpU P md l.toArray Q S (.g k i j true :: r) a w :=
  ⟨wpOp_mono (fun _a' _w' h => ⟨fun _ => h.1, wpOp_mono (fun _a' _w' h => ⟨fun _ => h.1, wpOp_mono (fun _a' _w' h => ⟨fun _ => h.1, h.2⟩) h.2⟩) h.2⟩) h1,
   wpOp_mono (fun _a' _w' h => ⟨fun _ => h.1, wpOp_mono (fun _a' _w' h => ⟨fun _ => h.1, wpOp_mono (fun _a' _w' h => ⟨fun _ => h.1, h.2⟩) h.2⟩) h.2.1, wpOp_mono (fun _a' _w' h => ⟨fun _ => h.1, wpOp_mono (fun _a' _w' h => ⟨fun _ => h.1, h.2⟩) h.2⟩) h.2.2⟩) h2⟩
theorem wpU_n {is : List Nat} {deps : List (Nat × List Nat)} (I : (Nat → Bool) → Act → World → Prop) (h0 : I (fun _ => false) a w) (hS : ∀ d a w, I d a w → S w)
    (ho : ∀ i ∈ is, ∀ d a w, d i = false → (∀ x ∈ depsOf deps i, d x = true) → I d a w → wpOp P l.toArray Q i (fun a' w' => I (fun j => decide (j = i) || d j) a' w') a w)
    (he : ∀ d a w, (∀ i ∈ is, d i = true) → I d a w → wpU P md l.toArray Q S r a w) : wpU P md l.toArray Q S (.n is deps true :: r) a w := ⟨I, h0, fun _ => hS, ho, he⟩
/-- The same where S is wanted behind both. -/
theorem wpU_fk {i j : Nat} (h1 : wpOp P l.toArray Q i (fun a' w' => S w' ∧ wpOp P l.toArray Q j (fun a' w' => S w' ∧ wpU P md l.toArray Q S r a' w') a' w') a w)
    (h2 : wpOp P l.toArray Q j (fun a' w' => S w' ∧ wpOp P l.toArray Q i (fun a' w' => S w' ∧ wpU P md l.toArray Q S r a' w') a' w') a w) : wpU P md l.toArray Q S (.f i j true :: r) a w :=
  ⟨wpOp_mono (fun _a' _w' h => ⟨fun _ => h.1, wpOp_mono (fun _a' _w' h => ⟨fun _ => h.1, h.2⟩) h.2⟩) h1,
   wpOp_mono (fun _a' _w' h => ⟨fun _ => h.1, wpOp_mono (fun _a' _w' h => ⟨fun _ => h.1, h.2⟩) h.2⟩) h2⟩
theorem wpU_e_skip (ho : l[i]? = some o) (hw : Region.wanted o (yielded l.toArray a.tmps) = false) (h : wpU P md l.toArray Q S r (a.put o.dst undef) w) : wpU P md l.toArray Q S (.e i false :: r) a w := by
  have ho : l.toArray[i]? = some o := by simpa using ho
  change wpOp P l.toArray Q i _ a w
  unfold wpOp
  simp only [ho, hw, Bool.false_eq_true, if_false]
  exact ⟨fun h => h.elim, h⟩
theorem wpU_k (ho : l[i]? = some o) (hw : Region.wanted o (yielded l.toArray a.tmps) = true) (h : ∀ K : Act → World → Prop, (∀ a' w', S w' ∧ wpU P md l.toArray Q S r a' w' → K a' w') → o.wp P a w K Q) : wpU P md l.toArray Q S (.e i true :: r) a w := by
  have ho : l.toArray[i]? = some o := by simpa using ho
  change wpOp P l.toArray Q i _ a w
  unfold wpOp
  simp only [ho, hw, if_true]
  exact .inl (h _ fun a' w' hh => ⟨fun _ => hh.1, hh.2⟩)
theorem wpU_k_skip (hS : S w) (ho : l[i]? = some o) (hw : Region.wanted o (yielded l.toArray a.tmps) = false) (h : wpU P md l.toArray Q S r (a.put o.dst undef) w) : wpU P md l.toArray Q S (.e i true :: r) a w := by
  have ho : l.toArray[i]? = some o := by simpa using ho
  change wpOp P l.toArray Q i _ a w
  unfold wpOp
  simp only [ho, hw, Bool.false_eq_true, if_false]
  exact ⟨fun _ => hS, h⟩
/-- A load of many cells. -/
theorem wpU_load_mid (hS : S w) (ho : l[i]? = some o) (hg : Region.wanted o (yielded l.toArray a.tmps) = true) (ty : TypeId) (x : Operand) (hop : o.op = .load ty x) (b off : Nat) (hx : a.eval x = .pointer (some ⟨b, off, none⟩)) (cs : List Value) (d : TypeDesc)
    (hc : ∀ W, S W → W.rangeAt b off cs) (hu : P.underlying ty = some d) (hd : d.isRow = true) (hi : (P.info? ty).map (·.size) = some cs.length) (h : wpU P md l.toArray Q S r (a.put o.dst (.agg cs.toArray)) w) : wpU P md l.toArray Q S (.s i :: r) a w :=
  wpU_s hS ho hg (fun W hW => by
    unfold execOp
    simp only [hop, hx, Instr.loadAt, Instr.sureAddr, Sem.run_bind, Sem.run_pure, Result.andThen_ok, run_loadVar_mid W b off ty cs d (hc W hW) hu hd hi]) h
theorem wpU_done (h : Q .normal a w) : wpU P md l.toArray Q S [] a w := h
end
end
end Alm
-- A show put together, in any order.
open Go Go.RowKit Alm
namespace Go.Proofs.Ytfmgoehnbaiamaa
set_option maxRecDepth 100000 in
theorem build_sh (b0 b1 b2 b3 b4 b5 b6 b7 b8 b9 b10 b11 b12 b13 b14 b15 b16 b17 b18 b19 b20 b21 b22 b23 b24 b25 b26 b27 b28 b29 b30 b31 : UInt8) (a : Option Addr) (n c : Nat) (w : World) : (Instr.build 59 #[(0, .agg #[.int .u8 ((b0.toNat : Nat) : Int), .int .u8 ((b1.toNat : Nat) : Int), .int .u8 ((b2.toNat : Nat) : Int), .int .u8 ((b3.toNat : Nat) : Int), .int .u8 ((b4.toNat : Nat) : Int), .int .u8 ((b5.toNat : Nat) : Int), .int .u8 ((b6.toNat : Nat) : Int), .int .u8 ((b7.toNat : Nat) : Int), .int .u8 ((b8.toNat : Nat) : Int), .int .u8 ((b9.toNat : Nat) : Int), .int .u8 ((b10.toNat : Nat) : Int), .int .u8 ((b11.toNat : Nat) : Int), .int .u8 ((b12.toNat : Nat) : Int), .int .u8 ((b13.toNat : Nat) : Int), .int .u8 ((b14.toNat : Nat) : Int), .int .u8 ((b15.toNat : Nat) : Int), .int .u8 ((b16.toNat : Nat) : Int), .int .u8 ((b17.toNat : Nat) : Int), .int .u8 ((b18.toNat : Nat) : Int), .int .u8 ((b19.toNat : Nat) : Int), .int .u8 ((b20.toNat : Nat) : Int), .int .u8 ((b21.toNat : Nat) : Int), .int .u8 ((b22.toNat : Nat) : Int), .int .u8 ((b23.toNat : Nat) : Int), .int .u8 ((b24.toNat : Nat) : Int), .int .u8 ((b25.toNat : Nat) : Int), .int .u8 ((b26.toNat : Nat) : Int), .int .u8 ((b27.toNat : Nat) : Int), .int .u8 ((b28.toNat : Nat) : Int), .int .u8 ((b29.toNat : Nat) : Int), .int .u8 ((b30.toNat : Nat) : Int), .int .u8 ((b31.toNat : Nat) : Int)]), (1, .slice a n c)]).run Try.prog w = .ok (.agg #[.int .u8 ((b0.toNat : Nat) : Int), .int .u8 ((b1.toNat : Nat) : Int), .int .u8 ((b2.toNat : Nat) : Int), .int .u8 ((b3.toNat : Nat) : Int), .int .u8 ((b4.toNat : Nat) : Int), .int .u8 ((b5.toNat : Nat) : Int), .int .u8 ((b6.toNat : Nat) : Int), .int .u8 ((b7.toNat : Nat) : Int), .int .u8 ((b8.toNat : Nat) : Int), .int .u8 ((b9.toNat : Nat) : Int), .int .u8 ((b10.toNat : Nat) : Int), .int .u8 ((b11.toNat : Nat) : Int), .int .u8 ((b12.toNat : Nat) : Int), .int .u8 ((b13.toNat : Nat) : Int), .int .u8 ((b14.toNat : Nat) : Int), .int .u8 ((b15.toNat : Nat) : Int), .int .u8 ((b16.toNat : Nat) : Int), .int .u8 ((b17.toNat : Nat) : Int), .int .u8 ((b18.toNat : Nat) : Int), .int .u8 ((b19.toNat : Nat) : Int), .int .u8 ((b20.toNat : Nat) : Int), .int .u8 ((b21.toNat : Nat) : Int), .int .u8 ((b22.toNat : Nat) : Int), .int .u8 ((b23.toNat : Nat) : Int), .int .u8 ((b24.toNat : Nat) : Int), .int .u8 ((b25.toNat : Nat) : Int), .int .u8 ((b26.toNat : Nat) : Int), .int .u8 ((b27.toNat : Nat) : Int), .int .u8 ((b28.toNat : Nat) : Int), .int .u8 ((b29.toNat : Nat) : Int), .int .u8 ((b30.toNat : Nat) : Int), .int .u8 ((b31.toNat : Nat) : Int), .slice a n c]) w := by kernel_rfl
theorem build_show (which : Sum) (ad : Option Addr) (n c : Nat) (w : World) : (Instr.build 59 #[(0, sv which), (1, .slice ad n c)]).run Try.prog w = .ok (shV which (.slice ad n c)) w := by
  obtain ⟨b0, b1, b2, b3, b4, b5, b6, b7, b8, b9, b10, b11, b12, b13, b14, b15, b16, b17, b18, b19, b20, b21, b22, b23, b24, b25, b26, b27, b28, b29, b30, b31, h⟩ := list32x which.toList (by simp)
  have h1 : cellsOf which = [.int .u8 ((b0.toNat : Nat) : Int), .int .u8 ((b1.toNat : Nat) : Int), .int .u8 ((b2.toNat : Nat) : Int), .int .u8 ((b3.toNat : Nat) : Int), .int .u8 ((b4.toNat : Nat) : Int), .int .u8 ((b5.toNat : Nat) : Int), .int .u8 ((b6.toNat : Nat) : Int), .int .u8 ((b7.toNat : Nat) : Int), .int .u8 ((b8.toNat : Nat) : Int), .int .u8 ((b9.toNat : Nat) : Int), .int .u8 ((b10.toNat : Nat) : Int), .int .u8 ((b11.toNat : Nat) : Int), .int .u8 ((b12.toNat : Nat) : Int), .int .u8 ((b13.toNat : Nat) : Int), .int .u8 ((b14.toNat : Nat) : Int), .int .u8 ((b15.toNat : Nat) : Int), .int .u8 ((b16.toNat : Nat) : Int), .int .u8 ((b17.toNat : Nat) : Int), .int .u8 ((b18.toNat : Nat) : Int), .int .u8 ((b19.toNat : Nat) : Int), .int .u8 ((b20.toNat : Nat) : Int), .int .u8 ((b21.toNat : Nat) : Int), .int .u8 ((b22.toNat : Nat) : Int), .int .u8 ((b23.toNat : Nat) : Int), .int .u8 ((b24.toNat : Nat) : Int), .int .u8 ((b25.toNat : Nat) : Int), .int .u8 ((b26.toNat : Nat) : Int), .int .u8 ((b27.toNat : Nat) : Int), .int .u8 ((b28.toNat : Nat) : Int), .int .u8 ((b29.toNat : Nat) : Int), .int .u8 ((b30.toNat : Nat) : Int), .int .u8 ((b31.toNat : Nat) : Int)] := by unfold cellsOf; rw [h]; rfl
  show (Instr.build 59 #[(0, .agg (cellsOf which).toArray), (1, .slice ad n c)]).run Try.prog w = .ok (.agg (cellsOf which ++ [Value.slice ad n c]).toArray) w
  rw [h1]
  exact build_sh b0 b1 b2 b3 b4 b5 b6 b7 b8 b9 b10 b11 b12 b13 b14 b15 b16 b17 b18 b19 b20 b21 b22 b23 b24 b25 b26 b27 b28 b29 b30 b31 _ _ _ w
theorem exec_build_show {f : Operand → Value} {o : Oper} (parts : Array (Nat × Operand)) (ho : o.op = .build 59 parts) (which : Sum) (ad : Option Addr) (n c : Nat) (hp : (parts.toList.map fun (i, y) => (i, f y)) = [(0, sv which), (1, .slice ad n c)]) (W : World) :
    (execOp f o).run Try.prog W = .ok (.value (shV which (.slice ad n c))) W := by
  have : (parts.map fun (i, y) => (i, f y)) = #[(0, sv which), (1, .slice ad n c)] := by
    apply Array.toList_inj.1
    rw [Array.toList_map]; exact hp
  unfold execOp
  simp only [ho, Sem.run_bind, Sem.run_pure, Result.andThen_ok, this, build_show which ad n c W]
theorem wp_store_show {op : Oper} {a : Act} {w : World} {K : Act → World → Prop} {Q : Exit → Act → World → Prop} (x y : Operand) (ho : op.op = .store 59 x y)
    (b o : Nat) (which : Sum) (v : Value) (hv : v.oneCell' = true) (hx : a.eval x = .pointer (some ⟨b, o, none⟩)) (hy : a.eval y = shV which v) (ht : w.there b o 33) (h : K (a.put op.dst undef) (w.setCells b o (cellsShow which v))) : op.wp Try.prog a w K Q := by
  have hsz : (cellsShow which v).toArray.size = 33 := by rw [List.size_toArray, length_cellsShow]
  exact wp_store_mid _ x y ho b o _ hx hy (by rw [hsz]; exact ht) (by rw [hsz]; exact infoShow) (one_cellsShow which hv) h
theorem own_one {w : World} {base : Nat} {e : TypeId} {size : Nat} {v : Value} {n : Nat} {xs : List Value} (h : w.ownsRow base e size v n xs) : v.oneCell' = true := by
  rcases h.2 with ⟨rfl, _⟩ | ⟨g, cap, cur, rfl, _⟩ <;> rfl
/-- append(nil, s...) of sums. -/
theorem wp_app_nil_sums {w : World} {o : Oper} {a : Act} {K : Act → World → Prop} {Q : Exit → Act → World → Prop} (s x : Operand)
    (ho : o.op = .call { callee := .builtin .append, args := #[s, x], argTypes := #[57, 57] }) (hs : a.eval s = .slice none 0 0) (v : Value) (S : List Sum) (hx : a.eval x = v) (hv : SumsAt w v S) (hl : S.length < 4000000000) (base : Nat) (hB : base ≤ w.heap.size)
    (h : ∀ (v' : Value) (w' : World), w'.ownsRow base 29 32 v' S.length (cellsAll S) → Below w.heap.size w w' → (∀ g, v'.ownBlock = some g → g = w.heap.size) → K (a.put o.dst v') w') : o.wp Try.prog a w K Q := by
  obtain ⟨i0, z0, hi0, _, _, _, _⟩ := info_sum
  obtain ⟨ad, cap, rfl, h1, h2, h3⟩ := hv
  by_cases hb : S = []
  · subst hb
    have hrun : (Builtin.append_ #[57, 57] o.type #[.slice none 0 0, .slice ad 0 cap]).run Try.prog w = .ok (.slice none 0 0) w := by
      cases ad <;> simp [Builtin.append_, run_underlying Try.underlying57, sizeOf, typeInfo, hi0, Builtin.lenOf, Builtin.firstCells, loadCells, loadCellsFrom]
    unfold Oper.wp
    simp [execOp, ho, resolve, invoke, builtin, hs, hx, hrun, Result.andThen]
    exact h _ w (World.ownsRow_nil _ _ _ _) (Below.refl _ _) (fun g hg => by cases hg)
  · obtain ⟨b, off, rfl, hr⟩ := h3.resolve_left hb
    refine wp_append_sums s x ho base (.slice none 0 0) [] S 0 S.length rfl rfl hs (World.ownsRow_nil _ _ _ _) b off cap hx hr (List.length_pos_iff.2 hb) (by omega) hB ?_
    intro g' cap' w' ho' hg' hat _
    rw [Nat.zero_add, List.nil_append] at ho'
    rw [Nat.zero_add]
    refine h _ w' ho' (Keeps.below (B := w.heap.size) (Keeps.of_grown (X := fun _ => False) hg' (fun k hk => by cases hk)) (Nat.le_refl _) (fun _ h => h.elim)) (fun q hq => ?_)
    simp only [Value.ownBlock, Option.some.injEq] at hq
    rw [← hq]
    rcases hat with h | h
    · cases h
    · exact h
def pt (b : Bool) (a : Act) (t : Nat) (x : Value) : Act := if b = true then a.put (some t) x else a
/-- What stands while a show is put together. -/
structure CI (V W : World) (S : List Sum) (mo : Sum) (d4 d6 d7 d9 : Bool) (x4 x6 x7 x9 : Value) : Prop where
  bw : Below V.heap.size V W
  i4 : d4 = true → d7 = false → W.ownsRow V.heap.size 29 32 x4 S.length (cellsAll S)
  i6 : d6 = true → d7 = false → ∃ g, x6 = .slice (some ⟨g, 0, none⟩) 1 1 ∧ W.rangeAt g 0 (cellsOf mo)
  i7 : d7 = true → W.ownsRow V.heap.size 29 32 x7 (S.length + 1) (cellsAll (S ++ [mo]))
  i9 : d9 = true → ∃ g, x9 = .pointer (some ⟨g, 0, none⟩) ∧ W.there g 0 33 ∧ V.heap.size ≤ g ∧ (d4 = true → d7 = false → ∀ k, x4.ownBlock = some k → k ≠ g) ∧ (d7 = true → ∀ k, x7.ownBlock = some k → k ≠ g)
theorem CI.t4 {V W W' : World} {S : List Sum} {mo : Sum} {d6 d7 d9 : Bool} {x4 x6 x7 x9 v : Value} (h : CI V W S mo false d6 d7 d9 x4 x6 x7 x9) (ho : W'.ownsRow V.heap.size 29 32 v S.length (cellsAll S)) (hb : Below W.heap.size W W') (hg : ∀ g, v.ownBlock = some g → g = W.heap.size) : CI V W' S mo true d6 d7 d9 v x6 x7 x9 :=
  have kk := Keeps.of_below (X := fun _ => False) hb
  ⟨h.bw.trans (hb.mono h.bw.size), fun _ _ => ho, fun h1 h2 => by obtain ⟨g, e, r⟩ := h.i6 h1 h2; exact ⟨g, e, kk.range r (fun h => h)⟩, fun h1 => kk.owns (h.i7 h1) (fun _ _ h => h), fun h1 => by
    obtain ⟨g, e, t, l, _, r⟩ := h.i9 h1
    exact ⟨g, e, kk.there t (by decide) (fun h => h), l, fun _ _ k hk => by have := hg k hk; have := there_lt t (by decide); omega, r⟩⟩
theorem CI.t6 {V W W' : World} {S : List Sum} {mo : Sum} {d4 d7 d9 : Bool} {x4 x6 x7 x9 : Value} (h : CI V W S mo d4 false d7 d9 x4 x6 x7 x9) (hb : Below W.heap.size W W') {g : Nat} (hr : W'.rangeAt g 0 (cellsOf mo)) : CI V W' S mo d4 true d7 d9 x4 (.slice (some ⟨g, 0, none⟩) 1 1) x7 x9 :=
  have kk := Keeps.of_below (X := fun _ => False) hb
  ⟨h.bw.trans (hb.mono h.bw.size), fun h1 h2 => kk.owns (h.i4 h1 h2) (fun _ _ h => h), fun _ _ => ⟨g, rfl, hr⟩, fun h1 => kk.owns (h.i7 h1) (fun _ _ h => h), fun h1 => by
    obtain ⟨g, e, t, l, q, r⟩ := h.i9 h1
    exact ⟨g, e, kk.there t (by decide) (fun h => h), l, q, r⟩⟩
theorem CI.t9 {V W : World} {S : List Sum} {mo : Sum} {d4 d6 d7 : Bool} {x4 x6 x7 x9 : Value} (h : CI V W S mo d4 d6 d7 false x4 x6 x7 x9) {C : Array Value} {t : TypeId} (hC : C.size = 33) : CI V (W.alloc (.cells C t)) S mo d4 d6 d7 true x4 x6 x7 (.pointer (some ⟨W.heap.size, 0, none⟩)) :=
  have hb : Below W.heap.size W (W.alloc (.cells C t)) := al (Below.refl _ _) _
  have kk := Keeps.of_below (X := fun _ => False) hb
  ⟨h.bw.trans (hb.mono h.bw.size), fun h1 h2 => kk.owns (h.i4 h1 h2) (fun _ _ h => h), fun h1 h2 => by obtain ⟨g, e, r⟩ := h.i6 h1 h2; exact ⟨g, e, kk.range r (fun h => h)⟩, fun h1 => kk.owns (h.i7 h1) (fun _ _ h => h), fun _ =>
    ⟨W.heap.size, rfl, by rw [← hC]; exact there_new _ _ _, h.bw.size, fun h1 h2 k hk => by have := own_lt (h.i4 h1 h2) hk; omega, fun h1 k hk => by have := own_lt (h.i7 h1) hk; omega⟩⟩
theorem CI.t7 {V W W' : World} {S : List Sum} {mo : Sum} {d9 : Bool} {x4 x6 x7 x9 : Value} {g cap : Nat} (h : CI V W S mo true true false d9 x4 x6 x7 x9) (ho : W'.ownsRow V.heap.size 29 32 (.slice (some ⟨g, 0, none⟩) (S.length + 1) cap) (S.length + 1) (cellsAll (S ++ [mo]))) (hg : W.grownBy W' x4.ownBlock) (hat : x4.ownBlock = some g ∨ g = W.heap.size) : CI V W' S mo true true true d9 x4 x6 (.slice (some ⟨g, 0, none⟩) (S.length + 1) cap) x9 :=
  have kk := Keeps.of_grown (X := fun i => x4.ownBlock = some i) hg (fun k hk => hk)
  ⟨h.bw.trans (kk.below h.bw.size (fun i hi => own_base (h.i4 rfl rfl) i hi)), fun _ h => (by cases h), fun _ h => (by cases h), fun _ => ho, fun h1 => by
    obtain ⟨q, e, t, l, q4, _⟩ := h.i9 h1
    refine ⟨q, e, kk.there t (by decide) (fun hx => q4 rfl rfl q hx rfl), l, fun _ h => (by cases h), fun _ k hk => ?_⟩
    simp only [Value.ownBlock, Option.some.injEq] at hk
    rw [← hk]
    rcases hat with h | h
    · exact q4 rfl rfl g h
    · have := there_lt t (by decide)
      omega⟩
def FI (V : World) (S : List Sum) (mo which : Sum) (a0 : Act) (b4 b6 b7 b8 b9 : Bool) (a' : Act) (W : World) : Prop :=
  ∃ x4 x6 x7 x8 x9, a' = pt b9 (pt b8 (pt b7 (pt b6 (pt b4 a0 44 x4) 46 x6) 47 x7) 48 x8) 13 x9 ∧ CI V W S mo b4 b6 b7 b9 x4 x6 x7 x9 ∧ (b8 = true → b7 = true ∧ x8 = shV which x7)
theorem wp_build_show {op : Oper} {a : Act} {w : World} {K : Act → World → Prop} {Q : Exit → Act → World → Prop} (parts : Array (Nat × Operand)) (ho : op.op = .build 59 parts) (which : Sum) (ad : Option Addr) (n c : Nat) (hp : (parts.toList.map fun (i, y) => (i, a.eval y)) = [(0, sv which), (1, .slice ad n c)])
    (h : K (a.put op.dst (shV which (.slice ad n c))) w) : op.wp Try.prog a w K Q := by
  have hr := exec_build_show (f := a.eval) parts ho which ad n c hp w
  unfold Oper.wp
  rw [hr]
  exact h
theorem alloc_show (w : World) : (Instr.alloc 59 true (.tuple #[])).run Try.prog w = .ok (.pointer (some ⟨w.heap.size, 0, none⟩)) (w.alloc (.cells (cellsShow zeroSum (.slice none 0 0)).toArray 59)) := by kernel_rfl
theorem wp_alloc_show {op : Oper} {a : Act} {w : World} {K : Act → World → Prop} {Q : Exit → Act → World → Prop} (ho : op.op = .alloc 59)
    (h : K (a.put op.dst (.pointer (some ⟨w.heap.size, 0, none⟩))) (w.alloc (.cells (cellsShow zeroSum (.slice none 0 0)).toArray 59))) : op.wp Try.prog a w K Q := by
  unfold Oper.wp
  simp only [execOp, ho, Sem.run_bind, Sem.run_pure, alloc_show, Result.andThen]
  exact h
theorem fork8 {md : Region.Mode} {SS : World → Prop} {l : List Oper} {Q : Exit → Act → World → Prop} {r : List MvU} {a : Act} {V : World} (S : List Sum) (mo which : Sum) (hV : ∀ W, Below V.heap.size V W → SS W)
    (h4 : ∀ b6 b7 b8 b9 a' W, FI V S mo which a false b6 b7 b8 b9 a' W → wpOp Try.prog l.toArray Q 4 (FI V S mo which a true b6 b7 b8 b9) a' W)
    (h6 : ∀ b4 b7 b8 b9 a' W, FI V S mo which a b4 false b7 b8 b9 a' W → wpOp Try.prog l.toArray Q 6 (FI V S mo which a b4 true b7 b8 b9) a' W)
    (h7 : ∀ b8 b9 a' W, FI V S mo which a true true false b8 b9 a' W → wpOp Try.prog l.toArray Q 7 (FI V S mo which a true true true b8 b9) a' W)
    (h8 : ∀ b9 a' W, FI V S mo which a true true true false b9 a' W → wpOp Try.prog l.toArray Q 8 (FI V S mo which a true true true true b9) a' W)
    (h9 : ∀ b4 b6 b7 b8 a' W, FI V S mo which a b4 b6 b7 b8 false a' W → wpOp Try.prog l.toArray Q 9 (FI V S mo which a b4 b6 b7 b8 true) a' W)
    (he : ∀ a' W, FI V S mo which a true true true true true a' W → wpU Try.prog md l.toArray Q SS r a' W) : wpU Try.prog md l.toArray Q SS (.n [4, 6, 7, 8, 9] [(7, [4, 6]), (8, [4, 6, 7])] true :: r) a V := by
  refine wpU_n (fun d a' W => FI V S mo which a (d 4) (d 6) (d 7) (d 8) (d 9) a' W) ⟨undef, undef, undef, undef, undef, rfl, ⟨Below.refl _ _, fun h => (by cases h), fun h => (by cases h), fun h => (by cases h), fun h => (by cases h)⟩, fun h => (by cases h)⟩ (fun d a w h => ?_) (fun i hi d a' W hd hx h => ?_) (fun d a' W hd h => ?_)
  · obtain ⟨_, _, _, _, _, _, hc, _⟩ := h
    exact hV _ hc.bw
  · simp only [List.mem_cons, List.not_mem_nil, or_false] at hi
    rcases hi with rfl | rfl | rfl | rfl | rfl
    · rw [hd] at h
      exact h4 _ _ _ _ _ _ h
    · rw [hd] at h
      exact h6 _ _ _ _ _ _ h
    · have e4 : d 4 = true := hx 4 (by decide)
      have e6 : d 6 = true := hx 6 (by decide)
      rw [hd, e4, e6] at h
      have := h7 _ _ _ _ h
      show wpOp _ _ _ _ (fun a' w' => FI V S mo which a (d 4) (d 6) true (d 8) (d 9) a' w') _ _
      rw [e4, e6]
      exact this
    · have e4 : d 4 = true := hx 4 (by decide)
      have e6 : d 6 = true := hx 6 (by decide)
      have e7 : d 7 = true := hx 7 (by decide)
      rw [hd, e4, e6, e7] at h
      have := h8 _ _ _ h
      show wpOp _ _ _ _ (fun a' w' => FI V S mo which a (d 4) (d 6) (d 7) true (d 9) a' w') _ _
      rw [e4, e6, e7]
      exact this
    · rw [hd] at h
      exact h9 _ _ _ _ _ _ h
  · rw [hd 4 (by simp), hd 6 (by simp), hd 7 (by simp), hd 8 (by simp), hd 9 (by simp)] at h
    exact he _ _ h
end Go.Proofs.Ytfmgoehnbaiamaa
-- Walk: ShowsCount.
namespace Go.Proofs.Ytfmgoehnbaiamaa
theorem get_len {l : List Keys.Pr} (h : Full l) (k : Sum) : (Keys.get l k).length ≤ 256 := by
  unfold Keys.get
  split
  · rename_i p hp
    exact (h p (List.mem_of_find?_eq_some hp)).2
  · simp
theorem wpU_load_sum {md : Region.Mode} {S : World → Prop} {ops : List Oper} {Q : Exit → Act → World → Prop} {r : List MvU} {a : Act} {w : World} {o : Oper} {i : Nat} (hS : S w) (ho : ops[i]? = some o) (hg : Region.wanted o (yielded ops.toArray a.tmps) = true) (x : Operand) (hop : o.op = .load 29 x) (b off : Nat) (hx : a.eval x = .pointer (some ⟨b, off, none⟩)) (s : Sum)
    (hc : ∀ W, S W → W.rangeAt b off (cellsOf s)) (h : wpU Try.prog md ops.toArray Q S r (a.put o.dst (sv s)) w) : wpU Try.prog md ops.toArray Q S (.s i :: r) a w :=
  wpU_load_mid hS ho hg _ x hop b off hx (cellsOf s) _ hc Try.underlying29 rfl (by rw [length_cellsOf]; exact infoSum) h
set_option maxRecDepth 100000 in
set_option maxHeartbeats 4000000 in
theorem showsCount_any (P : List Keys.Pr) (v : Value) (k : Sum) (mo : Sum) (w : World) (hv : PairsAt w v P) : Calls Try.prog 11 #[v, sv k, sv mo] w fun e w' => e = .returned (.bool true) ∧ Below w.heap.size w w' := by
  have hs1 : (w.alloc (.cells (cellsOf k).toArray 29)).heap.size = w.heap.size + 1 := Array.size_push _
  have hb0 := al (al (Below.refl _ w) (.cells (cellsOf k).toArray 29)) (.cells (cellsOf mo).toArray 29)
  have r1 := World.rangeAt_alloc (range_new w (cellsOf k).toArray 29 _ rfl) (.cells (cellsOf mo).toArray 29)
  have r2 := range_new (w.alloc (.cells (cellsOf k).toArray 29)) (cellsOf mo).toArray 29 _ rfl
  rw [hs1] at r2
  obtain ⟨z, hz⟩ : ∃ z, z = w.heap.size := ⟨_, rfl⟩
  obtain ⟨zm, hzm⟩ : ∃ z, z = w.heap.size + 1 := ⟨_, rfl⟩
  rw [← hz] at r1
  rw [← hzm] at r2
  have H0 := Lib.hid (And.intro hb0 (And.intro (And.intro r1 r2) (hv.below hb0)))
  have HZ := Lib.hid (And.intro hz hzm)
  clear r1 r2 hz hzm hs1
  clear hb0
  obtain ⟨a, cap, rfl, h1, h2⟩ := pairs_form hv
  obtain ⟨N, hN⟩ : ∃ N, N = P.length := ⟨_, rfl⟩
  rw [← hN] at H0 h1
  rw [← hN]
  have HN := Lib.hid hN
  clear hv hN h2
  go_enter Try.func11, Try.ntmps11
  go_wp2_with fail
  rw [← HZ.out.2, ← HZ.out.1]
  generalize (w.alloc (.cells (cellsOf k).toArray 29)).alloc (.cells (cellsOf mo).toArray 29) = W0 at *
  refine (great16_any P _ W0 H0.out.2.2).mono ?_
  rintro e W1 ⟨r, rfl, hr, hb⟩
  have HB1 := Lib.hid (H0.out.1.trans (hb.mono H0.out.1.size))
  have HR1 := Lib.hid (And.intro ((Keeps.of_below (X := fun _ => False) hb).range H0.out.2.1.1 (fun h => h)) (And.intro ((Keeps.of_below (X := fun _ => False) hb).range H0.out.2.1.2 (fun h => h)) (H0.out.2.2.below hb)))
  clear hb H0 HZ
  cases r with
  | true =>
    clear hr HR1
    go_wp2_with fail
    refine (alive16_any W1).mono ?_
    rintro e W2 ⟨rfl, hb2⟩
    have HB2 := Lib.hid (HB1.out.trans (hb2.mono HB1.out.size))
    clear hb2
    go_wp2_with fail
    exact bodyPost_ret (results_tmp rfl _ _ _) rfl ⟨rfl, HB2.out⟩
  | false =>
    have HP := Lib.hid (hr rfl)
    clear hr
    go_wp2_with fail
    refine (of16_any P _ W1 HR1.out.2.2 (by have := HP.out; omega)).mono ?_
    rintro e W2 ⟨p, b, l, x, rfl, hm, hp, _, hbb, _, hb⟩
    rw [← HN.out] at hm
    have H2 := Lib.hid (show LW w W2 p b N l [(z, k), (zm, mo)] [] [] from ⟨HB1.out.trans (hb.mono HB1.out.size), hm, by have := HB1.out.size; omega, fun q hq => by
      rcases List.mem_cons.1 hq with rfl | hq
      · exact (Keeps.of_below (X := fun _ => False) hb).range HR1.out.1 (fun h => h)
      · rw [List.mem_singleton.1 hq]; exact (Keeps.of_below (X := fun _ => False) hb).range HR1.out.2.1 (fun h => h), by simp, by simp⟩)
    have hl := puts_few hp HP.out
    have HL := Lib.hid (And.intro hp (And.intro hl (sides_few k hp HP.out)))
    clear hm hp hb HB1 HR1 hl hbb
    go_wp2_with (refine wpList_load_sum rfl _ rfl z 0 rfl k (H2.out.r (z, k) (by simp)) ?_)
    refine (mget_any k W2 p b N l H2.out.map).mono ?_
    rintro e W3 ⟨v3, rfl, hN3, hb⟩
    obtain ⟨bs3, hbs3⟩ : ∃ x, x = Keys.get (prs l) k := ⟨_, rfl⟩
    rw [← hbs3] at hN3
    have H3 := Lib.hid ((H2.out.below hb).addY hN3.1)
    have HBS := Lib.hid hbs3
    have hbl : bs3.length ≤ 256 := by
      rw [hbs3]
      exact get_len (vals_full H2.out.map) k
    have HBL := Lib.hid hbl
    clear hb hN3 H2 hbs3 hbl
    go_wp2_with (refine wpList_load_sum rfl _ rfl z 0 rfl k (H3.out.r (z, k) (by simp)) ?_)
    refine (sof_any k W3 p b N l H3.out.map (by have := HL.out.2.1; omega)).mono ?_
    rintro e W4 ⟨which, vS, rfl, hS4, hB4, hb⟩
    obtain ⟨S, hS⟩ : ∃ S, S = sidesOf (tells k 256 (prs l)) := ⟨_, rfl⟩
    have hcn := cnt_sides hB4
    have hsf := HL.out.2.2
    rw [← hS] at hcn hsf
    have hsm := hS4.sums
    rw [← hS] at hsm
    have HBT := Lib.hid (And.intro hS hB4)
    obtain ⟨aS, cS, rfl, hf1, hf2⟩ := sums_form hsm
    obtain ⟨M, hM⟩ : ∃ M, M = S.length := ⟨_, rfl⟩
    rw [← hM] at hcn hsf hf1 hsm
    rw [← hM]
    have H4 := Lib.hid (And.intro (H3.out.below hb) hsm)
    have HK := Lib.hid (And.intro hcn (And.intro hM (And.intro hsf hf2)))
    clear hS4 hB4 hb hcn hS hM H3 hsf hsm hf2
    have k1 : (M : Int) ≤ (cS : Int) := by omega
    have HG := Lib.hid trivial
    go_wp2_with (have _ := HG; refine wpList_var_show (by rfl) rfl _ _ rfl which (.slice aS M cS) (by rfl) rfl rfl ?_; intro W5 hb hr; obtain ⟨z9, hz9⟩ : ∃ x, x = W4.heap.size := ⟨_, rfl⟩; rw [← hz9] at hr ⊢; have H5 := Lib.hid ((H4.out.1.below hb).addS hr (H4.out.2.below hb (Nat.le_refl _))); clear HG hb hr hz9 H4)
    refine wp_region_schedU (fun V => LW w V p b N l [(z, k), (zm, mo)] [(v3, bs3)] [(z9, which, .slice aS M cS, S)]) [.t 0, .t 2, .s 1, .s 3, .s 5, .n [4, 6, 7, 8, 9] [(7, [4, 6]), (8, [4, 6, 7])] true, .e 10 false] (by kernel_rfl) (by kernel_rfl) (by intro c a d v w h; cases d <;> exact h) ?_
    have HS := Lib.hid (H5.out.below (Below.refl _ _).drew)
    clear H5
    generalize W5.drew = V at *
    iterate 2
      refine wpU_t rfl (v := ?_) (by rfl) (fun W => ?_) ?_
      rotate_left
      · go_simp
        try rfl
      try simp only [Act.put, List.setIfInBounds_toArray, List.set_cons_zero, List.set_cons_succ]
    refine wpU_load_sum (by exact HS.out) rfl (by rfl) _ (by rfl) z9 0 (by rfl) which (fun W hW => which_show (hW.s (z9, which, .slice aS M cS, S) (by simp)).1) ?_
    try simp only [Act.put, List.setIfInBounds_toArray, List.set_cons_zero, List.set_cons_succ]
    refine wpU_s (by exact HS.out) rfl (v := .slice aS M cS) (by rfl) (fun W hW => ?_) ?_
    · have g := cell_show (hW.s (z9, which, .slice aS M cS, S) (by simp)).1
      go_simp
    try simp only [Act.put, List.setIfInBounds_toArray, List.set_cons_zero, List.set_cons_succ]
    refine wpU_load_sum (by exact HS.out) rfl (by rfl) _ (by rfl) zm 0 (by rfl) mo (fun W hW => hW.r (zm, mo) (by simp)) ?_
    try simp only [Act.put, List.setIfInBounds_toArray, List.set_cons_zero, List.set_cons_succ]
    refine fork8 S mo which (fun W hb => HS.out.below hb) ?_ ?_ ?_ ?_ ?_ ?_
    · rintro b6 b7 b8 b9 a' W ⟨x4, x6, x7, x8, x9, rfl, hC, h8⟩
      cases b6 <;> cases b7 <;> cases b8 <;> cases b9 <;>
        (refine wpOp_of rfl (by rfl) (fun K hK => ?_)
         refine wp_app_nil_sums _ _ (by rfl) (by rfl) (.slice aS M cS) S (by rfl) ((HS.out.below hC.bw).s (z9, which, .slice aS M cS, S) (by simp)).2 (by have := HK.out; omega) V.heap.size hC.bw.size ?_
         intro v' w' ho hb hg
         exact hK _ _ ⟨v', x6, x7, x8, x9, by rfl, hC.t4 ho hb hg, h8⟩)
    · rintro b4 b7 b8 b9 a' W ⟨x4, x6, x7, x8, x9, rfl, hC, h8⟩
      cases b4 <;> cases b7 <;> cases b8 <;> cases b9 <;>
        (refine wpOp_of rfl (by rfl) (fun K hK => ?_)
         refine wp_build_sums 1 _ (by rfl) [mo] rfl (by omega) (by omega) (by rfl) ?_
         have hr : (W.alloc (.cells (cellsAll [mo]).toArray 29)).rangeAt W.heap.size 0 (cellsOf mo) := fun j u hj => range_new W (cellsAll [mo]).toArray 29 _ rfl j u (by rw [cellsAll_one]; exact hj)
         exact hK _ _ ⟨x4, _, x7, x8, x9, by rfl, hC.t6 (al (Below.refl _ W) _) hr, h8⟩)
    · rintro b8 b9 a' W ⟨x4, x6, x7, x8, x9, rfl, hC, h8⟩
      obtain ⟨g6, rfl, hr6⟩ := hC.i6 rfl rfl
      cases b8 <;> cases b9 <;>
        (refine wpOp_of rfl (by rfl) (fun K hK => ?_)
         refine wp_append_sums _ _ (by rfl) V.heap.size x4 S [mo] S.length 1 rfl rfl (by rfl) (hC.i4 rfl rfl) g6 0 1 (by rfl) (by rw [cellsAll_one]; exact hr6) (by omega) (by have := HK.out; omega) hC.bw.size ?_
         intro g cap w' ho hg hat _
         exact hK _ _ ⟨x4, _, _, x8, x9, by rfl, hC.t7 ho hg hat, fun h => by cases (h8 h).1⟩)
    · rintro b9 a' W ⟨x4, x6, x7, x8, x9, rfl, hC, h8⟩
      rcases (hC.i7 rfl).2 with ⟨_, h⟩ | ⟨g7, c7, cur, rfl, _⟩
      · omega
      cases b9 <;>
        (refine wpOp_of rfl (by rfl) (fun K hK => ?_)
         refine wp_build_show _ (by rfl) which (some ⟨g7, 0, none⟩) (S.length + 1) c7 (by rfl) ?_
         exact hK _ _ ⟨x4, x6, _, _, x9, by rfl, hC, fun _ => ⟨rfl, rfl⟩⟩)
    · rintro b4 b6 b7 b8 a' W ⟨x4, x6, x7, x8, x9, rfl, hC, h8⟩
      cases b4 <;> cases b6 <;> cases b7 <;> cases b8 <;>
        (refine wpOp_of rfl (by rfl) (fun K hK => ?_)
         refine wp_alloc_show (by rfl) ?_
         exact hK _ _ ⟨x4, x6, x7, x8, _, by rfl, hC.t9 (by rw [List.size_toArray, length_cellsShow]), h8⟩)
    · rintro a' W ⟨x4, x6, x7, x8, x9, rfl, hC, h8⟩
      obtain ⟨_, rfl⟩ := h8 rfl
      have ho7 := hC.i7 rfl
      obtain ⟨gX, rfl, ht, hge, _, hne⟩ := hC.i9 rfl
      have hne := hne rfl
      have hsm7 := sums_own (l := S ++ [mo]) (by rw [List.length_append, List.length_singleton]; exact ho7)
      rcases ho7.2 with ⟨_, h⟩ | ⟨g7, c7, cur, rfl, _⟩
      · omega
      rw [← HK.out.2.1] at hsm7 hC hne ho7 ⊢
      have hgn : g7 ≠ gX := hne g7 rfl
      have HF := Lib.hid (And.intro (HS.out.below hC.bw) (And.intro hsm7 (And.intro ht (And.intro hge (And.intro hgn hC.bw)))))
      clear hC ho7 hne hsm7 ht hge hgn
      simp only [pt, if_true]
      try simp only [Act.put, List.setIfInBounds_toArray, List.set_cons_zero, List.set_cons_succ]
      refine wpU_e rfl (by rfl) (fun K hK => ?_)
      refine wp_store_show _ _ (by rfl) gX 0 which (.slice (some ⟨g7, 0, none⟩) (M + 1) c7) (by rfl) (by rfl) (by rfl) HF.out.2.2.1 ?_
      have kk := keeps_setCells_ gX (cellsShow which (.slice (some ⟨g7, 0, none⟩) (M + 1) c7)) 0 W
      have hbv : Below V.heap.size V (W.setCells gX 0 (cellsShow which (.slice (some ⟨g7, 0, none⟩) (M + 1) c7))) := HF.out.2.2.2.2.2.trans (kk.below HF.out.2.2.2.2.2.size (fun i hi => by rw [hi]; exact HF.out.2.2.2.1))
      have hr := range_stored gX (cellsShow which (.slice (some ⟨g7, 0, none⟩) (M + 1) c7)) 0 W (by rw [length_cellsShow]; exact World.there_setCells HF.out.2.2.1 _ _ _)
      have hsm := kk.sums HF.out.2.1 (fun k hk => by
        simp only [Value.ownBlock, Option.some.injEq] at hk
        rw [← hk]; exact HF.out.2.2.2.2.1)
      have H8 := Lib.hid ((HS.out.below hbv).addS hr hsm)
      clear kk hbv hr hsm HF HS
      refine hK _ _ ?_; clear hK K
      try simp only [Act.put]
      change wpU _ _ _ _ _ _ _ (W.setCells gX 0 (cellsShow which (.slice (some ⟨g7, 0, none⟩) (M + 1) c7)))
      generalize W.setCells gX 0 (cellsShow which (.slice (some ⟨g7, 0, none⟩) (M + 1) c7)) = W9 at *
      refine wpU_done ?_
      have hck1 : checkOf (rootOf (prs l)) k bs3 which (S ++ [mo]) = false := by
        rw [Bool.eq_false_iff]
        intro h
        have h1 := check_count h
        have h2 := HK.out.1
        have h3 := HK.out.2.1
        simp at h1
        omega
      have HC1 := Lib.hid hck1
      clear hck1
      go_wp2_with fail
      refine wp_region_sched (fun V => LW w V p b N l [(z, k), (zm, mo)] [(v3, bs3)] [(gX, which, .slice (some ⟨g7, 0, none⟩) (M + 1) c7, S ++ [mo]), (z9, which, .slice aS M cS, S)]) [.t 0, .t 3, .s 2, .s 4, .e 1 true, .e 5 false] (by kernel_rfl) (by kernel_rfl) (by intro c a d v w h; cases d <;> exact h) ?_
      have HS := Lib.hid (H8.out.below (Below.refl _ _).drew)
      clear H8
      generalize W9.drew = V at *
      iterate 2
        refine wpS_t rfl (v := ?_) (by rfl) (fun W => ?_) ?_
        rotate_left
        · go_simp
          try rfl
        try simp only [Act.put, List.setIfInBounds_toArray, List.set_cons_zero, List.set_cons_succ]
      refine wpS_load_sum (by exact HS.out) rfl (by rfl) _ (by rfl) z 0 (by rfl) k (fun W hW => hW.r (z, k) (by simp)) ?_
      try simp only [Act.put, List.setIfInBounds_toArray, List.set_cons_zero, List.set_cons_succ]
      refine wpS_load_show (by exact HS.out) rfl (by rfl) _ (by rfl) gX 0 (by rfl) which (.slice (some ⟨g7, 0, none⟩) (M + 1) c7) (fun W hW => (hW.s (gX, which, .slice (some ⟨g7, 0, none⟩) (M + 1) c7, S ++ [mo]) (by simp)).1) ?_
      try simp only [Act.put, List.setIfInBounds_toArray, List.set_cons_zero, List.set_cons_succ]
      refine wpS_k rfl (by rfl) (fun K hK => ?_)
      go_simp
      refine (mroot_any V p b N l HS.out.map (by have := HL.out.2.1; omega)).mono ?_
      rintro e V2 ⟨rfl, hb⟩
      have HS2 := Lib.hid (HS.out.below hb)
      clear hb HS
      refine hK _ _ ⟨by exact HS2.out, ?_⟩; clear hK K
      try simp only [Act.put, List.setIfInBounds_toArray, List.set_cons_zero, List.set_cons_succ]
      refine wpS_e rfl (by rfl) (fun K hK => ?_)
      go_simp
      refine (scheck_any (rootOf (prs l)) k which v3 (.slice (some ⟨g7, 0, none⟩) (M + 1) c7) bs3 (S ++ [mo]) V2 (HS2.out.y (v3, bs3) (by simp)) (HS2.out.s (gX, which, .slice (some ⟨g7, 0, none⟩) (M + 1) c7, S ++ [mo]) (by simp)).2 (by have h1 := HK.out.2.1; have h2 := HK.out.2.2.1; simp; omega) (by have := HBL.out; omega)).mono ?_
      rw [HC1.out]
      rintro e V3 ⟨rfl, hb⟩
      have HS3 := Lib.hid (HS2.out.below hb)
      clear hb HS2 HC1
      refine hK _ _ ?_; clear hK K
      try simp only [Act.put, List.setIfInBounds_toArray, List.set_cons_zero, List.set_cons_succ]
      refine wpS_done ?_
      by_cases hM0 : M = 0
      · subst hM0
        go_wp2_with fail
        refine wp_region_sched (fun V => LW w V p b N l [(z, k), (zm, mo)] [(v3, bs3)] [(gX, which, .slice (some ⟨g7, 0, none⟩) (0 + 1) c7, S ++ [mo]), (z9, which, .slice aS 0 cS, S)]) [.e 0 true, .t 1, .t 2, .e 3 true, .t 4, .t 5, .t 6, .t 7, .t 10, .t 11, .t 13, .s 9, .s 12, .s 14, .t 15, .t 16, .e 8 true, .e 17 false, .t 18, .t 19, .t 20, .t 21] (by kernel_rfl) (by kernel_rfl) (by intro c a d v w h; cases d <;> exact h) ?_
        have HS4 := Lib.hid (HS3.out.below (Below.refl _ _).drew)
        clear HS3
        generalize V3.drew = V4 at *
        refine wpS_k rfl (by rfl) (fun K hK => ?_)
        go_simp
        refine (alive16_any V4).mono ?_
        rintro e V5 ⟨rfl, hb⟩
        have HS5 := Lib.hid (HS4.out.below hb)
        clear hb HS4
        refine hK _ _ ⟨by exact HS5.out, ?_⟩; clear hK K
        try simp only [Act.put, List.setIfInBounds_toArray, List.set_cons_zero, List.set_cons_succ]
        iterate 2
          refine wpS_t rfl (v := ?_) (by rfl) (fun W => ?_) ?_
          rotate_left
          · go_simp
            try rfl
          try simp only [Act.put, List.setIfInBounds_toArray, List.set_cons_zero, List.set_cons_succ]
        refine wpS_k rfl (by rfl) (fun K hK => ?_)
        have g := cell_show (HS5.out.s (z9, which, .slice aS 0 cS, S) (by simp)).1
        go_simp
        refine hK _ _ ⟨by exact HS5.out, ?_⟩; clear hK K
        try simp only [Act.put, List.setIfInBounds_toArray, List.set_cons_zero, List.set_cons_succ]
        clear g
        iterate 3
          refine wpS_t rfl (v := ?_) (by rfl) (fun W => ?_) ?_
          rotate_left
          · go_simp
            try rfl
          try simp only [Act.put, List.setIfInBounds_toArray, List.set_cons_zero, List.set_cons_succ]
        iterate 4
          refine wpS_t_skip rfl (by rfl) ?_
          try simp only [Act.put, List.setIfInBounds_toArray, List.set_cons_zero, List.set_cons_succ]
        iterate 3
          refine wpS_s_skip (by exact HS5.out) rfl (by rfl) ?_
          try simp only [Act.put, List.setIfInBounds_toArray, List.set_cons_zero, List.set_cons_succ]
        iterate 2
          refine wpS_t_skip rfl (by rfl) ?_
          try simp only [Act.put, List.setIfInBounds_toArray, List.set_cons_zero, List.set_cons_succ]
        refine wpS_k_skip (by exact HS5.out) rfl (by rfl) ?_
        try simp only [Act.put, List.setIfInBounds_toArray, List.set_cons_zero, List.set_cons_succ]
        refine wpS_e_skip rfl (by rfl) ?_
        try simp only [Act.put, List.setIfInBounds_toArray, List.set_cons_zero, List.set_cons_succ]
        iterate 1
          refine wpS_t_skip rfl (by rfl) ?_
          try simp only [Act.put, List.setIfInBounds_toArray, List.set_cons_zero, List.set_cons_succ]
        iterate 3
          refine wpS_t rfl (v := ?_) (by rfl) (fun W => ?_) ?_
          rotate_left
          · go_simp
            try rfl
          try simp only [Act.put, List.setIfInBounds_toArray, List.set_cons_zero, List.set_cons_succ]
        refine wpS_done ?_
        go_wp2_with fail
        exact bodyPost_ret (results_tmp rfl _ _ _) rfl ⟨rfl, HS5.out.bw⟩
      · have m1 : decide (M = 0) = false := by simpa using hM0
        have m1' : decide ((M : Int) = 0) = false := by simp; omega
        have m1'' : ((M : Int) == 0) = false := by rw [beq_eq_false_iff_ne]; omega
        obtain ⟨bS, oS, rfl⟩ : ∃ b o, aS = some ⟨b, o, none⟩ := by
          obtain ⟨a', c', he, _, _, h3⟩ := (HS3.out.s (z9, which, .slice aS M cS, S) (by simp)).2
          simp only [Value.slice.injEq] at he
          obtain ⟨rfl, -, -⟩ := he
          have hlen : M = S.length := HK.out.2.1
          obtain ⟨b', o', hb, _⟩ := h3.resolve_left (fun e => hM0 (by rw [hlen, show S = [] from e]; rfl))
          exact ⟨b', o', hb⟩
        have hck2 : checkOf (rootOf (prs l)) k bs3 which (S.drop 1) = false := by
          rw [Bool.eq_false_iff]
          intro h
          have h1 := check_count h
          have h2 := HK.out.1
          have h3 := HK.out.2.1
          simp at h1
          omega
        have HC2 := Lib.hid (And.intro hck2 hM0)
        have hM1 : (1 : Int) ≤ (M : Int) := by omega
        have hM1' : 1 ≤ M := by omega
        clear hck2 hM0
        go_wp2_with fail
        refine wp_region_sched (fun V => LW w V p b N l [(z, k), (zm, mo)] [(v3, bs3)] [(gX, which, .slice (some ⟨g7, 0, none⟩) (M + 1) c7, S ++ [mo]), (z9, which, .slice (some ⟨bS, oS, none⟩) M cS, S)]) [.e 0 true, .t 1, .t 2, .e 3 true, .t 4, .t 5, .t 6, .t 7, .t 10, .t 11, .t 13, .s 9, .s 12, .s 14, .t 15, .t 16, .e 8 true, .e 17 false, .t 18, .t 19, .t 20, .t 21] (by kernel_rfl) (by kernel_rfl) (by intro c a d v w h; cases d <;> exact h) ?_
        have HS4 := Lib.hid (HS3.out.below (Below.refl _ _).drew)
        clear HS3
        generalize V3.drew = V4 at *
        refine wpS_k rfl (by rfl) (fun K hK => ?_)
        go_simp
        refine (alive16_any V4).mono ?_
        rintro e V5 ⟨rfl, hb⟩
        have HS5 := Lib.hid (HS4.out.below hb)
        clear hb HS4
        refine hK _ _ ⟨by exact HS5.out, ?_⟩; clear hK K
        try simp only [Act.put, List.setIfInBounds_toArray, List.set_cons_zero, List.set_cons_succ]
        iterate 2
          refine wpS_t rfl (v := ?_) (by rfl) (fun W => ?_) ?_
          rotate_left
          · go_simp
            try rfl
          try simp only [Act.put, List.setIfInBounds_toArray, List.set_cons_zero, List.set_cons_succ]
        refine wpS_k rfl (by rfl) (fun K hK => ?_)
        have g := cell_show (HS5.out.s (z9, which, .slice (some ⟨bS, oS, none⟩) M cS, S) (by simp)).1
        go_simp
        refine hK _ _ ⟨by exact HS5.out, ?_⟩; clear hK K
        try simp only [Act.put, List.setIfInBounds_toArray, List.set_cons_zero, List.set_cons_succ]
        clear g
        iterate 7
          refine wpS_t rfl (v := ?_) (by rfl) (fun W => ?_) ?_
          rotate_left
          · go_simp
            try rfl
          try simp only [Act.put, List.setIfInBounds_toArray, List.set_cons_zero, List.set_cons_succ]
        refine wpS_load_sum (by exact HS5.out) rfl (by rfl) _ (by rfl) z 0 (by rfl) k (fun W hW => hW.r (z, k) (by simp)) ?_
        try simp only [Act.put, List.setIfInBounds_toArray, List.set_cons_zero, List.set_cons_succ]
        refine wpS_load_sum (by exact HS5.out) rfl (by rfl) _ (by rfl) z9 0 (by rfl) which (fun W hW => which_show (hW.s (z9, which, .slice (some ⟨bS, oS, none⟩) M cS, S) (by simp)).1) ?_
        try simp only [Act.put, List.setIfInBounds_toArray, List.set_cons_zero, List.set_cons_succ]
        refine wpS_s (by exact HS5.out) rfl (v := .slice (some ⟨bS, oS, none⟩) M cS) (by rfl) (fun W hW => ?_) ?_
        · have g := cell_show (hW.s (z9, which, .slice (some ⟨bS, oS, none⟩) M cS, S) (by simp)).1
          go_simp
        try simp only [Act.put, List.setIfInBounds_toArray, List.set_cons_zero, List.set_cons_succ]
        obtain ⟨o2, ho2⟩ : ∃ o2, o2 = if cS = 1 then oS else oS + 32 := ⟨_, rfl⟩
        have HO2 := Lib.hid ho2
        clear ho2
        refine wpS_t rfl (v := .slice (some ⟨bS, o2, none⟩) (M - 1) (cS - 1)) (by rfl) (fun W => ?_) ?_
        · have ho2 := HO2.out
          by_cases hc : cS = 1
          · rw [if_pos hc] at ho2
            subst ho2
            go_simp
            try rfl
          · rw [if_neg hc] at ho2
            subst ho2
            go_simp
            try rfl
        try simp only [Act.put, List.setIfInBounds_toArray, List.set_cons_zero, List.set_cons_succ]
        refine wpS_t rfl (v := shV which (.slice (some ⟨bS, o2, none⟩) (M - 1) (cS - 1))) (by rfl) (fun W => exec_build_show _ rfl which (some ⟨bS, o2, none⟩) (M - 1) (cS - 1) (by rfl) W) ?_
        try simp only [Act.put, List.setIfInBounds_toArray, List.set_cons_zero, List.set_cons_succ]
        refine wpS_k rfl (by rfl) (fun K hK => ?_)
        go_simp
        refine (mroot_any V5 p b N l HS5.out.map (by have := HL.out.2.1; omega)).mono ?_
        rintro e V6 ⟨rfl, hb⟩
        have HS6 := Lib.hid (HS5.out.below hb)
        clear hb HS5
        refine hK _ _ ⟨by exact HS6.out, ?_⟩; clear hK K
        try simp only [Act.put, List.setIfInBounds_toArray, List.set_cons_zero, List.set_cons_succ]
        have hD : SumsAt V6 (.slice (some ⟨bS, o2, none⟩) (M - 1) (cS - 1)) (S.drop 1) := by
          obtain ⟨a', c', he, h1, h2, h3⟩ := (HS6.out.s (z9, which, .slice (some ⟨bS, oS, none⟩) M cS, S) (by simp)).2
          simp only [Value.slice.injEq] at he
          obtain ⟨rfl, -, rfl⟩ := he
          obtain ⟨b', o', hb', hr'⟩ := h3.resolve_left (fun e => HC2.out.2 (by rw [HK.out.2.1, show S = [] from e]; rfl))
          simp only [Option.some.injEq, Addr.mk.injEq, and_true] at hb'
          obtain ⟨rfl, rfl⟩ := hb'
          have hm : M = S.length := HK.out.2.1
          have h1' : S.length ≤ cS := h1
          by_cases hc : cS = 1
          · exact ⟨_, cS - 1, by rw [List.length_drop, ← hm], by rw [List.length_drop]; omega, by omega, .inl (List.drop_eq_nil_of_le (by omega))⟩
          · have ho2 := HO2.out
            rw [if_neg hc] at ho2
            have hx := sums_drop (k := 1) (cap := cS - 1) (l := S) hr' (by omega) (by omega) (by omega)
            rw [← hm] at hx
            rw [ho2]
            exact hx
        have HD := Lib.hid hD
        clear hD
        refine wpS_e rfl (by rfl) (fun K hK => ?_)
        go_simp
        refine (scheck_any (rootOf (prs l)) k which v3 (.slice (some ⟨bS, o2, none⟩) (M - 1) (cS - 1)) bs3 (S.drop 1) V6 (HS6.out.y (v3, bs3) (by simp)) HD.out (by have h1 := HK.out.2.1; have h2 := HK.out.2.2.1; simp; omega) (by have := HBL.out; omega)).mono ?_
        rw [HC2.out.1]
        rintro e V7 ⟨rfl, hb⟩
        have HS7 := Lib.hid (HS6.out.below hb)
        clear hb HS6 HD HC2
        refine hK _ _ ?_; clear hK K
        try simp only [Act.put, List.setIfInBounds_toArray, List.set_cons_zero, List.set_cons_succ]
        iterate 4
          refine wpS_t rfl (v := ?_) (by rfl) (fun W => ?_) ?_
          rotate_left
          · go_simp
            try rfl
          try simp only [Act.put, List.setIfInBounds_toArray, List.set_cons_zero, List.set_cons_succ]
        refine wpS_done ?_
        go_wp2_with fail
        exact bodyPost_ret (results_tmp rfl _ _ _) rfl ⟨rfl, HS7.out.bw⟩
end Go.Proofs.Ytfmgoehnbaiamaa
-- Walks: law 17's great, is, of.
namespace Go.Proofs.Ytfmgoehnbaiamaa
/-- What is said of a map and two shows, as it lies. -/
def cells17 (k : Sum) (v1 v2 : Value) (w1 : Sum) (s1 : Value) (w2 : Sum) (s2 : Value) : List Value := cellsOf k ++ ([v1, v2] ++ (cellsShow w1 s1 ++ cellsShow w2 s2))
def said17 (k : Sum) (v1 v2 : Value) (w1 : Sum) (s1 : Value) (w2 : Sum) (s2 : Value) : Value := .agg (cells17 k v1 v2 w1 s1 w2 s2).toArray
/-- One's own copy of it. -/
structure Z17 (W : World) (b : Nat) (k : Sum) (v1 v2 : Value) (w1 : Sum) (s1 : Value) (w2 : Sum) (s2 : Value) : Prop where
  key : W.rangeAt b 0 (cellsOf k)
  c1 : W.cell? ⟨b, 32, none⟩ = some v1
  c2 : W.cell? ⟨b, 33, none⟩ = some v2
  sh1 : W.rangeAt b 34 (cellsShow w1 s1)
  d1 : W.cell? ⟨b, 66, none⟩ = some s1
  sh2 : W.rangeAt b 67 (cellsShow w2 s2)
  d2 : W.cell? ⟨b, 99, none⟩ = some s2
theorem z17_of {W : World} {b : Nat} {k : Sum} {v1 v2 : Value} {w1 : Sum} {s1 : Value} {w2 : Sum} {s2 : Value} (h : W.rangeAt b 0 (cells17 k v1 v2 w1 s1 w2 s2)) : Z17 W b k v1 v2 w1 s1 w2 s2 := by
  obtain ⟨h1, h2⟩ := range_append.1 h
  obtain ⟨h2, h3⟩ := range_append.1 h2
  obtain ⟨h3, h4⟩ := range_append.1 h3
  rw [length_cellsOf, Nat.zero_add] at h2
  rw [length_cellsOf, Nat.zero_add] at h3
  rw [length_cellsOf, length_cellsShow, Nat.zero_add] at h4
  obtain ⟨_, g3⟩ := range_append.1 (show W.rangeAt b 34 (cellsOf w1 ++ [s1]) from h3)
  obtain ⟨_, g4⟩ := range_append.1 (show W.rangeAt b 67 (cellsOf w2 ++ [s2]) from h4)
  rw [length_cellsOf] at g3 g4
  exact ⟨h1, h2 0 _ rfl, h2 1 _ rfl, h3, g3 0 _ rfl, h4, g4 0 _ rfl⟩
theorem Z17.below {W W' : World} {b : Nat} {k : Sum} {v1 v2 : Value} {w1 : Sum} {s1 : Value} {w2 : Sum} {s2 : Value} (h : Z17 W b k v1 v2 w1 s1 w2 s2) (hb : Below W.heap.size W W') : Z17 W' b k v1 v2 w1 s1 w2 s2 :=
  have kk := Keeps.of_below (X := fun _ => False) hb
  ⟨kk.range h.key (fun h => h), kk.cell h.c1 (fun h => h), kk.cell h.c2 (fun h => h), kk.range h.sh1 (fun h => h), kk.cell h.d1 (fun h => h), kk.range h.sh2 (fun h => h), kk.cell h.d2 (fun h => h)⟩
theorem zero17 (w : World) : (Instr.build 72 #[]).run Try.prog w = .ok (said17 zeroSum (.slice none 0 0) (.slice none 0 0) zeroSum (.slice none 0 0) zeroSum (.slice none 0 0)) w := by kernel_rfl
set_option maxRecDepth 100000 in
set_option maxHeartbeats 2000000 in
theorem great17_any (P : List Keys.Pr) (v : Value) (k w1 w2 : Sum) (v1 v2 s1 s2 : Value) (A B : List UInt8) (S T : List Sum) (w : World) (hv : PairsAt w v P) (h1 : BytesAt w v1 A) (h2 : BytesAt w v2 B) (h3 : SumsAt w s1 S) (h4 : SumsAt w s2 T) (l1 : A.length < 4611686018427387904) (l2 : B.length < 4611686018427387904) (l3 : S.length < 4611686018427387904) (l4 : T.length < 4611686018427387904) :
    Calls Try.prog 41 #[v, said17 k v1 v2 w1 s1 w2 s2] w fun e w' => ∃ r : Bool, e = .returned (.bool r) ∧ (r = false → P.length ≤ 12 ∧ A.length + B.length ≤ 3000 ∧ S.length + T.length ≤ 600) ∧ Below w.heap.size w w' := by
  have hb0 := al (Below.refl _ w) (.cells (cells17 k v1 v2 w1 s1 w2 s2).toArray 72)
  have hz := z17_of (range_new w (cells17 k v1 v2 w1 s1 w2 s2).toArray 72 _ rfl)
  have HV := Lib.hid (hv.below hb0)
  have H0 := Lib.hid (And.intro hb0 hz)
  clear hb0 hz
  obtain ⟨a, cap, rfl, p1, p2⟩ := pairs_form hv
  obtain ⟨a1, c1, rfl, q1, q2, _⟩ := h1
  obtain ⟨a2, c2, rfl, q3, q4, _⟩ := h2
  obtain ⟨a3, c3, rfl, q5, q6⟩ := sums_form h3
  obtain ⟨a4, c4, rfl, q7, q8⟩ := sums_form h4
  obtain ⟨N, hN⟩ : ∃ N, N = P.length := ⟨_, rfl⟩
  obtain ⟨n1, hn1⟩ : ∃ N, N = A.length := ⟨_, rfl⟩
  obtain ⟨n2, hn2⟩ : ∃ N, N = B.length := ⟨_, rfl⟩
  obtain ⟨n3, hn3⟩ : ∃ N, N = S.length := ⟨_, rfl⟩
  obtain ⟨n4, hn4⟩ : ∃ N, N = T.length := ⟨_, rfl⟩
  rw [← hN] at HV p1
  rw [← hn1] at H0 HV l1
  rw [← hn2] at H0 HV l2
  rw [← hn3] at H0 HV l3
  rw [← hn4] at H0 HV l4
  rw [← hN, ← hn1, ← hn2, ← hn3, ← hn4]
  have HL := Lib.hid (And.intro hN (And.intro p1 (And.intro l1 (And.intro l2 (And.intro l3 l4)))))
  clear hv h3 h4 hN hn1 hn2 hn3 hn4 p1 p2 q1 q2 q3 q4 q5 q6 q7 q8 l1 l2 l3 l4
  unfold said17
  by_cases hlt : 12 < N
  · have c1 : decide (12 < N) = true := by simpa using hlt
    have c1' : decide ((12 : Int) < (N : Int)) = true := by simp; omega
    go_enter Try.func41, Try.ntmps41
    go_wp2_with fail
    exact bodyPost_ret (results_tmp rfl _ _ _) rfl ⟨true, rfl, fun h => by (first | cases h | simp at h), H0.out.1⟩
  · have c1 : decide (12 < N) = false := by simpa using hlt
    have c1' : decide ((12 : Int) < (N : Int)) = false := by simp; omega
    go_enter Try.func41, Try.ntmps41
    go_wp2_with fail
    refine (psize_any P _ _ HV.out (by rw [← HL.out.1]; omega)).mono ?_
    rintro e W1 ⟨⟨m, rfl⟩, hb⟩
    have H1 := Lib.hid (And.intro (H0.out.1.trans (hb.mono H0.out.1.size)) (H0.out.2.below hb))
    have HN := Lib.hid hlt
    clear hb H0 HV hlt c1 c1'
    by_cases hm : 6000 < m
    · have c1 : decide (6000 < m) = true := by simpa using hm
      clear hm
      go_wp2_with fail
      exact bodyPost_ret (results_tmp rfl _ _ _) rfl ⟨true, rfl, fun h => by (first | cases h | simp at h), H1.out.1⟩
    · have c1 : decide (6000 < m) = false := by simpa using hm
      clear hm
      have g1 := H1.out.2.c1
      have g2 := H1.out.2.c2
      have hw : wrap64 ((n1 : Int) + (n2 : Int)) = ((n1 + n2 : Nat) : Int) := by have := HL.out; unfold wrap64; omega
      by_cases hab : 3000 < n1 + n2
      · have c2 : decide ((3000 : Int) < ((n1 + n2 : Nat) : Int)) = true := by simp; omega
        have c2' : decide ((3000 : Int) < (n1 : Int) + (n2 : Int)) = true := by simp; omega
        have c2'' : decide (3000 < n1 + n2) = true := by simp; omega
        go_wp2_with fail
        exact bodyPost_ret (results_tmp rfl _ _ _) rfl ⟨true, rfl, fun h => by (first | cases h | simp at h), H1.out.1⟩
      · have c2 : decide ((3000 : Int) < ((n1 + n2 : Nat) : Int)) = false := by simp; omega
        have c2' : decide ((3000 : Int) < (n1 : Int) + (n2 : Int)) = false := by simp; omega
        have c2'' : decide (3000 < n1 + n2) = false := by simp; omega
        have g3 := H1.out.2.d1
        have g4 := H1.out.2.d2
        have hw2 : wrap64 ((n3 : Int) + (n4 : Int)) = ((n3 + n4 : Nat) : Int) := by have := HL.out; unfold wrap64; omega
        go_wp2_with fail
        refine bodyPost_ret (results_tmp rfl _ _ _) rfl ⟨_, rfl, fun h => ?_, H1.out.1⟩
        have := HN.out
        simp at h
        omega
/-! ### how long what is told is -/
theorem part_mem : ∀ {A B : List (List UInt8)} {a b : List UInt8}, part A B = some (a, b) → a ∈ A ∧ b ∈ B
  | [], _, _, _, h => by unfold part at h; cases h
  | _ :: _, [], _, _, h => by unfold part at h; cases h
  | x :: A, y :: B, a, b, h => by
    rw [part] at h
    by_cases e : x = y
    · rw [if_pos e] at h
      have := part_mem h
      exact ⟨List.mem_cons_of_mem _ this.1, List.mem_cons_of_mem _ this.2⟩
    · rw [if_neg e] at h
      simp only [Option.some.injEq, Prod.mk.injEq] at h
      rw [← h.1, ← h.2]
      exact ⟨List.mem_cons_self, List.mem_cons_self⟩
theorem step_len {k : Sum} {v : List UInt8} {T : List Sum} {x : List UInt8} (h : x ∈ stepsBy k v T) : x.length ≤ 65 + v.length := by
  unfold stepsBy steps at h
  rcases List.mem_append.1 h with h | h
  · obtain ⟨p, _, rfl⟩ := List.mem_map.1 h
    unfold sideB
    simp <;> omega
  · rw [List.mem_singleton.1 h]
    unfold endB
    split <;> simp <;> omega
/-- What is told is a clash, and short. -/
def Fine (o : Option (List UInt8 × List UInt8)) : Prop := ∀ x y, o = some (x, y) → (x ≠ y ∧ sha x = sha y) ∧ x.length < 1000000 ∧ y.length < 1000000
theorem maps_fine {a b : List Keys.Pr} (ha : ∀ k, (Keys.get a k).length ≤ 3000) (hb : ∀ k, (Keys.get b k).length ≤ 3000) : Fine (mapsClash a b) := fun x y h => by
  refine ⟨maps_clash h, ?_⟩
  unfold mapsClash at h
  split at h
  · cases ho : otherK a b with
    | none => rw [ho] at h; cases h
    | some k =>
      rw [ho] at h
      simp only at h
      split at h
      · rw [to_by, to_by] at h
        have hm := part_mem h
        have h1 := step_len hm.1
        have h2 := step_len hm.2
        have h3 := ha k
        have h4 := hb k
        exact ⟨by omega, by omega⟩
      · cases h
  · cases h
theorem show_fine {l : List Keys.Pr} {k : Sum} {v : List UInt8} {which : Sum} {S : List Sum} (ha : ∀ k, (Keys.get l k).length ≤ 3000) (hv : v.length ≤ 3000) : Fine (showClash l k v which S) := fun x y h => by
  refine ⟨show_clash h, ?_⟩
  unfold showClash at h
  cases hT : leadsTo which S with
  | none => rw [hT] at h; cases h
  | some T =>
    rw [hT] at h
    simp only at h
    split at h
    · rw [to_by] at h
      have hm := part_mem h
      have h1 := step_len hm.1
      have h2 := step_len hm.2
      have h3 := ha k
      exact ⟨by omega, by omega⟩
    · cases h
theorem two_fine {k : Sum} {v w : List UInt8} {which which' : Sum} {S S' : List Sum} (hv : v.length ≤ 3000) (hw : w.length ≤ 3000) : Fine (twoClash k v which S w which' S') := fun x y h => by
  refine ⟨(two_clash h).1, ?_⟩
  unfold twoClash at h
  cases hT : leadsTo which S with
  | none => rw [hT] at h; cases h
  | some T =>
    cases hU : leadsTo which' S' with
    | none => rw [hT, hU] at h; cases h
    | some U =>
      rw [hT, hU] at h
      simp only at h
      split at h
      · have hm := part_mem h
        have h1 := step_len hm.1
        have h2 := step_len hm.2
        exact ⟨by omega, by omega⟩
      · cases h
end Go.Proofs.Ytfmgoehnbaiamaa
-- Walks: law 17's is, of.
namespace Go.Proofs.Ytfmgoehnbaiamaa
/-- A clash in hand. -/
structure C17 (w W : World) (b : Nat) (va vb : Value) (x y : List UInt8) : Prop where
  bw : Below w.heap.size w W
  c1 : W.cell? ⟨b, 0, none⟩ = some va
  c2 : W.cell? ⟨b, 1, none⟩ = some vb
  b1 : BytesAt W va x
  b2 : BytesAt W vb y
theorem C17.below {w W W' : World} {b : Nat} {va vb : Value} {x y : List UInt8} (h : C17 w W b va vb x y) (hb : Below W.heap.size W W') : C17 w W' b va vb x y :=
  have kk := Keeps.of_below (X := fun _ => False) hb
  ⟨h.bw.trans (hb.mono h.bw.size), kk.cell h.c1 (fun h => h), kk.cell h.c2 (fun h => h), bytes_below h.b1 hb (Nat.le_refl _), bytes_below h.b2 hb (Nat.le_refl _)⟩
set_option maxRecDepth 100000 in
set_option maxHeartbeats 1000000 in
theorem is17_any (x y : List UInt8) (va vb : Value) (w : World) (ha : BytesAt w va x) (hb : BytesAt w vb y) (hxy : x ≠ y ∧ sha x = sha y) (hx : x.length < 1000000) (hy : y.length < 1000000) :
    Calls Try.prog 45 #[.agg #[va, vb]] w fun e w' => e = .returned (.bool true) ∧ Below w.heap.size w w' := by
  have hb0 := al (Below.refl _ w) (.cells #[va, vb] 74)
  have hr := range_new w #[va, vb] 74 _ rfl
  have H0 := Lib.hid (show C17 w (w.alloc (.cells #[va, vb] 74)) w.heap.size va vb x y from ⟨hb0, hr 0 _ rfl, hr 1 _ rfl, bytes_below ha hb0 (Nat.le_refl _), bytes_below hb hb0 (Nat.le_refl _)⟩)
  obtain ⟨a1, n1, c1, rfl⟩ := bytes_form ha
  obtain ⟨a2, n2, c2, rfl⟩ := bytes_form hb
  clear hb0 hr ha hb
  have HL := Lib.hid (And.intro hx hy)
  clear hx hy
  obtain ⟨S, hS⟩ : ∃ s, s = sh x := ⟨_, rfl⟩
  have HS := Lib.hid (And.intro hS (show sh y = S by rw [hS, sh_eq, hxy.2]))
  have HX := Lib.hid hxy.1
  have hes := eq_sums_same S
  clear hS hxy
  go_enter Try.func45, Try.ntmps45
  go_wp2_with fail
  refine wp_region_sched (fun V => C17 w V w.heap.size (.slice a1 n1 c1) (.slice a2 n2 c2) x y) [.t 0, .t 2, .s 1, .e 3 true, .e 4 true, .t 5, .t 6, .t 7, .t 10, .s 8, .s 11, .e 9 true, .e 12 false, .t 13, .t 14, .t 15] (by kernel_rfl) (by kernel_rfl) (by intro c a d v w h; cases d <;> exact h) ?_
  have H1 := Lib.hid (H0.out.below (Below.refl _ _).drew)
  clear H0
  generalize World.drew _ = V at *
  iterate 2
    refine wpS_t rfl (v := ?_) (by rfl) (fun W => ?_) ?_
    rotate_left
    · go_simp
      try rfl
    try simp only [Act.put, List.setIfInBounds_toArray, List.set_cons_zero, List.set_cons_succ]
  refine wpS_s (by exact H1.out) rfl (v := .slice a1 n1 c1) (by rfl) (fun W hW => ?_) ?_
  · have g := hW.c1
    go_simp
  try simp only [Act.put, List.setIfInBounds_toArray, List.set_cons_zero, List.set_cons_succ]
  refine wpS_k rfl (by rfl) (fun K hK => ?_)
  have g := H1.out.c2
  go_simp
  refine hK _ _ ⟨by exact H1.out, ?_⟩; clear hK K
  try simp only [Act.put, List.setIfInBounds_toArray, List.set_cons_zero, List.set_cons_succ]
  clear g
  refine wpS_k rfl (by rfl) (fun K hK => ?_)
  go_simp
  refine (same_bytes x y _ _ V H1.out.b1 H1.out.b2).mono ?_
  rw [decide_eq_false HX.out]
  rintro e V2 ⟨rfl, hb⟩
  have H2 := Lib.hid (H1.out.below hb)
  clear hb H1
  refine hK _ _ ⟨by exact H2.out, ?_⟩; clear hK K
  try simp only [Act.put, List.setIfInBounds_toArray, List.set_cons_zero, List.set_cons_succ]
  iterate 4
    refine wpS_t rfl (v := ?_) (by rfl) (fun W => ?_) ?_
    rotate_left
    · go_simp
      try rfl
    try simp only [Act.put, List.setIfInBounds_toArray, List.set_cons_zero, List.set_cons_succ]
  refine wpS_s (by exact H2.out) rfl (v := .slice a1 n1 c1) (by rfl) (fun W hW => ?_) ?_
  · have g := hW.c1
    go_simp
  try simp only [Act.put, List.setIfInBounds_toArray, List.set_cons_zero, List.set_cons_succ]
  refine wpS_s (by exact H2.out) rfl (v := .slice a2 n2 c2) (by rfl) (fun W hW => ?_) ?_
  · have g := hW.c2
    go_simp
  try simp only [Act.put, List.setIfInBounds_toArray, List.set_cons_zero, List.set_cons_succ]
  refine wpS_k rfl (by rfl) (fun K hK => ?_)
  go_simp
  have hc := sh_any x _ V2 H2.out.b1 (by have := HL.out.1; omega)
  rw [← HS.out.1] at hc
  refine hc.mono ?_
  clear hc
  rintro e V3 ⟨rfl, hb⟩
  have H3 := Lib.hid (H2.out.below hb)
  clear hb H2
  refine hK _ _ ⟨by exact H3.out, ?_⟩; clear hK K
  try simp only [Act.put, List.setIfInBounds_toArray, List.set_cons_zero, List.set_cons_succ]
  refine wpS_e rfl (by rfl) (fun K hK => ?_)
  go_simp
  have hc := sh_any y _ V3 H3.out.b2 (by have := HL.out.2; omega)
  rw [HS.out.2] at hc
  refine hc.mono ?_
  clear hc
  rintro e V4 ⟨rfl, hb⟩
  have H4 := Lib.hid (H3.out.below hb)
  clear hb H3
  refine hK _ _ ?_; clear hK K
  try simp only [Act.put, List.setIfInBounds_toArray, List.set_cons_zero, List.set_cons_succ]
  iterate 3
    refine wpS_t rfl (v := ?_) (by rfl) (fun W => ?_) ?_
    rotate_left
    · go_simp
      try rfl
    try simp only [Act.put, List.setIfInBounds_toArray, List.set_cons_zero, List.set_cons_succ]
  refine wpS_done ?_
  go_wp2_with fail
  exact bodyPost_ret (results_tmp rfl _ _ _) rfl ⟨rfl, H4.out.bw⟩
set_option maxRecDepth 100000 in
set_option maxHeartbeats 1000000 in
theorem of17_any (P : List Keys.Pr) (v : Value) (w : World) (hv : PairsAt w v P) (hn : P.length < 100000) : Calls Try.prog 43 #[v] w fun e w' => ∃ p b l x, e = .returned (.tuple #[.pointer (some ⟨p, 0, none⟩), x]) ∧ MapIn w' p b P.length l ∧ prs l = puts [] P ∧ PairsAt w' x (prs l) ∧ w.heap.size ≤ p ∧ w.heap.size ≤ b ∧ p ≠ b ∧ Below w.heap.size w w' := by
  have HV := Lib.hid hv
  obtain ⟨a, cap, rfl, h1, h2⟩ := pairs_form hv
  obtain ⟨N, hN⟩ : ∃ N, N = P.length := ⟨_, rfl⟩
  rw [← hN] at HV h1 hn ⊢
  have HN := Lib.hid (And.intro hN hn)
  clear hv hN h2
  have k1 : (N : Int) ≤ (cap : Int) := by omega
  go_enter Try.func43, Try.ntmps43
  go_wp2_with fail
  refine (mnew_any w).mono ?_
  rintro e w1 ⟨rfl, hm1, hb1⟩
  obtain ⟨p, hp⟩ : ∃ p, p = w.heap.size + 1 := ⟨_, rfl⟩
  obtain ⟨b, hb⟩ : ∃ b, b = w.heap.size := ⟨_, rfl⟩
  rw [← hp, ← hb] at hm1
  rw [← hp]
  have HP := Lib.hid (And.intro hp hb)
  have H1 := Lib.hid (And.intro hm1 hb1)
  clear hm1 hb1 hp hb
  go_wp2_with fail
  go_loopw [5] (fun iv W => ∃ (j : Nat) (l : List Ent), j ≤ N ∧ iv = .int .i64 (j : Int) ∧ MapIn W p b j l ∧ prs l = puts [] (P.take j) ∧ Below w.heap.size w W) (fun iv _ => N - (intOf iv).toNat)
  case atStart => exact ⟨0, [], by omega, rfl, H1.out.1, rfl, H1.out.2⟩
  case round =>
    clear H1
    obtain ⟨j, l, hj, rfl, hM, hL, hB⟩ := hrel
    have HB := Lib.hid (And.intro hM (And.intro hL hB))
    clear hM hL hB
    by_cases hlt : j < N
    · have c1 : decide (j < N) = true := by simpa using hlt
      have c1' : decide ((j : Int) < (N : Int)) = true := by simp; omega
      have hj0 : (0 : Int) ≤ (j : Int) := by omega
      have hlt' : (j : Int) < (N : Int) := by omega
      obtain ⟨ba, oa, ca', y, xs, he1, hr1, hy1, hg1⟩ := pairs_one (HV.out.below HB.out.2.2.drew) (i := j) (by rw [← HN.out.1]; exact hlt)
      simp only [Value.slice.injEq] at he1
      obtain ⟨rfl, -, rfl⟩ := he1
      have HX := Lib.hid (And.intro hr1 hy1)
      have HG := Lib.hid hg1
      have HJ := Lib.hid (And.intro hj hlt)
      clear hr1 hy1 hg1
      go_wp2_with fail
      have hcell : wr.drew.cell? ⟨ba, oa + j * 33 + 32, none⟩ = some (peV y) := by
        have := HX.out.1 32 (peV y) (by rw [encP, List.getElem?_append_right (by rw [length_cellsOf]; omega), length_cellsOf]; rfl)
        exact this
      have HC := Lib.hid (And.intro (encP_key HX.out.1) hcell)
      clear hcell
      refine wp_region_sched (fun W => W.rangeAt ba (oa + j * 33) (cellsOf y.1) ∧ W.cell? ⟨ba, oa + j * 33 + 32, none⟩ = some (peV y)) [.t 0, .t 1, .t 2, .t 3, .t 4, .t 6, .t 7, .t 8, .t 9, .s 5, .e 10 true, .e 11 false] (by kernel_rfl) (by kernel_rfl) (by intro c a d v w h; cases d <;> exact h) ?_
      have HBD := Lib.hid (And.intro (HB.out.1.below (Below.refl wr.heap.size wr).drew) (And.intro HB.out.2.1 HB.out.2.2.drew))
      clear HB
      generalize wr.drew = V at *
      iterate 9
        refine wpS_t rfl (v := ?_) (by rfl) (fun W => ?_) ?_
        rotate_left
        · go_simp
          try rfl
        try simp only [Act.put, List.setIfInBounds_toArray, List.set_cons_zero, List.set_cons_succ]
      refine wpS_load_sum (by exact HC.out) rfl (by rfl) _ (by rfl) ba (oa + j * 33) (by rfl) y.1 (fun V hV => hV.1) ?_
      try simp only [Act.put, List.setIfInBounds_toArray, List.set_cons_zero, List.set_cons_succ]
      refine wpS_k rfl (by rfl) (fun K hK => ?_)
      have g := HC.out.2
      go_simp
      refine hK _ _ ⟨by exact HC.out, ?_⟩; clear hK K
      try simp only [Act.put, List.setIfInBounds_toArray, List.set_cons_zero, List.set_cons_succ]
      clear g
      refine wpS_e rfl (by rfl) (fun K hK => ?_)
      go_simp
      refine (mput_any y.1 xs (peV y) V p b j l HBD.out.1 (by have := HN.out.2; omega) HX.out.2).mono ?_
      rintro e V2 ⟨rfl, l2, hm2, hp2, hk2⟩
      have hbelow : Below w.heap.size w V2 := HBD.out.2.2.trans (hk2.below (B := w.heap.size) HBD.out.2.2.size (fun k hk => by have := HP.out.2; omega))
      have H2 := Lib.hid (And.intro hm2 (And.intro (show prs l2 = puts [] (P.take (j + 1)) by rw [puts_take [] P HG.out, hp2, HBD.out.2.1]) hbelow))
      clear hm2 hp2 hk2 hbelow
      refine hK _ _ ?_; clear hK K
      try simp only [Act.put, List.setIfInBounds_toArray, List.set_cons_zero, List.set_cons_succ]
      refine wpS_done ?_
      go_wp2_with fail
      exact ⟨⟨j + 1, l2, by omega, by simp, H2.out.1, H2.out.2.1, H2.out.2.2⟩, by simp [intOf]; omega⟩
    · have hjn : j = N := by omega
      subst hjn
      go_wp2_with fail
      have hlen : l.length < 100000 := by
        have h1 := congrArg List.length HB.out.2.1
        have h2 := length_puts (P.take j) []
        have h3 := HN.out.2
        simp [prs] at h1
        simp only [List.length_nil] at h2
        have h4 : (P.take j).length ≤ j := by rw [List.length_take]; omega
        omega
      refine (mpairs_any wr p b j l HB.out.1 hlen).mono ?_
      clear hlen
      rintro e W9 ⟨x, rfl, hx, hb⟩
      have H9 := Lib.hid (And.intro hx (And.intro (HB.out.1.below hb) (HB.out.2.2.trans (hb.mono HB.out.2.2.size))))
      have HT := Lib.hid HB.out.2.1
      clear hx hb HB
      go_wp2_with fail
      refine bodyPost_ret (results_tmp2 rfl _ _ _) rfl ⟨p, b, l, x, rfl, H9.out.2.1, ?_, H9.out.1, by have := HP.out.1; omega, by have := HP.out.2; omega, by have := HP.out; omega, H9.out.2.2⟩
      rw [HT.out, List.take_of_length_le (by rw [← HN.out.1]; exact Nat.le_refl _)]
end Go.Proofs.Ytfmgoehnbaiamaa
-- Values: the trees of (7, "a") and (7, "b") come to other sums; what law 17's alive asks of the plain laws.
namespace Go.Proofs.Ytfmgoehnbaiamaa
theorem vl7b_num : Fast.snum (vl (lit 7) [98]) = 85495382562713737024316607337567724659861109517911890831008291099094804159091 := by
  rw [vl_eq]
  show Fast.snum (if ([98] : List UInt8) = [] then sha [2] else sha (3 :: ((lit 7).toList ++ [98]))) = _
  rw [if_neg (by simp), lit_list, Fast.sha_one _ (by decide +kernel)]
  decide +kernel
set_option maxRecDepth 100000 in
theorem x248b : fz 248 99398763056634537812744552006896172984671876672520535998211840060697129507206 85495382562713737024316607337567724659861109517911890831008291099094804159091 = 96075519009087552839472375958021376911087531221904572814988723469934808434590 := by decide +kernel
theorem x251b : fo 3 68140388362105375494314006093594760818977815925103957317883493373949186056752 96075519009087552839472375958021376911087531221904572814988723469934808434590 = 74338111402975861586546108668109224630405519032125947468490846428379820944822 := by decide +kernel
theorem x256b : fz 5 85172016557300867396114426918393380223422963544648758708490665601848222747028 74338111402975861586546108668109224630405519032125947468490846428379820944822 = 47153824833620861109899094721883330284642006010502526789650936335450609171221 := by decide +kernel
theorem own0b : Fast.snum (own (lit 7, [98]) 0) = 85495382562713737024316607337567724659861109517911890831008291099094804159091 := vl7b_num
theorem own248b : Fast.snum (own (lit 7, [98]) 248) = 96075519009087552839472375958021376911087531221904572814988723469934808434590 := own_z kn_lit7 bits0 em0 own0b rfl x248b
theorem own251b : Fast.snum (own (lit 7, [98]) 251) = 74338111402975861586546108668109224630405519032125947468490846428379820944822 := own_o kn_lit7 bits1 em248 own248b rfl x251b
theorem own256b : Fast.snum (own (lit 7, [98]) 256) = 47153824833620861109899094721883330284642006010502526789650936335450609171221 := own_z kn_lit7 bits2 em251 own251b rfl x256b
theorem root_ab : rootOf [(lit 7, [97])] ≠ rootOf [(lit 7, [98])] := by
  intro h
  have e := own256.symm.trans ((congrArg Fast.snum (show own (lit 7, [97]) 256 = own (lit 7, [98]) 256 from h)).trans own256b)
  exact absurd e (by decide +kernel)
theorem may_one (k : Sum) (x : UInt8) : May [(k, [x])] := ⟨List.pairwise_singleton _ _, fun p hp => by rw [List.mem_singleton.1 hp]; simp⟩
theorem maps_same {a : List Keys.Pr} (h : May a) : mapsClash a a = none := by
  have h1 := maps_told h h
  cases hm : mapsClash a a with
  | none => rfl
  | some p => rw [hm] at h1; simp at h1
theorem maps_ab : mapsClash [(lit 7, [97])] [(lit 7, [98])] = none := by
  have h1 := maps_told (may_one (lit 7) 97) (may_one (lit 7) 98)
  rw [decide_eq_false (fun h => root_ab h.1)] at h1
  cases hm : mapsClash [(lit 7, [97])] [(lit 7, [98])] with
  | none => rfl
  | some p => rw [hm] at h1; cases h1
theorem two_same (k : Sum) (v : List UInt8) (which : Sum) (S : List Sum) (which' : Sum) (S' : List Sum) : twoClash k v which S v which' S' = none := by
  unfold twoClash
  cases leadsTo which S with
  | none => rfl
  | some T =>
    cases leadsTo which' S' with
    | none => rfl
    | some U => simp
theorem show_same {l : List Keys.Pr} (k : Sum) (which : Sum) (S : List Sum) : showClash l k (Keys.get l k) which S = none := by
  unfold showClash
  cases leadsTo which S with
  | none => rfl
  | some T => simp
end Go.Proofs.Ytfmgoehnbaiamaa
-- Walk: law 17's alive.
namespace Go.Proofs.Ytfmgoehnbaiamaa
theorem raw_pair (a : Option Addr) (n c : Nat) : (#[.int .u8 7, .int .u8 0, .int .u8 0, .int .u8 0, .int .u8 0, .int .u8 0, .int .u8 0, .int .u8 0, .int .u8 0, .int .u8 0, .int .u8 0, .int .u8 0, .int .u8 0, .int .u8 0, .int .u8 0, .int .u8 0, .int .u8 0, .int .u8 0, .int .u8 0, .int .u8 0, .int .u8 0, .int .u8 0, .int .u8 0, .int .u8 0, .int .u8 0, .int .u8 0, .int .u8 0, .int .u8 0, .int .u8 0, .int .u8 0, .int .u8 0, .int .u8 0, .slice a n c] : Array Value) = (encP (lit 7, a, n, c)).toArray := by
  unfold encP
  rw [lit_eq]
  rfl
theorem pairs_marked (w : World) (x : UInt8) : PairsAt ((w.alloc (.cells #[.int .u8 ((x.toNat : Nat) : Int)] 5 (1, 2))).alloc (.cells (encP (lit 7, some ⟨w.heap.size, 0, none⟩, 1, 1)).toArray 36)) (.slice (some ⟨w.heap.size + 1, 0, none⟩) 1 1) [(lit 7, [x])] := by
  have h1 := bytes_marked w x
  have hz : (w.alloc (.cells #[.int .u8 ((x.toNat : Nat) : Int)] 5 (1, 2))).heap.size = w.heap.size + 1 := World.size_alloc _ _
  have h2 := range_new (w.alloc (.cells #[.int .u8 ((x.toNat : Nat) : Int)] 5 (1, 2))) (encP (lit 7, some ⟨w.heap.size, 0, none⟩, 1, 1)).toArray 36 _ rfl
  rw [hz] at h2
  refine ⟨_, 1, [((lit 7, some ⟨w.heap.size, 0, none⟩, 1, 1), [x])], rfl, Nat.le_refl _, by unfold maxLen; omega, rfl, fun c hc => ?_, .inr ⟨_, 0, rfl, ?_⟩⟩
  · rw [List.mem_singleton.1 hc]
    exact bytes_below h1 (al (Below.refl _ _) _) (Nat.le_refl _)
  · have e : cellsP ([((lit 7, some ⟨w.heap.size, 0, none⟩, 1, 1), [x])].map Prod.fst : List PE) = encP (lit 7, some ⟨w.heap.size, 0, none⟩, 1, 1) := by simp [cellsP]
    rw [e]
    exact h2
theorem wpList_var_clash {ops : Array Oper} {rest : List Oper} {op : Oper} {a : Act} {w : World} {t : TypeId} {Q : Exit → Act → World → Prop} (hgd : op.guard = none) (x y : Operand) (ho : op.op = .store 74 x y) (va vb : Value) (h1 : va.oneCell' = true) (h2 : vb.oneCell' = true)
    (hx : a.eval x = .pointer (some ⟨w.heap.size, 0, none⟩)) (hy : a.eval y = .agg #[va, vb])
    (h : ∀ W', Below w.heap.size w W' → W'.rangeAt w.heap.size 0 [va, vb] → wpList Try.prog ops Q rest (a.put op.dst undef) W') : wpList Try.prog ops Q (op :: rest) a (w.alloc (.cells #[.slice none 0 0, .slice none 0 0] t)) := by
  have ht : (w.alloc (.cells #[.slice none 0 0, .slice none 0 0] t)).there w.heap.size 0 2 := there_new _ _ _
  have ht2 := World.there_setCells ht w.heap.size 0 [va, vb]
  exact wpList_store_clash hgd x y ho w.heap.size va vb hx hy h1 h2 ht (h _ (setCells_below _ (Nat.le_refl _) _ 0 _ _ (al (Below.refl _ _) _)) (range_stored _ _ _ _ ht2))
theorem alive17_yes : checkOf (rootOf [(lit 7, [97])]) (lit 7) [97] zeroSum [] = true := by
  have h := check_tells (k := lit 7) (which := zeroSum) (l := [(lit 7, [97])]) (T := tells (lit 7) 256 [(lit 7, [97])]) (List.pairwise_singleton _ _) (tells_ok _ _ _) (by rw [tells_one]; exact bits_none 256)
  rw [tells_one, sides_none, one_get] at h
  exact h
theorem small_one (k : Sum) (x : UInt8) : Small [(k, [x])] := fun p hp => by rw [List.mem_singleton.1 hp]; simp
/-- What alive has in hand. -/
structure AL (w W : World) (p b n : Nat) (l : List Ent) (va vb : Value) (H : List (Nat × Sum × Value × List Sum)) : Prop where
  lw : LW w W p b n l [] [] H
  pa : PairsAt W va [(lit 7, [97])]
  pb : PairsAt W vb [(lit 7, [98])]
theorem AL.below {w W W' : World} {p b n : Nat} {l : List Ent} {va vb : Value} {H : List (Nat × Sum × Value × List Sum)} (h : AL w W p b n l va vb H) (hb : Below W.heap.size W W') : AL w W' p b n l va vb H :=
  ⟨h.lw.below hb, h.pa.below hb, h.pb.below hb⟩
set_option maxRecDepth 100000 in
set_option maxHeartbeats 4000000 in
theorem alive17_any (w : World) : Calls Try.prog 42 #[] w fun e w' => e = .returned (.bool true) ∧ Below w.heap.size w w' := by
  have kc := fun (w : World) (C : Array Value) (n c : Nat) => Lib.run_convert_bytes_const (P := Try.prog) w 34 5 C n c Try.underlying34 Try.underlying5
  go_enter Try.func42, Try.ntmps42
  go_upto_region 2 with (fail)
  rw [raw_pair]
  have H1 := Lib.hid (And.intro (al (al (Below.refl w.heap.size w) (.cells #[.int .u8 97] 5 (1, 2))) (.cells (encP (lit 7, some ⟨w.heap.size, 0, none⟩, 1, 1)).toArray 36)) (pairs_marked w 97))
  rw [show ((97 : UInt8).toNat : Int) = 97 from rfl] at H1
  generalize (w.alloc (.cells #[.int .u8 97] 5 (1, 2))).alloc (.cells (encP (lit 7, some ⟨w.heap.size, 0, none⟩, 1, 1)).toArray 36) = w1 at *
  go_upto_region 3 with (fail)
  rw [raw_pair]
  have hbb := al (al (Below.refl w1.heap.size w1) (.cells #[.int .u8 98] 5 (1, 2))) (.cells (encP (lit 7, some ⟨w1.heap.size, 0, none⟩, 1, 1)).toArray 36)
  have hp2 := pairs_marked w1 98
  rw [show ((98 : UInt8).toNat : Int) = 98 from rfl] at hp2
  have H2 := Lib.hid (And.intro (H1.out.1.trans (hbb.mono H1.out.1.size)) (And.intro (H1.out.2.below hbb) hp2))
  clear hbb hp2 H1
  generalize (w1.alloc (.cells #[.int .u8 98] 5 (1, 2))).alloc (.cells (encP (lit 7, some ⟨w1.heap.size, 0, none⟩, 1, 1)).toArray 36) = w2 at *
  obtain ⟨aA, haA⟩ : ∃ x, x = some (⟨w.heap.size + 1, 0, none⟩ : Addr) := ⟨_, rfl⟩
  obtain ⟨aB, haB⟩ : ∃ x, x = some (⟨w1.heap.size + 1, 0, none⟩ : Addr) := ⟨_, rfl⟩
  rw [← haA, ← haB] at H2 ⊢
  clear haA haB
  go_upto_region 4 with (refine (mnew_any w2).mono ?_)
  rintro e w3 ⟨rfl, hm, hb⟩
  obtain ⟨p, hp⟩ : ∃ p, p = w2.heap.size + 1 := ⟨_, rfl⟩
  obtain ⟨b, hbb⟩ : ∃ b, b = w2.heap.size := ⟨_, rfl⟩
  rw [← hp, ← hbb] at hm
  rw [← hp]
  have hwb : w.heap.size ≤ b := by have := H2.out.1.size; omega
  have H3 := Lib.hid (show AL w w3 p b 0 [] (.slice aA 1 1) (.slice aB 1 1) [] from ⟨⟨H2.out.1.trans (hb.mono H2.out.1.size), hm, hwb, by simp, by simp, by simp⟩, H2.out.2.1.below hb, H2.out.2.2.below hb⟩)
  clear hm hb hp hbb hwb H2
  obtain ⟨A1, hA1⟩ : ∃ v, v = (.slice aA 1 1 : Value) := ⟨_, rfl⟩
  obtain ⟨B1, hB1⟩ : ∃ v, v = (.slice aB 1 1 : Value) := ⟨_, rfl⟩
  rw [← hA1, ← hB1] at H3
  have HAB := Lib.hid (And.intro hA1 hB1)
  clear hA1 hB1
  obtain ⟨eo, heo⟩ : ∃ y, y = rootOf [(lit 7, [97])] := ⟨_, rfl⟩
  obtain ⟨zs, hzs⟩ : ∃ y, y = zeroSum := ⟨_, rfl⟩
  have HY := Lib.hid (And.intro heo hzs)
  clear heo hzs
  go_wp2_with fail
  have b1 := al (Below.refl _ w3) (.cells #[.int .u8 97] 5 (1, 2))
  have hy1 : BytesAt (w3.alloc (.cells #[.int .u8 97] 5 (1, 2))) (.slice (some ⟨w3.heap.size, 0, none⟩) 1 1) [97] := bytes_marked w3 97
  have H4 := Lib.hid (And.intro (H3.out.below b1) hy1)
  clear H3 b1 hy1
  rw [val_7]
  refine (mput_any (lit 7) [97] _ _ p b 0 [] H4.out.1.lw.map (by omega) H4.out.2).mono ?_
  rintro e w4 ⟨rfl, l1, hm, hp, hk⟩
  rw [show prs [] = [] from rfl, one_put] at hp
  rw [show (if ([97] : List UInt8).length > 256 then (3 : Int) else 0) = 0 from rfl]
  obtain ⟨n1, hn1⟩ : ∃ n, n = 0 + 1 := ⟨_, rfl⟩
  rw [← hn1] at hm
  have H5 := Lib.hid (show AL w w4 p b n1 l1 A1 B1 [] from ⟨H4.out.1.lw.put hm hk, H4.out.1.pa.maps H4.out.1.lw.map.on hk, H4.out.1.pb.maps H4.out.1.lw.map.on hk⟩)
  have HL1 := Lib.hid hp
  clear H4 hm hp hk hn1
  go_wp2_with fail
  rw [val_7]
  have hc := sof_any (lit 7) w4 p b n1 l1 H5.out.lw.map (by have := congrArg List.length HL1.out; simp [prs] at this; omega)
  rw [HL1.out, tells_one, sides_none] at hc
  refine hc.mono ?_
  clear hc
  rintro e w5 ⟨which, v, rfl, hN, hBt, hb⟩
  obtain rfl : v = .slice none 0 0 := by
    rcases hN with ⟨h, _⟩ | ⟨g, c, h, h0, _⟩
    · exact h
    · exact absurd rfl h0
  obtain rfl := which_none hBt
  rw [← HY.out.2]
  have H6 := Lib.hid (H5.out.below hb)
  clear H5 hb hN hBt
  have HG := Lib.hid trivial
  go_wp2_with (have _ := HG; refine wpList_var_show (by rfl) rfl _ _ rfl zs (.slice none 0 0) (by rfl) rfl rfl ?_; intro w6 hb hr; obtain ⟨z, hz⟩ : ∃ x, x = w5.heap.size := ⟨_, rfl⟩; rw [← hz] at hr ⊢; obtain ⟨SS, hSS⟩ : ∃ x, x = [((z, zs, (.slice none 0 0 : Value), ([] : List Sum)))] := ⟨_, rfl⟩; have H7 := Lib.hid (show AL w w6 p b n1 l1 A1 B1 SS from ⟨by rw [hSS]; exact (H6.out.below hb).lw.addS hr ⟨none, 0, rfl, by simp, by unfold maxLen; omega, .inl rfl⟩, (H6.out.below hb).pa, (H6.out.below hb).pb⟩); have HSS := Lib.hid hSS; clear hSS HG hb hr hz H6)
  have e1 := HAB.out.1
  have e2 := HAB.out.2
  refine (smaps_any _ _ (.slice aA 1 1) (.slice aA 1 1) w6 (by rw [← e1]; exact H7.out.pa) (by rw [← e1]; exact H7.out.pa) (by simp) (by simp) (small_one _ _) (small_one _ _)).mono ?_
  rw [maps_same (may_one _ _)]
  rintro e w7 ⟨hA, hb⟩
  obtain rfl := hA
  have H8 := Lib.hid (H7.out.below hb)
  clear hb H7
  have HG := Lib.hid trivial
  clear e1 e2
  go_wp2_with (have _ := HG; refine wpList_var_clash (by rfl) _ _ rfl (.slice none 0 0) (.slice none 0 0) rfl rfl (by rfl) (by rfl) ?_; intro w8 hb hr; have H9 := Lib.hid (H8.out.below hb); clear HG hb hr H8)
  have e1 := HAB.out.1
  have e2 := HAB.out.2
  refine (smaps_any _ _ (.slice aA 1 1) (.slice aB 1 1) w8 (by rw [← e1]; exact H9.out.pa) (by rw [← e2]; exact H9.out.pb) (by simp) (by simp) (small_one _ _) (small_one _ _)).mono ?_
  rw [maps_ab]
  rintro e w9 ⟨hA, hb⟩
  obtain rfl := hA
  have H10 := Lib.hid (H9.out.below hb)
  clear hb H9
  have HG := Lib.hid trivial
  clear e1 e2
  have hz2 : ∀ W : World, (W.alloc (.cells #[.int .u8 97] 5 (1, 2))).heap.size = W.heap.size + 1 := fun W => World.size_alloc _ _
  have kc2 := fun (w : World) (C : Array Value) (n c : Nat) => kc (w.alloc (.cells #[.int .u8 97] 5 (1, 2))) C n c
  simp only [hz2] at kc2
  have HS7 := HSS.out
  have hr7 : ∀ W, AL w W p b n1 l1 A1 B1 SS → W.rangeAt z 0 (cellsShow zs (.slice none 0 0)) := fun W hW => (hW.lw.s (z, zs, .slice none 0 0, []) (by rw [HS7]; simp)).1
  have HR7 := Lib.hid hr7
  clear HS7 hr7 hz2
  go_wp2_with (first
    | (have _ := HG; refine wpList_var_clash (by rfl) _ _ rfl (.slice none 0 0) (.slice none 0 0) rfl rfl (by rfl) (by rfl) ?_; intro w10 hb hr; have H11 := Lib.hid (H10.out.below hb); clear HG hb hr H10)
    | (refine wpList_load_shw rfl _ rfl z 0 rfl zs (.slice none 0 0) (HR7.out _ (H11.out.below (al (Below.refl _ _) _))) ?_)
    | (refine wpList_load_shw rfl _ rfl z 0 rfl zs (.slice none 0 0) (HR7.out _ (H11.out.below (al (al (Below.refl _ _) _) _))) ?_))
  have hb1 := al (Below.refl w10.heap.size w10) (.cells #[.int .u8 97] 5 (1, 2))
  have hy1 : BytesAt (w10.alloc (.cells #[.int .u8 97] 5 (1, 2))) (.slice (some ⟨w10.heap.size, 0, none⟩) 1 1) [97] := bytes_marked w10 97
  have hb2 := al (Below.refl (w10.alloc (.cells #[.int .u8 97] 5 (1, 2))).heap.size (w10.alloc (.cells #[.int .u8 97] 5 (1, 2)))) (.cells #[.int .u8 97] 5 (1, 2))
  have hy2 : BytesAt ((w10.alloc (.cells #[.int .u8 97] 5 (1, 2))).alloc (.cells #[.int .u8 97] 5 (1, 2))) (.slice (some ⟨(w10.alloc (.cells #[.int .u8 97] 5 (1, 2))).heap.size, 0, none⟩) 1 1) [97] := bytes_marked (w10.alloc (.cells #[.int .u8 97] 5 (1, 2))) 97
  rw [show (w10.alloc (.cells #[.int .u8 97] 5 (1, 2))).heap.size = w10.heap.size + 1 from World.size_alloc _ _] at hy2
  have H12 := Lib.hid (And.intro ((H11.out.below hb1).below hb2) (And.intro (bytes_below hy1 hb2 (Nat.le_refl _)) hy2))
  clear hb1 hb2 hy1 hy2 H11
  rw [val_7]
  refine (stwo_any (lit 7) zs zs _ (.slice none 0 0) _ (.slice none 0 0) [97] [97] [] [] _ H12.out.2.1 ⟨none, 0, rfl, by simp, by unfold maxLen; omega, .inl rfl⟩ (by simp) (by simp) H12.out.2.2 ⟨none, 0, rfl, by simp, by unfold maxLen; omega, .inl rfl⟩ (by simp) (by simp)).mono ?_
  rw [two_same]
  rintro e w11 ⟨hA, hb⟩
  obtain rfl := hA
  have H13 := Lib.hid (H12.out.1.below hb)
  clear hb H12 kc2
  have HG := Lib.hid trivial
  go_wp2_with (first
    | (have _ := HG; refine wpList_var_clash (by rfl) _ _ rfl (.slice none 0 0) (.slice none 0 0) rfl rfl (by rfl) (by rfl) ?_; intro w12 hb hr; have H14 := Lib.hid (H13.out.below hb); clear HG hb hr H13)
    | (refine wpList_load_shw rfl _ rfl z 0 rfl zs (.slice none 0 0) (HR7.out _ (H14.out.below (al (Below.refl _ _) _))) ?_))
  have hb1 := al (Below.refl w12.heap.size w12) (.cells #[.int .u8 97] 5 (1, 2))
  have hy1 : BytesAt (w12.alloc (.cells #[.int .u8 97] 5 (1, 2))) (.slice (some ⟨w12.heap.size, 0, none⟩) 1 1) [97] := bytes_marked w12 97
  have H15 := Lib.hid (And.intro (H14.out.below hb1) hy1)
  clear hb1 hy1 H14
  have e1 := HAB.out.1
  rw [val_7]
  have hc := sshow_any [(lit 7, [97])] (.slice aA 1 1) (lit 7) zs _ (.slice none 0 0) [97] [] _ (by rw [← e1]; exact H15.out.1.pa) (by simp) (small_one _ _) H15.out.2 ⟨none, 0, rfl, by simp, by unfold maxLen; omega, .inl rfl⟩ (by simp) (by simp)
  have hsm := show_same (l := [(lit 7, [97])]) (lit 7) zs []
  rw [one_get] at hsm
  rw [hsm] at hc
  refine hc.mono ?_
  clear hc hsm e1
  rintro e w13 ⟨hA, hb⟩
  obtain rfl := hA
  have H16 := Lib.hid (H15.out.1.below hb)
  clear hb H15
  have HG := Lib.hid trivial
  go_wp2_with (first
    | (have _ := HG; refine wpList_var_clash (by rfl) _ _ rfl (.slice none 0 0) (.slice none 0 0) rfl rfl (by rfl) (by rfl) ?_; intro w14 hb hr; have H17 := Lib.hid (H16.out.below hb); clear HG hb hr H16))
  refine wp_region_schedT (fun V => AL w V p b n1 l1 A1 B1 SS) [.t 0, .t 1, .t 2, .t 3, .t 5, .s 8, .g 4 6 7 true, .e 9 false, .t 10, .t 11, .t 12, .t 13, .t 14, .t 15, .t 16, .t 17, .t 18, .t 19, .t 20, .t 21, .t 22, .t 23, .t 24, .t 25, .t 26, .t 27] (by kernel_rfl) (by kernel_rfl) (by intro c a d v w h; cases d <;> exact h) ?_
  have HS0 := Lib.hid (H17.out.below (Below.refl _ _).drew)
  clear H17
  generalize w14.drew = V0 at *
  iterate 5
    refine wpT_t rfl (v := ?_) (by rfl) (fun W => ?_) ?_
    rotate_left
    · go_simp
      try rfl
    try simp only [Act.put, List.setIfInBounds_toArray, List.set_cons_zero, List.set_cons_succ]
  rw [val_7]
  refine wpT_load_show (by exact HS0.out) rfl (by rfl) _ (by rfl) z 0 (by rfl) zs (.slice none 0 0) (fun W hW => HR7.out W hW) ?_
  try simp only [Act.put, List.setIfInBounds_toArray, List.set_cons_zero, List.set_cons_succ]
  clear kc
  have hrt : ∀ U, AL w U p b n1 l1 A1 B1 SS → Calls Try.prog 23 #[.pointer (some ⟨p, 0, none⟩)] U fun e w' => e = .returned (sv eo) ∧ Below U.heap.size U w' := fun U hU => by
    have h := mroot_any U p b n1 l1 hU.lw.map (by have := congrArg List.length HL1.out; simp [prs] at this; omega)
    rw [HL1.out, ← HY.out.1] at h
    exact h
  have HRT := Lib.hid hrt
  clear hrt
  refine' Alm.join (fun (q : Nat) (W : World) => AL w W p b n1 l1 A1 B1 SS ∧ BytesAt W (.slice (some ⟨q, 0, none⟩) 1 1) [97]) (fun key => ?_) ?_
  rotate_left
  · refine wpT_g ?_ ?_
    · refine wpOp_of rfl (by rfl) (fun K hK => ?_)
      go_simp
      refine (HRT.out V0 HS0.out).mono ?_
      rintro e V3 ⟨rfl, hb⟩
      have HS3 := Lib.hid (HS0.out.below hb)
      clear hb
      refine hK _ _ ⟨by exact HS3.out, ?_⟩; clear hK K
      try simp only [Act.put, List.setIfInBounds_toArray, List.set_cons_zero, List.set_cons_succ]
      refine wpOp_of rfl (by rfl) (fun K hK => ?_)
      go_simp
      have hb1 : Below V3.heap.size V3 (V3.alloc (.cells #[.int .u8 97] 5)) := al (Below.refl _ V3) _
      have HB1 := Lib.hid hb1
      clear hb1
      refine hK _ _ ⟨by exact HS3.out.below HB1.out, ?_⟩; clear hK K
      try simp only [Act.put, List.setIfInBounds_toArray, List.set_cons_zero, List.set_cons_succ]
      have hh := heap_new V3 (.cells #[.int .u8 97] 5)
      refine wpOp_of rfl (by rfl) (fun K hK => ?_)
      have g := conv_own (n := 1) (c := 1) hh
      go_simp
      clear g
      obtain ⟨fr', hf⟩ := heap_freeze (k := 1) hh
      have hS4 : AL w ((V3.alloc (.cells #[.int .u8 97] 5)).freeze ⟨V3.heap.size, 1, none⟩ 1) p b n1 l1 A1 B1 SS := HS3.out.below (HB1.out.trans ((keeps_freeze _ _ _).below (B := V3.heap.size) HB1.out.size (fun k hk => by rw [hk]; exact Nat.le_refl _)))
      have HS4 := Lib.hid (And.intro hS4 (show BytesAt ((V3.alloc (.cells #[.int .u8 97] 5)).freeze ⟨V3.heap.size, 1, none⟩ 1) (.slice (some ⟨V3.heap.size, 0, none⟩) 1 1) [97] from bytes_heap (x := 97) hf))
      clear hh hf hS4
      refine hK _ _ ⟨by exact HS4.out.1, ?_⟩; clear hK K
      try simp only [Act.put, List.setIfInBounds_toArray, List.set_cons_zero, List.set_cons_succ]
      have HF := Lib.hid HS4.out
      clear HS4 HS3 HB1
      generalize ((V3.alloc (.cells #[.int .u8 97] 5)).freeze ⟨V3.heap.size, 1, none⟩ 1) = W9 at *
      generalize V3.heap.size = q9 at *
      exact key q9 W9 HF.out
    · refine wpOp_of rfl (by rfl) (fun K hK => ?_)
      go_simp
      have hb1 : Below V0.heap.size V0 (V0.alloc (.cells #[.int .u8 97] 5)) := al (Below.refl _ V0) _
      have hh := heap_new V0 (.cells #[.int .u8 97] 5)
      have HB1 := Lib.hid (And.intro hb1 hh)
      have HS3 := Lib.hid (HS0.out.below hb1)
      clear hb1 hh
      refine hK _ _ ⟨by exact HS3.out, ?_, ?_⟩ <;> clear hK K
      · skip
        try simp only [Act.put, List.setIfInBounds_toArray, List.set_cons_zero, List.set_cons_succ]
        refine wpOp_of rfl (by rfl) (fun K hK => ?_)
        go_simp
        refine (HRT.out (V0.alloc (.cells #[.int .u8 97] 5)) HS3.out).mono ?_
        rintro e V4 ⟨rfl, hb⟩
        have hlt : V0.heap.size < (V0.alloc (.cells #[.int .u8 97] 5)).heap.size := by rw [World.size_alloc]; omega
        have hh : V4.heap[V0.heap.size]? = some (.cells #[.int .u8 97] 5) := (hb.block _ hlt).trans HB1.out.2
        have hbb : Below V0.heap.size V0 V4 := HB1.out.1.trans (hb.mono HB1.out.1.size)
        have HB4 := Lib.hid (And.intro hbb hh)
        have HS4 := Lib.hid (HS0.out.below hbb)
        clear hb hh hlt hbb
        refine hK _ _ ⟨by exact HS4.out, ?_⟩; clear hK K
        try simp only [Act.put, List.setIfInBounds_toArray, List.set_cons_zero, List.set_cons_succ]
        have hh := HB4.out.2
        refine wpOp_of rfl (by rfl) (fun K hK => ?_)
        have g := conv_own (n := 1) (c := 1) hh
        go_simp
        clear g
        obtain ⟨fr', hf⟩ := heap_freeze (k := 1) hh
        have hS5 : AL w (V4.freeze ⟨V0.heap.size, 1, none⟩ 1) p b n1 l1 A1 B1 SS := HS0.out.below (HB4.out.1.trans ((keeps_freeze _ _ _).below (B := V0.heap.size) HB4.out.1.size (fun k hk => by rw [hk]; exact Nat.le_refl _)))
        have HS5 := Lib.hid (And.intro hS5 (show BytesAt (V4.freeze ⟨V0.heap.size, 1, none⟩ 1) (.slice (some ⟨V0.heap.size, 0, none⟩) 1 1) [97] from bytes_heap (x := 97) hf))
        clear hh hf hS5
        refine hK _ _ ⟨by exact HS5.out.1, ?_⟩; clear hK K
        try simp only [Act.put, List.setIfInBounds_toArray, List.set_cons_zero, List.set_cons_succ]
        have HF := Lib.hid HS5.out
        clear HS5 HS4 HB4 HS3 HB1
        generalize (V4.freeze ⟨V0.heap.size, 1, none⟩ 1) = W9 at *
        generalize V0.heap.size = q9 at *
        exact key q9 W9 HF.out
      · skip
        try simp only [Act.put, List.setIfInBounds_toArray, List.set_cons_zero, List.set_cons_succ]
        have hh := HB1.out.2
        refine wpOp_of rfl (by rfl) (fun K hK => ?_)
        have g := conv_own (n := 1) (c := 1) hh
        go_simp
        clear g
        obtain ⟨fr', hf⟩ := heap_freeze (k := 1) hh
        have hS5 : AL w ((V0.alloc (.cells #[.int .u8 97] 5)).freeze ⟨V0.heap.size, 1, none⟩ 1) p b n1 l1 A1 B1 SS := HS0.out.below (HB1.out.1.trans ((keeps_freeze _ _ _).below (B := V0.heap.size) HB1.out.1.size (fun k hk => by rw [hk]; exact Nat.le_refl _)))
        have HS5 := Lib.hid (And.intro hS5 (show BytesAt ((V0.alloc (.cells #[.int .u8 97] 5)).freeze ⟨V0.heap.size, 1, none⟩ 1) (.slice (some ⟨V0.heap.size, 0, none⟩) 1 1) [97] from bytes_heap (x := 97) hf))
        clear hh hf hS5
        refine hK _ _ ⟨by exact HS5.out.1, ?_⟩; clear hK K
        try simp only [Act.put, List.setIfInBounds_toArray, List.set_cons_zero, List.set_cons_succ]
        refine wpOp_of rfl (by rfl) (fun K hK => ?_)
        go_simp
        refine (HRT.out ((V0.alloc (.cells #[.int .u8 97] 5)).freeze ⟨V0.heap.size, 1, none⟩ 1) HS5.out.1).mono ?_
        rintro e V6 ⟨rfl, hb⟩
        have HS6 := Lib.hid (And.intro (HS5.out.1.below hb) (bytes_below HS5.out.2 hb (Nat.le_refl _)))
        clear hb
        refine hK _ _ ⟨by exact HS6.out.1, ?_⟩; clear hK K
        try simp only [Act.put, List.setIfInBounds_toArray, List.set_cons_zero, List.set_cons_succ]
        have HF := Lib.hid HS6.out
        clear HS6 HS5 HS3 HB1
        generalize V0.heap.size = q9 at *
        exact key q9 V6 HF.out
  · intro q W hF
    have HF := Lib.hid hF
    clear hF
    refine wpT_e rfl (by rfl) (fun K hK => ?_)
    go_simp
    have hc := scheck_any eo (lit 7) zs (.slice (some ⟨q, 0, none⟩) 1 1) (.slice none 0 0) [97] [] W HF.out.2 ⟨none, 0, rfl, by simp, by unfold maxLen; omega, .inl rfl⟩ (by simp) (by simp)
    have hy := alive17_yes
    rw [← HY.out.1, ← HY.out.2] at hy
    rw [hy] at hc
    refine hc.mono ?_
    clear hc hy
    rintro e V7 ⟨rfl, hb⟩
    have HB7 := Lib.hid (HF.out.1.lw.bw.trans (hb.mono HF.out.1.lw.bw.size))
    clear hb HF
    refine hK _ _ ?_; clear hK K
    try simp only [Act.put, List.setIfInBounds_toArray, List.set_cons_zero, List.set_cons_succ]
    iterate 18
      refine wpT_t rfl (v := ?_) (by rfl) (fun W => ?_) ?_
      rotate_left
      · go_simp
        try rfl
      try simp only [Act.put, List.setIfInBounds_toArray, List.set_cons_zero, List.set_cons_succ]
    refine wpT_done ?_
    go_wp2_with fail
    exact bodyPost_ret (results_tmp rfl _ _ _) rfl ⟨rfl, HB7.out⟩
end Go.Proofs.Ytfmgoehnbaiamaa
