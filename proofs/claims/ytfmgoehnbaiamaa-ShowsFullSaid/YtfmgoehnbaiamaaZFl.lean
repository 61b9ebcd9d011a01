/-
  Merged: Sched4, S18, S19, S20, S21, S22.
-/
import Derived.Test.YtfmgoehnbaiamaaSched
import Derived.Test.YtfmgoehnbaiamaaZS3
import Derived.Test.YtfmgoehnbaiamaaV3
-- Plain: the same as Sched, with moves for more operations that may come in more than one order.
open Go
namespace Alm
section
variable {P : Program} {md : Region.Mode} {S : World → Prop}
/-- A move: an operation that yields in every world; one that yields in every world that meets S; one that comes up alone (true: S is to be shown behind it); two of which either may be the first. -/
inductive MvU where
  | t (i : Nat)
  | s (i : Nat)
  | e (i : Nat) (keep : Bool)
  | f (i j : Nat) (keep : Bool)
  | g (k i j : Nat) (keep : Bool)
  | n (is : List Nat) (deps : List (Nat × List Nat)) (keep : Bool)

/-- What one of them waits for, of the others. -/
def depsOf (deps : List (Nat × List Nat)) (i : Nat) : List Nat := (deps.filter fun p => p.1 == i).flatMap (·.2)

/-- How many operations. -/
def stepsOfU : List MvU → Nat
  | [] => 0
  | .f _ _ _ :: r => stepsOfU r + 2
  | .g _ _ _ _ :: r => stepsOfU r + 3
  | .n is _ _ :: r => stepsOfU r + is.length
  | _ :: r => stepsOfU r + 1

/-- The moves of a walk. -/
def wpU (P : Program) (md : Region.Mode) (ops : Array Oper) (Q : Exit → Act → World → Prop) (S : World → Prop) : List MvU → Act → World → Prop
  | [], a, w => Q .normal a w
  | .t i :: r, a, w => ∃ o v, ops[i]? = some o ∧ Yields P ops o v a ∧ wpU P md ops Q S r (a.put o.dst v) w
  | .s i :: r, a, w => S w ∧ ∃ o v, ops[i]? = some o ∧ YieldsIf P ops S o v a ∧ wpU P md ops Q S r (a.put o.dst v) w
  | .e i kp :: r, a, w => wpOp P ops Q i (fun a' w' => (kp = true → S w') ∧ wpU P md ops Q S r a' w') a w
  | .f i j kp :: r, a, w =>
    wpOp P ops Q i (fun a' w' => (kp = true → S w') ∧ wpOp P ops Q j (fun a' w' => (kp = true → S w') ∧ wpU P md ops Q S r a' w') a' w') a w ∧
    wpOp P ops Q j (fun a' w' => (kp = true → S w') ∧ wpOp P ops Q i (fun a' w' => (kp = true → S w') ∧ wpU P md ops Q S r a' w') a' w') a w
  | .g k i j kp :: r, a, w =>
    wpOp P ops Q k (fun a' w' => (kp = true → S w') ∧ wpOp P ops Q i (fun a' w' => (kp = true → S w') ∧ wpOp P ops Q j (fun a' w' => (kp = true → S w') ∧ wpU P md ops Q S r a' w') a' w') a' w') a w ∧
    wpOp P ops Q i (fun a' w' => (kp = true → S w') ∧
      wpOp P ops Q k (fun a' w' => (kp = true → S w') ∧ wpOp P ops Q j (fun a' w' => (kp = true → S w') ∧ wpU P md ops Q S r a' w') a' w') a' w' ∧
      wpOp P ops Q j (fun a' w' => (kp = true → S w') ∧ wpOp P ops Q k (fun a' w' => (kp = true → S w') ∧ wpU P md ops Q S r a' w') a' w') a' w') a w
  | .n is deps kp :: r, a, w =>
    ∃ I : (Nat → Bool) → Act → World → Prop, I (fun _ => false) a w ∧ (kp = true → ∀ d a w, I d a w → S w) ∧
      (∀ i ∈ is, ∀ d a w, d i = false → (∀ x ∈ depsOf deps i, d x = true) → I d a w → wpOp P ops Q i (fun a' w' => I (fun j => decide (j = i) || d j) a' w') a w) ∧
      (∀ d a w, (∀ i ∈ is, d i = true) → I d a w → wpU P md ops Q S r a w)

def tsOfU (ms : List MvU) : List Nat := ms.filterMap fun | .t i => some i | _ => none
def lsOfU (ms : List MvU) : List Nat := ms.filterMap fun | .s i => some i | _ => none

/-- Whatever comes up is one of these, and what it waits for is done; at the end all are. -/
def nB (md : Region.Mode) (ops : Array Oper) (is : List Nat) (deps : List (Nat × List Nat)) (target : Array Bool) : Nat → Array Bool → Bool
  | 0, listed => (listed == target) && is.all fun i => listed.getD i false
  | n + 1, listed => !(Region.ready md ops listed).isEmpty && (Region.ready md ops listed).all fun i => is.contains i && ((depsOf deps i).all fun x => is.contains x && listed.getD x false) && nB md ops is deps target n (listed.setIfInBounds i true)
/-- Is that an order that serves every order? -/
def schedBU (md : Region.Mode) (ops : Array Oper) (ts ls : List Nat) : List MvU → Array Bool → Bool
  | [], listed => (Region.ready md ops listed).isEmpty
  | .t i :: r, listed => ts.contains i && (Region.ready md ops listed).contains i && Region.free md ops listed i && schedBU md ops ts ls r (listed.setIfInBounds i true)
  | .s i :: r, listed => !ts.contains i && ls.contains i && (Region.ready md ops listed).contains i && Region.free md ops listed i && schedBU md ops ts ls r (listed.setIfInBounds i true)
  | .e i kp :: r, listed => !ts.contains i && !ls.contains i && (Region.ready md ops listed == [i]) && (kp || !keepB md ops ls i) && schedBU md ops ts ls r (listed.setIfInBounds i true)
  | .f i j kp :: r, listed => (!ts.contains i && !ls.contains i && !ts.contains j && !ls.contains j) && (Region.ready md ops listed == [i, j] && Region.ready md ops (listed.setIfInBounds i true) == [j] && Region.ready md ops (listed.setIfInBounds j true) == [i]) && (kp || (!keepB md ops ls i && !keepB md ops ls j)) && schedBU md ops ts ls r ((listed.setIfInBounds i true).setIfInBounds j true)
  | .g k i j kp :: r, listed => (!ts.contains k && !ls.contains k && !ts.contains i && !ls.contains i && !ts.contains j && !ls.contains j) && (decide (k ≠ i) && decide (k ≠ j)) &&
    (Region.ready md ops listed == [k, i] && Region.ready md ops (listed.setIfInBounds k true) == [i] && Region.ready md ops ((listed.setIfInBounds k true).setIfInBounds i true) == [j] && Region.ready md ops (listed.setIfInBounds i true) == [k, j] && Region.ready md ops ((listed.setIfInBounds i true).setIfInBounds j true) == [k]) &&
    (kp || (!keepB md ops ls k && !keepB md ops ls i && !keepB md ops ls j)) && schedBU md ops ts ls r (((listed.setIfInBounds k true).setIfInBounds i true).setIfInBounds j true)
  | .n is deps kp :: r, listed => (is.all fun i => !ts.contains i && !ls.contains i && !listed.getD i false && (kp || !keepB md ops ls i)) && nB md ops is deps (is.foldl (fun l i => l.setIfInBounds i true) listed) is.length listed && schedBU md ops ts ls r (is.foldl (fun l i => l.setIfInBounds i true) listed)

theorem wpAnyK_oneU {ops : Array Oper} {Q : Exit → Act → World → Prop} {ts ls : List Nat} {x n : Nat} {lx : Array Bool} {a : Act} {w : World} (hr : Region.ready md ops lx = [x]) (ht : ts.contains x = false) (hl : ls.contains x = false)
    (h : wpOp P ops Q x (fun a' w' => (keepB md ops ls x = true → S w') ∧ wpAnyK P md ops Q S ts ls n (lx.setIfInBounds x true) a' w') a w) : wpAnyK P md ops Q S ts ls (n + 1) lx a w := by
  refine ⟨fun h0 => (by rw [h0] at hr; cases hr), fun y hy => ?_⟩
  rw [hr] at hy
  obtain rfl : y = x := by simpa using hy
  unfold opK
  rw [if_neg (by rw [ht]; simp), if_neg (by rw [hl]; simp)]
  exact h
theorem wpAnyK_twoU {ops : Array Oper} {Q : Exit → Act → World → Prop} {ts ls : List Nat} {x y n : Nat} {lx : Array Bool} {a : Act} {w : World} (hr : Region.ready md ops lx = [x, y]) (htx : ts.contains x = false) (hlx : ls.contains x = false) (hty : ts.contains y = false) (hly : ls.contains y = false)
    (h1 : wpOp P ops Q x (fun a' w' => (keepB md ops ls x = true → S w') ∧ wpAnyK P md ops Q S ts ls n (lx.setIfInBounds x true) a' w') a w)
    (h2 : wpOp P ops Q y (fun a' w' => (keepB md ops ls y = true → S w') ∧ wpAnyK P md ops Q S ts ls n (lx.setIfInBounds y true) a' w') a w) : wpAnyK P md ops Q S ts ls (n + 1) lx a w := by
  refine ⟨fun h0 => (by rw [h0] at hr; cases hr), fun z hz => ?_⟩
  rw [hr] at hz
  rcases List.mem_cons.1 hz with rfl | hz
  · unfold opK
    rw [if_neg (by rw [htx]; simp), if_neg (by rw [hlx]; simp)]
    exact h1
  · obtain rfl : z = y := by simpa using hz
    unfold opK
    rw [if_neg (by rw [hty]; simp), if_neg (by rw [hly]; simp)]
    exact h2

theorem wpAnyK_of_SU {ops : Array Oper} {Q : Exit → Act → World → Prop} {ts ls : List Nat} (hs : Region.noSelect ops = true) (hQ : ∀ c (a : Act) (d : Option Tmp) (v : Value) w, Q (.panic c) (a.put d v) w → Q (.panic c) a w) :
    ∀ (ms : List MvU) (listed : Array Bool) (a : Act) (w : World), closed md ops listed → schedBU md ops ts ls ms listed = true → wpU P md ops Q S ms a w → wpAnyK P md ops Q S ts ls (stepsOfU ms) listed a w
  | [], listed, a, w, _, hB, h => ⟨by simpa [schedBU] using hB, h⟩
  | .t i :: r, listed, a, w, hcl, hB, h => by
    simp only [schedBU, Bool.and_eq_true] at hB
    obtain ⟨⟨⟨hts, hr⟩, hf⟩, hB'⟩ := hB
    obtain ⟨o, v, ho, hy, hn⟩ := h
    have hr' : i ∈ Region.ready md ops listed := by simpa using hr
    refine wpAnyK_first (Y := Yields P ops o v) (B := fun _ => True) ho (Region.noSelect_spec hs) ?_ ?_ ?_ (fun _ _ _ _ _ _ _ => trivial) (stepsOfU r) listed a w hcl (Region.free_spec ho hf) hr' hy trivial (wpAnyK_of_SU hs hQ r _ _ _ (closed_set hcl hr') hB' hn)
    · intro K a w hy _ hK
      unfold opK
      rw [if_pos hts]
      exact ⟨o, v, ho, hy, hK⟩
    · intro oj a hap hy u
      obtain ⟨h1, h2, h3⟩ := Oper.apart_spec hap
      exact hy.of_same (execOp_put o (fun cs b => Region.noSelect_spec hs i o cs b ho) a oj.dst u h3) (wanted_put o a oj.dst u h3)
    · intro j oj hj hap a w hy K' hw
      exact wpOp_put hj hap (fun cs b => Region.noSelect_spec hs i o cs b ho) (fun cs b => Region.noSelect_spec hs j oj cs b hj) (fun c a w => hQ c a _ _ w) hy hw
  | .s i :: r, listed, a, w, hcl, hB, h => by
    simp only [schedBU, Bool.and_eq_true, Bool.not_eq_true'] at hB
    obtain ⟨⟨⟨⟨hts, hls⟩, hr⟩, hf⟩, hB'⟩ := hB
    obtain ⟨hS, o, v, ho, hy, hn⟩ := h
    have hr' : i ∈ Region.ready md ops listed := by simpa using hr
    refine wpAnyK_first (Y := YieldsIf P ops S o v) (B := S) ho (Region.noSelect_spec hs) ?_ ?_ ?_ ?_ (stepsOfU r) listed a w hcl (Region.free_spec ho hf) hr' hy hS (wpAnyK_of_SU hs hQ r _ _ _ (closed_set hcl hr') hB' hn)
    · intro K a w hy hS hK
      unfold opK
      rw [if_neg (by rw [hts]; simp), if_pos hls]
      exact ⟨hS, o, v, ho, hy, hK⟩
    · intro oj a hap hy u
      obtain ⟨h1, h2, h3⟩ := Oper.apart_spec hap
      exact hy.of_same (execOp_put o (fun cs b => Region.noSelect_spec hs i o cs b ho) a oj.dst u h3) (wanted_put o a oj.dst u h3)
    · intro j oj hj hap a w hy K' hw
      exact wpOp_putIf hj hap (fun cs b => Region.noSelect_spec hs i o cs b ho) (fun cs b => Region.noSelect_spec hs j oj cs b hj) (fun c a w => hQ c a _ _ w) hy hw
    · intro listed j hcl hj hil0 w' hk
      refine hk ?_
      obtain ⟨hjun, oj, hoj, hall⟩ := mem_ready.1 hj
      unfold keepB
      refine List.any_eq_true.2 ⟨i, by simpa using hls, ?_⟩
      cases hd : depB md ops i ops.size j with
      | false => rfl
      | true => rw [depB_listed hcl i ops.size j oj hoj hall hd] at hil0; cases hil0
  | .e i kp :: r, listed, a, w, hcl, hB, h => by
    simp only [schedBU, Bool.and_eq_true, Bool.not_eq_true', Bool.or_eq_true, beq_iff_eq] at hB
    obtain ⟨⟨⟨⟨hts, hls⟩, hr⟩, hk⟩, hB'⟩ := hB
    have hr' : i ∈ Region.ready md ops listed := by rw [hr]; simp
    refine ⟨fun h0 => (by rw [h0] at hr; cases hr), fun j hj => ?_⟩
    rw [hr] at hj
    obtain rfl : j = i := by simpa using hj
    unfold opK
    rw [if_neg (by rw [hts]; simp), if_neg (by rw [hls]; simp)]
    refine wpOp_mono (fun a' w' h' => ⟨fun hkb => ?_, wpAnyK_of_SU hs hQ r _ _ _ (closed_set hcl hr') hB' h'.2⟩) h
    rcases hk with hk | hk
    · exact h'.1 hk
    · rw [hk] at hkb; cases hkb

  | .f i j kp :: r, listed, a, w, hcl, hB, h => by
    simp only [schedBU, Bool.and_eq_true, Bool.not_eq_true', Bool.or_eq_true, beq_iff_eq] at hB
    obtain ⟨⟨⟨⟨⟨⟨ht1, hl1⟩, ht2⟩, hl2⟩, ⟨⟨hr, hri⟩, hrj⟩⟩, hk⟩, hB'⟩ := hB
    have hi : i ∈ Region.ready md ops listed := by rw [hr]; simp
    have hj : j ∈ Region.ready md ops listed := by rw [hr]; simp
    have hij : j ∈ Region.ready md ops (listed.setIfInBounds i true) := by rw [hri]; simp
    have hji : i ∈ Region.ready md ops (listed.setIfInBounds j true) := by rw [hrj]; simp
    have hne : i ≠ j := by
      intro e
      subst e
      have := (mem_ready.1 hij).1
      obtain ⟨o, ho, _⟩ := (mem_ready.1 hi).2
      have hib : i < listed.size := by
        rcases Nat.lt_or_ge i listed.size with h' | h'
        · exact h'
        · have h0 := (mem_ready.1 hi).1
          simp [Array.getElem?_eq_none h'] at h0
      simp [hib] at this
    have e2 : (listed.setIfInBounds j true).setIfInBounds i true = (listed.setIfInBounds i true).setIfInBounds j true := Array.setIfInBounds_comm _ _ (Ne.symm hne)
    have hki : keepB md ops ls i = true → kp = true := fun h1 => by rcases hk with hk | hk; exact hk; rw [hk.1] at h1; cases h1
    have hkj : keepB md ops ls j = true → kp = true := fun h1 => by rcases hk with hk | hk; exact hk; rw [hk.2] at h1; cases h1
    have key : ∀ a w, wpU P md ops Q S r a w → wpAnyK P md ops Q S ts ls (stepsOfU r) ((listed.setIfInBounds i true).setIfInBounds j true) a w := fun a w hh => wpAnyK_of_SU hs hQ r _ _ _ (closed_set (closed_set hcl hi) hij) hB' hh
    have inner : ∀ (x : Nat) (lx : Array Bool) a w, Region.ready md ops lx = [x] → (lx.setIfInBounds x true) = ((listed.setIfInBounds i true).setIfInBounds j true) → ts.contains x = false → ls.contains x = false → (keepB md ops ls x = true → kp = true) →
        wpOp P ops Q x (fun a' w' => (kp = true → S w') ∧ wpU P md ops Q S r a' w') a w → wpAnyK P md ops Q S ts ls (stepsOfU r + 1) lx a w := by
      intro x lx a w hrx hlx htx hlsx hkx hh
      refine ⟨fun h0 => (by rw [h0] at hrx; cases hrx), fun y hy => ?_⟩
      rw [hrx] at hy
      obtain rfl : y = x := by simpa using hy
      unfold opK
      rw [if_neg (by rw [htx]; simp), if_neg (by rw [hlsx]; simp)]
      exact wpOp_mono (fun a' w' h' => ⟨fun hkb => h'.1 (hkx hkb), by rw [hlx]; exact key _ _ h'.2⟩) hh
    refine ⟨fun h0 => (by rw [h0] at hr; cases hr), fun y hy => ?_⟩
    rw [hr] at hy
    rcases List.mem_cons.1 hy with rfl | hy
    · unfold opK
      rw [if_neg (by rw [ht1]; simp), if_neg (by rw [hl1]; simp)]
      exact wpOp_mono (fun a' w' h' => ⟨fun hkb => h'.1 (hki hkb), inner j _ _ _ hri rfl ht2 hl2 hkj h'.2⟩) h.1
    · obtain rfl : y = j := by simpa using hy
      unfold opK
      rw [if_neg (by rw [ht2]; simp), if_neg (by rw [hl2]; simp)]
      exact wpOp_mono (fun a' w' h' => ⟨fun hkb => h'.1 (hkj hkb), inner i _ _ _ hrj e2 ht1 hl1 hki h'.2⟩) h.2
  | .g k i j kp :: r, listed, a, w, hcl, hB, h => by
    simp only [schedBU, Bool.and_eq_true, Bool.not_eq_true', Bool.or_eq_true, beq_iff_eq, decide_eq_true_eq] at hB
    obtain ⟨⟨⟨⟨⟨⟨⟨⟨⟨htk, hlk⟩, hti⟩, hli⟩, htj⟩, hlj⟩, ⟨nki, nkj⟩⟩, ⟨⟨⟨⟨r0, rk⟩, rki⟩, ri⟩, rij⟩⟩, hk⟩, hB'⟩ := hB
    have e1 : (listed.setIfInBounds i true).setIfInBounds k true = (listed.setIfInBounds k true).setIfInBounds i true := Array.setIfInBounds_comm _ _ (Ne.symm nki)
    have e2 : ((listed.setIfInBounds i true).setIfInBounds j true).setIfInBounds k true = ((listed.setIfInBounds k true).setIfInBounds i true).setIfInBounds j true := by
      rw [Array.setIfInBounds_comm _ _ (Ne.symm nkj), e1]
    have mk : k ∈ Region.ready md ops listed := by rw [r0]; simp
    have mi : i ∈ Region.ready md ops (listed.setIfInBounds k true) := by rw [rk]; simp
    have mj : j ∈ Region.ready md ops ((listed.setIfInBounds k true).setIfInBounds i true) := by rw [rki]; simp
    have key : ∀ a w, wpU P md ops Q S r a w → wpAnyK P md ops Q S ts ls (stepsOfU r) (((listed.setIfInBounds k true).setIfInBounds i true).setIfInBounds j true) a w := fun a w hh => wpAnyK_of_SU hs hQ r _ _ _ (closed_set (closed_set (closed_set hcl mk) mi) mj) hB' hh
    have gk : keepB md ops ls k = true → kp = true := fun h1 => by rcases hk with hk | hk; exact hk; rw [hk.1.1] at h1; cases h1
    have gi : keepB md ops ls i = true → kp = true := fun h1 => by rcases hk with hk | hk; exact hk; rw [hk.1.2] at h1; cases h1
    have gj : keepB md ops ls j = true → kp = true := fun h1 => by rcases hk with hk | hk; exact hk; rw [hk.2] at h1; cases h1
    refine wpAnyK_twoU r0 htk hlk hti hli ?_ ?_
    · refine wpOp_mono (fun a' w' h' => ⟨fun hkb => h'.1 (gk hkb), ?_⟩) h.1
      refine wpAnyK_oneU rk hti hli (wpOp_mono (fun a' w' h' => ⟨fun hkb => h'.1 (gi hkb), ?_⟩) h'.2)
      exact wpAnyK_oneU rki htj hlj (wpOp_mono (fun a' w' h' => ⟨fun hkb => h'.1 (gj hkb), key _ _ h'.2⟩) h'.2)
    · refine wpOp_mono (fun a' w' h' => ⟨fun hkb => h'.1 (gi hkb), ?_⟩) h.2
      refine wpAnyK_twoU ri htk hlk htj hlj ?_ ?_
      · refine wpOp_mono (fun a' w' h' => ⟨fun hkb => h'.1 (gk hkb), ?_⟩) h'.2.1
        rw [e1]
        exact wpAnyK_oneU rki htj hlj (wpOp_mono (fun a' w' h' => ⟨fun hkb => h'.1 (gj hkb), key _ _ h'.2⟩) h'.2)
      · refine wpOp_mono (fun a' w' h' => ⟨fun hkb => h'.1 (gj hkb), ?_⟩) h'.2.2
        exact wpAnyK_oneU rij htk hlk (wpOp_mono (fun a' w' h' => ⟨fun hkb => h'.1 (gk hkb), by rw [e2]; exact key _ _ h'.2⟩) h'.2)
  | .n is deps kp :: r, listed, a, w, hcl, hB, h => by
    simp only [schedBU, Bool.and_eq_true, List.all_eq_true, Bool.not_eq_true', Bool.or_eq_true] at hB
    obtain ⟨⟨h1, h2⟩, h3⟩ := hB
    obtain ⟨I, hI0, hIS, hIo, hIe⟩ := h
    have key : ∀ (n : Nat) (lx : Array Bool) (a : Act) (w : World) (d : Nat → Bool), closed md ops lx → nB md ops is deps (is.foldl (fun l i => l.setIfInBounds i true) listed) n lx = true → (∀ j ∈ is, d j = lx.getD j false) → I d a w → wpAnyK P md ops Q S ts ls (stepsOfU r + n) lx a w := by
      intro n
      induction n with
      | zero =>
        intro lx a w d hcx hn hd hI
        simp only [nB, Bool.and_eq_true, beq_iff_eq, List.all_eq_true] at hn
        obtain ⟨e, hall⟩ := hn
        rw [← e] at h3
        exact wpAnyK_of_SU hs hQ r _ _ _ hcx h3 (hIe d a w (fun i hi => by rw [hd i hi]; exact hall i hi) hI)
      | succ n ih =>
        intro lx a w d hcx hn hd hI
        simp only [nB, Bool.and_eq_true, Bool.not_eq_true', List.all_eq_true] at hn
        obtain ⟨hne, hall⟩ := hn
        refine ⟨fun h0 => (by rw [h0] at hne; cases hne), fun i hi => ?_⟩
        obtain ⟨⟨hin, hdep⟩, hn'⟩ := hall i hi
        have him : i ∈ is := by simpa using hin
        have hun := (mem_ready.1 hi).1
        have hlt : i < lx.size := by
          rcases Nat.lt_or_ge i lx.size with h' | h'
          · exact h'
          · simp [Array.getElem?_eq_none h'] at hun
        have hdi : d i = false := by
          rw [hd i him]
          simpa [hlt] using hun
        have hg := h1 i him
        unfold opK
        rw [if_neg (by rw [hg.1.1.1]; simp), if_neg (by rw [hg.1.1.2]; simp)]
        refine wpOp_mono (fun a' w' h' => ⟨fun hkb => ?_, ih _ a' w' _ (closed_set hcx hi) hn' (fun j hj => ?_) h'⟩) (hIo i him d a w hdi (fun x hx => ?_) hI)
        · rcases hg.2 with hk | hk
          · exact hIS hk _ _ _ h'
          · rw [hk] at hkb; cases hkb
        · by_cases hji : j = i
          · subst hji
            simp [hlt]
          · have hij : ¬ i = j := fun e => hji e.symm
            simp only [hji, decide_false, Bool.false_or]
            rw [hd j hj]
            simp [Array.getElem?_setIfInBounds, hij]
        · have hx' := hdep x hx
          rw [hd x (by simpa using hx'.1)]
          exact hx'.2
    exact key is.length listed a w (fun _ => false) hcl h2 (fun j hj => by have := (h1 j hj).1.2; exact this.symm) hI0

theorem closed_startU (ops : Array Oper) (n : Nat) : closed md ops (Array.replicate n false) := by
  intro i oi _ h; rw [getD_replicate_false'] at h; cases h

/-- **The beginning.** -/
theorem wp_region_schedU {id : Nat} {Q : Exit → Act → World → Prop} {a : Act} {w : World} {l : List Oper} (S : World → Prop) (ms : List MvU) (hm : P.follows .mixedOrders = true)
    (hB : (Region.noSelect l.toArray && decide (stepsOfU ms ≤ l.length) && schedBU .any l.toArray (tsOfU ms) (lsOfU ms) ms (Array.replicate l.toArray.size false)) = true)
    (hQ : ∀ c (a : Act) (d : Option Tmp) (v : Value) w, Q (.panic c) (a.put d v) w → Q (.panic c) a w)
    (h : wpU P .any l.toArray Q S ms a w.drew) : (Code.region id l.toArray true).wp P Q a w := by
  simp only [Bool.and_eq_true, decide_eq_true_eq] at hB
  refine wp_region_any hm (wpAny_more (stepsOfU ms) _ _ _ _ (by simpa using hB.1.2) (wpAny_of_K _ _ _ _ (wpAnyK_of_SU hB.1.1 hQ ms _ _ _ (closed_start _ _) hB.2 h)))

/-! ### The moves -/
section
variable {l : List Oper} {Q : Exit → Act → World → Prop} {r : List MvU} {a : Act} {w : World} {o : Oper} {i : Nat}
theorem wpU_t {v : Value} (ho : l[i]? = some o) (hw : Region.wanted o (yielded l.toArray a.tmps) = true) (hv : ∀ W, (execOp a.eval o).run P W = .ok (.value v) W) (h : wpU P md l.toArray Q S r (a.put o.dst v) w) : wpU P md l.toArray Q S (.t i :: r) a w :=
  ⟨o, v, by simpa using ho, .inl ⟨hw, hv⟩, h⟩
theorem wpU_t_skip (ho : l[i]? = some o) (hw : Region.wanted o (yielded l.toArray a.tmps) = false) (h : wpU P md l.toArray Q S r (a.put o.dst undef) w) : wpU P md l.toArray Q S (.t i :: r) a w :=
  ⟨o, undef, by simpa using ho, .inr ⟨hw, rfl⟩, h⟩
theorem wpU_s {v : Value} (hS : S w) (ho : l[i]? = some o) (hw : Region.wanted o (yielded l.toArray a.tmps) = true) (hv : ∀ W, S W → (execOp a.eval o).run P W = .ok (.value v) W) (h : wpU P md l.toArray Q S r (a.put o.dst v) w) : wpU P md l.toArray Q S (.s i :: r) a w :=
  ⟨hS, o, v, by simpa using ho, .inl ⟨hw, hv⟩, h⟩
theorem wpU_s_skip (hS : S w) (ho : l[i]? = some o) (hw : Region.wanted o (yielded l.toArray a.tmps) = false) (h : wpU P md l.toArray Q S r (a.put o.dst undef) w) : wpU P md l.toArray Q S (.s i :: r) a w :=
  ⟨hS, o, undef, by simpa using ho, .inr ⟨hw, rfl⟩, h⟩
theorem wpU_e (ho : l[i]? = some o) (hw : Region.wanted o (yielded l.toArray a.tmps) = true) (h : ∀ K : Act → World → Prop, (∀ a' w', wpU P md l.toArray Q S r a' w' → K a' w') → o.wp P a w K Q) : wpU P md l.toArray Q S (.e i false :: r) a w := by
  have ho : l.toArray[i]? = some o := by simpa using ho
  change wpOp P l.toArray Q i _ a w
  unfold wpOp
  simp only [ho, hw, if_true]
  exact .inl (h _ fun a' w' hh => ⟨(fun h => by cases h), hh⟩)
theorem wpU_f' {i j : Nat} (h1 : wpOp P l.toArray Q i (fun a' w' => wpOp P l.toArray Q j (fun a' w' => wpU P md l.toArray Q S r a' w') a' w') a w)
    (h2 : wpOp P l.toArray Q j (fun a' w' => wpOp P l.toArray Q i (fun a' w' => wpU P md l.toArray Q S r a' w') a' w') a w) : wpU P md l.toArray Q S (.f i j false :: r) a w :=
  ⟨wpOp_mono (fun a' w' h => ⟨fun e => (by cases e), wpOp_mono (fun a' w' h => ⟨fun e => (by cases e), h⟩) h⟩) h1,
   wpOp_mono (fun a' w' h => ⟨fun e => (by cases e), wpOp_mono (fun a' w' h => ⟨fun e => (by cases e), h⟩) h⟩) h2⟩
theorem wpU_g {k i j : Nat} (h1 : wpOp P l.toArray Q k (fun a' w' => S w' ∧ wpOp P l.toArray Q i (fun a' w' => S w' ∧ wpOp P l.toArray Q j (fun a' w' => S w' ∧ wpU P md l.toArray Q S r a' w') a' w') a' w') a w)
    (h2 : wpOp P l.toArray Q i (fun a' w' => S w' ∧ wpOp P l.toArray Q k (fun a' w' => S w' ∧ wpOp P l.toArray Q j (fun a' w' => S w' ∧ wpU P md l.toArray Q S r a' w') a' w') a' w' ∧ wpOp P l.toArray Q j (fun a' w' => S w' ∧ wpOp P l.toArray Q k (fun a' w' => S w' ∧ wpU P md l.toArray Q S r a' w') a' w') a' w') a w) : wpU P md l.toArray Q S (.g k i j true :: r) a w :=
  ⟨wpOp_mono (fun a' w' h => ⟨fun _ => h.1, wpOp_mono (fun a' w' h => ⟨fun _ => h.1, wpOp_mono (fun a' w' h => ⟨fun _ => h.1, h.2⟩) h.2⟩) h.2⟩) h1,
   wpOp_mono (fun a' w' h => ⟨fun _ => h.1, wpOp_mono (fun a' w' h => ⟨fun _ => h.1, wpOp_mono (fun a' w' h => ⟨fun _ => h.1, h.2⟩) h.2⟩) h.2.1, wpOp_mono (fun a' w' h => ⟨fun _ => h.1, wpOp_mono (fun a' w' h => ⟨fun _ => h.1, h.2⟩) h.2⟩) h.2.2⟩) h2⟩
theorem wpU_n {is : List Nat} {deps : List (Nat × List Nat)} (I : (Nat → Bool) → Act → World → Prop) (h0 : I (fun _ => false) a w) (hS : ∀ d a w, I d a w → S w)
    (ho : ∀ i ∈ is, ∀ d a w, d i = false → (∀ x ∈ depsOf deps i, d x = true) → I d a w → wpOp P l.toArray Q i (fun a' w' => I (fun j => decide (j = i) || d j) a' w') a w)
    (he : ∀ d a w, (∀ i ∈ is, d i = true) → I d a w → wpU P md l.toArray Q S r a w) : wpU P md l.toArray Q S (.n is deps true :: r) a w := ⟨I, h0, fun _ => hS, ho, he⟩
/-- The same where S is wanted behind both. -/
theorem wpU_fk {i j : Nat} (h1 : wpOp P l.toArray Q i (fun a' w' => S w' ∧ wpOp P l.toArray Q j (fun a' w' => S w' ∧ wpU P md l.toArray Q S r a' w') a' w') a w)
    (h2 : wpOp P l.toArray Q j (fun a' w' => S w' ∧ wpOp P l.toArray Q i (fun a' w' => S w' ∧ wpU P md l.toArray Q S r a' w') a' w') a w) : wpU P md l.toArray Q S (.f i j true :: r) a w :=
  ⟨wpOp_mono (fun a' w' h => ⟨fun _ => h.1, wpOp_mono (fun a' w' h => ⟨fun _ => h.1, h.2⟩) h.2⟩) h1,
   wpOp_mono (fun a' w' h => ⟨fun _ => h.1, wpOp_mono (fun a' w' h => ⟨fun _ => h.1, h.2⟩) h.2⟩) h2⟩
theorem wpU_e_skip (ho : l[i]? = some o) (hw : Region.wanted o (yielded l.toArray a.tmps) = false) (h : wpU P md l.toArray Q S r (a.put o.dst undef) w) : wpU P md l.toArray Q S (.e i false :: r) a w := by
  have ho : l.toArray[i]? = some o := by simpa using ho
  change wpOp P l.toArray Q i _ a w
  unfold wpOp
  simp only [ho, hw, Bool.false_eq_true, if_false]
  exact ⟨fun h => h.elim, h⟩
theorem wpU_k (ho : l[i]? = some o) (hw : Region.wanted o (yielded l.toArray a.tmps) = true) (h : ∀ K : Act → World → Prop, (∀ a' w', S w' ∧ wpU P md l.toArray Q S r a' w' → K a' w') → o.wp P a w K Q) : wpU P md l.toArray Q S (.e i true :: r) a w := by
  have ho : l.toArray[i]? = some o := by simpa using ho
  change wpOp P l.toArray Q i _ a w
  unfold wpOp
  simp only [ho, hw, if_true]
  exact .inl (h _ fun a' w' hh => ⟨fun _ => hh.1, hh.2⟩)
theorem wpU_k_skip (hS : S w) (ho : l[i]? = some o) (hw : Region.wanted o (yielded l.toArray a.tmps) = false) (h : wpU P md l.toArray Q S r (a.put o.dst undef) w) : wpU P md l.toArray Q S (.e i true :: r) a w := by
  have ho : l.toArray[i]? = some o := by simpa using ho
  change wpOp P l.toArray Q i _ a w
  unfold wpOp
  simp only [ho, hw, Bool.false_eq_true, if_false]
  exact ⟨fun _ => hS, h⟩
/-- A load of many cells. -/
theorem wpU_load_mid (hS : S w) (ho : l[i]? = some o) (hg : Region.wanted o (yielded l.toArray a.tmps) = true) (ty : TypeId) (x : Operand) (hop : o.op = .load ty x) (b off : Nat) (hx : a.eval x = .pointer (some ⟨b, off, none⟩)) (cs : List Value) (d : TypeDesc)
    (hc : ∀ W, S W → W.rangeAt b off cs) (hu : P.underlying ty = some d) (hd : d.isRow = true) (hi : (P.info? ty).map (·.size) = some cs.length) (h : wpU P md l.toArray Q S r (a.put o.dst (.agg cs.toArray)) w) : wpU P md l.toArray Q S (.s i :: r) a w :=
  wpU_s hS ho hg (fun W hW => by
    unfold execOp
    simp only [hop, hx, Instr.loadAt, Instr.sureAddr, Sem.run_bind, Sem.run_pure, Result.andThen_ok, run_loadVar_mid W b off ty cs d (hc W hW) hu hd hi]) h
theorem wpU_done (h : Q .normal a w) : wpU P md l.toArray Q S [] a w := h
end
end
end Alm
-- Walk: ShowsNear.
open Go Go.RowKit Alm
namespace Go.Proofs.Ytfmgoehnbaiamaa
theorem sides_step {T : List (Option Sum)} {j : Nat} {x : Option Sum} (h : T[j]? = some x) : sidesOf (T.take (j + 1)) = sidesOf (T.take j) ++ x.toList ∧ sidesOf T = sidesOf (T.take (j + 1)) ++ sidesOf (T.drop (j + 1)) := by
  obtain ⟨hi, e⟩ := List.getElem?_eq_some_iff.1 h
  refine ⟨?_, ?_⟩
  · rw [List.take_succ_eq_append_getElem hi, e]
    unfold sidesOf
    rw [List.filterMap_append]
    cases x <;> rfl
  · unfold sidesOf
    rw [← List.filterMap_append, List.take_append_drop]
theorem sides_at {T : List (Option Sum)} {j : Nat} {t : Sum} (h : T[j]? = some (some t)) : (sidesOf T)[(sidesOf (T.take j)).length]? = some t ∧ (sidesOf (T.take (j + 1))).length = (sidesOf (T.take j)).length + 1 := by
  obtain ⟨h1, h2⟩ := sides_step h
  refine ⟨?_, by rw [h1]; simp⟩
  rw [h2, h1, List.append_assoc, List.getElem?_append_right (Nat.le_refl _), Nat.sub_self]
  rfl
theorem sides_no {T : List (Option Sum)} {j : Nat} (h : T[j]? = some none) : sidesOf (T.take (j + 1)) = sidesOf (T.take j) := by
  rw [(sides_step h).1]; simp
theorem sums_elem {w : World} {b o n c : Nat} {S : List Sum} (h : SumsAt w (.slice (some ⟨b, o, none⟩) n c) S) {i : Nat} {t : Sum} (ht : S[i]? = some t) : w.rangeAt b (o + i * 32) (cellsOf t) := by
  obtain ⟨a, cap, he, h1, h2, h3⟩ := h
  simp only [Value.slice.injEq] at he
  obtain ⟨rfl, -, -⟩ := he
  obtain ⟨hi, e⟩ := List.getElem?_eq_some_iff.1 ht
  obtain ⟨b', o', hb, hr⟩ := h3.resolve_left (by intro e; rw [e] at hi; simp at hi)
  simp only [Option.some.injEq, Addr.mk.injEq, and_true] at hb
  obtain ⟨rfl, rfl⟩ := hb
  rw [← e]
  exact range_at hr hi
theorem sums_ptr {w : World} {a : Option Addr} {n c : Nat} {S : List Sum} (h : SumsAt w (.slice a n c) S) {i : Nat} {t : Sum} (ht : S[i]? = some t) : ∃ b o, a = some ⟨b, o, none⟩ := by
  obtain ⟨a, cap, he, h1, h2, h3⟩ := h
  simp only [Value.slice.injEq] at he
  obtain ⟨rfl, -, -⟩ := he
  obtain ⟨hi, e⟩ := List.getElem?_eq_some_iff.1 ht
  obtain ⟨b', o', hb, hr⟩ := h3.resolve_left (by intro e; rw [e] at hi; simp at hi)
  exact ⟨b', o', hb⟩
theorem bit_ne (k : Sum) (i : Nat) : (Keys.kn k >>> i) % 2 = 1 ↔ (Keys.kn k).testBit i = true := by
  rw [shift_mod]; split <;> simp [*]
theorem bit_eq {k o : Sum} {i : Nat} : (Keys.kn k >>> i) % 2 = (Keys.kn o >>> i) % 2 ↔ (Keys.kn k).testBit i = (Keys.kn o).testBit i := by
  rw [shift_mod, shift_mod]
  cases (Keys.kn k).testBit i <;> cases (Keys.kn o).testBit i <;> simp
set_option maxRecDepth 100000 in
set_option maxHeartbeats 4000000 in
theorem showsNear_any (P : List Keys.Pr) (v : Value) (k : Sum) (mo : Sum) (w : World) (hv : PairsAt w v P) : Calls Try.prog 14 #[v, sv k, sv mo] w fun e w' => e = .returned (.bool true) ∧ Below w.heap.size w w' := by
  have hs1 : (w.alloc (.cells (cellsOf k).toArray 29)).heap.size = w.heap.size + 1 := Array.size_push _
  have hb0 := al (al (Below.refl _ w) (.cells (cellsOf k).toArray 29)) (.cells (cellsOf mo).toArray 29)
  have r1 := World.rangeAt_alloc (range_new w (cellsOf k).toArray 29 _ rfl) (.cells (cellsOf mo).toArray 29)
  have r2 := range_new (w.alloc (.cells (cellsOf k).toArray 29)) (cellsOf mo).toArray 29 _ rfl
  rw [hs1] at r2
  obtain ⟨z, hz⟩ : ∃ z, z = w.heap.size := ⟨_, rfl⟩
  obtain ⟨zm, hzm⟩ : ∃ z, z = w.heap.size + 1 := ⟨_, rfl⟩
  rw [← hz] at r1
  rw [← hzm] at r2
  have H0 := Lib.hid (And.intro hb0 (And.intro (And.intro r1 r2) (hv.below hb0)))
  have HZ := Lib.hid (And.intro hz hzm)
  clear r1 r2 hz hzm hs1
  clear hb0
  obtain ⟨a, cap, rfl, h1, h2⟩ := pairs_form hv
  obtain ⟨N, hN⟩ : ∃ N, N = P.length := ⟨_, rfl⟩
  rw [← hN] at H0 h1
  rw [← hN]
  have HN := Lib.hid hN
  clear hv hN h2
  go_enter Try.func14, Try.ntmps14
  go_wp2_with fail
  rw [← HZ.out.2, ← HZ.out.1]
  generalize (w.alloc (.cells (cellsOf k).toArray 29)).alloc (.cells (cellsOf mo).toArray 29) = W0 at *
  refine (great16_any P _ W0 H0.out.2.2).mono ?_
  rintro e W1 ⟨r, rfl, hr, hb⟩
  have HB1 := Lib.hid (H0.out.1.trans (hb.mono H0.out.1.size))
  have HR1 := Lib.hid (And.intro ((Keeps.of_below (X := fun _ => False) hb).range H0.out.2.1.1 (fun h => h)) (And.intro ((Keeps.of_below (X := fun _ => False) hb).range H0.out.2.1.2 (fun h => h)) (H0.out.2.2.below hb)))
  clear hb H0 HZ
  cases r with
  | true =>
    clear hr HR1
    go_wp2_with fail
    refine (alive16_any W1).mono ?_
    rintro e W2 ⟨rfl, hb2⟩
    have HB2 := Lib.hid (HB1.out.trans (hb2.mono HB1.out.size))
    clear hb2
    go_wp2_with fail
    exact bodyPost_ret (results_tmp rfl _ _ _) rfl ⟨rfl, HB2.out⟩
  | false =>
    have HP := Lib.hid (hr rfl)
    clear hr
    go_wp2_with fail
    refine (of16_any P _ W1 HR1.out.2.2 (by have := HP.out; omega)).mono ?_
    rintro e W2 ⟨p, b, l, x, rfl, hm, hp, _, hbb, _, hb⟩
    rw [← HN.out] at hm
    have H2 := Lib.hid (show LW w W2 p b N l [(z, k), (zm, mo)] [] [] from ⟨HB1.out.trans (hb.mono HB1.out.size), hm, by have := HB1.out.size; omega, fun q hq => by
      rcases List.mem_cons.1 hq with rfl | hq
      · exact (Keeps.of_below (X := fun _ => False) hb).range HR1.out.1 (fun h => h)
      · rw [List.mem_singleton.1 hq]; exact (Keeps.of_below (X := fun _ => False) hb).range HR1.out.2.1 (fun h => h), by simp, by simp⟩)
    have hl := puts_few hp HP.out
    have HL := Lib.hid (And.intro hp (And.intro hl (And.intro (sides_few k hp HP.out) (sides_few mo hp HP.out))))
    clear hm hp hb HB1 HR1 hl hbb
    go_wp2_with (refine wpList_load_sum rfl _ rfl z 0 rfl k (H2.out.r (z, k) (by simp)) ?_)
    refine (sof_any k W2 p b N l H2.out.map (by have := HL.out.2.1; omega)).mono ?_
    rintro e W4 ⟨which, vS, rfl, hS4, hB4, hb⟩
    obtain ⟨S, hS⟩ : ∃ S, S = sidesOf (tells k 256 (prs l)) := ⟨_, rfl⟩
    have hsf := HL.out.2.2.1
    have hsm := hS4.sums
    rw [← hS] at hsm hsf
    have HBT := Lib.hid (And.intro hS hB4)
    obtain ⟨aS, cS, rfl, hf1, hf2⟩ := sums_form hsm
    obtain ⟨M, hM⟩ : ∃ M, M = S.length := ⟨_, rfl⟩
    rw [← hM] at hf1 hsm hsf
    rw [← hM]
    have H4 := Lib.hid (And.intro (H2.out.below hb) hsm)
    have HK := Lib.hid (And.intro hM hsf)
    clear hS4 hB4 hb hS hf2 hM H2 hsf hsm
    have k1 : (M : Int) ≤ (cS : Int) := by omega
    have HG := Lib.hid trivial
    go_wp2_with (first
      | (have _ := HG; refine wpList_var_show (by rfl) rfl _ _ rfl which (.slice aS M cS) (by rfl) rfl rfl ?_; intro W5 hb hr; obtain ⟨z9, hz9⟩ : ∃ x, x = W4.heap.size := ⟨_, rfl⟩; rw [← hz9] at hr ⊢; have H5 := Lib.hid ((H4.out.1.below hb).addS hr (H4.out.2.below hb (Nat.le_refl _))); clear HG hb hr hz9 H4)
      | (have _ := H5; refine wpList_load_sum rfl _ rfl zm 0 rfl mo (H5.out.r (zm, mo) (by simp)) ?_))
    refine (sof_any mo W5 p b N l H5.out.map (by have := HL.out.2.1; omega)).mono ?_
    rintro e W6 ⟨which2, vT, rfl, hS4, hB4, hb⟩
    obtain ⟨S2, hS2⟩ : ∃ S, S = sidesOf (tells mo 256 (prs l)) := ⟨_, rfl⟩
    have hsf := HL.out.2.2.2
    have hsm := hS4.sums
    rw [← hS2] at hsm hsf
    have HBT2 := Lib.hid (And.intro hS2 hB4)
    obtain ⟨aT, cT, rfl, hf3, hf2⟩ := sums_form hsm
    obtain ⟨MT, hMT⟩ : ∃ M, M = S2.length := ⟨_, rfl⟩
    rw [← hMT] at hf3 hsm hsf
    rw [← hMT]
    have H6 := Lib.hid (And.intro (H5.out.below hb) hsm)
    have HK2 := Lib.hid (And.intro hMT hsf)
    clear hS4 hB4 hb hS2 hf2 hMT H5 hsf hsm
    have k2 : (MT : Int) ≤ (cT : Int) := by omega
    have HG := Lib.hid trivial
    go_wp2_with (have _ := HG; refine wpList_var_show (by rfl) rfl _ _ rfl which2 (.slice aT MT cT) (by rfl) rfl rfl ?_; intro W7 hb hr; obtain ⟨z11, hz11⟩ : ∃ x, x = W6.heap.size := ⟨_, rfl⟩; rw [← hz11] at hr ⊢; have H7 := Lib.hid ((H6.out.1.below hb).addS hr (H6.out.2.below hb (Nat.le_refl _))); clear HG hb hr hz11 H6)
    clear hf1 hf3
    go_loopw [13, 14, 15] (fun av iv sv_ W => ∃ (j at_ : Nat), j ≤ 256 ∧ iv = .int .i64 (j : Int) ∧ av = .int .i64 (at_ : Int) ∧ (∀ i, i < j → (Keys.kn k).testBit (255 - i) = (Keys.kn mo).testBit (255 - i)) ∧ at_ = (sidesOf ((tells k 256 (prs l)).take j)).length ∧ LW w W p b N l [(z, k), (zm, mo)] [] [(z11, which2, .slice aT MT cT, S2), (z9, which, .slice aS M cS, S)]) (fun _ iv _ _ => 256 - (intOf iv).toNat)
    case atStart => exact ⟨0, 0, by omega, rfl, rfl, fun i hi => by omega, rfl, H7.out⟩
    case round =>
      clear H7
      obtain ⟨j, at_, hj, rfl, rfl, hag, hat, hS⟩ := hrel
      have H7 := Lib.hid hS
      have HA := Lib.hid (And.intro hag hat)
      clear hS hag hat
      by_cases hlt : j < 256
      · have c1 : decide (j < 256) = true := by simpa using hlt
        have c1' : decide ((j : Int) < 256) = true := by simp; omega
        have HJ := Lib.hid hlt
        clear hj hlt
        obtain ⟨q1, hq1⟩ : ∃ q, q = (Keys.kn k >>> (255 - j)) % 2 := ⟨_, rfl⟩
        obtain ⟨q2, hq2⟩ : ∃ q, q = (Keys.kn mo >>> (255 - j)) % 2 := ⟨_, rfl⟩
        have HQ := Lib.hid (And.intro hq1 hq2)
        clear hq1 hq2
        go_wp2_with fail
        refine wp_region_sched (fun V => LW w V p b N l [(z, k), (zm, mo)] [] [(z11, which2, .slice aT MT cT, S2), (z9, which, .slice aS M cS, S)]) [.t 0, .t 1, .t 2, .t 4, .t 7, .s 3, .s 6, .e 5 true, .e 8 false, .t 9, .t 10] (by kernel_rfl) (by kernel_rfl) (by intro c a d v w h; cases d <;> exact h) ?_
        have HS := Lib.hid (H7.out.below (Below.refl _ _).drew)
        clear H7
        generalize World.drew _ = V at *
        iterate 5
          refine wpS_t rfl (v := ?_) (by rfl) (fun W => ?_) ?_
          rotate_left
          · go_simp
            try rfl
          try simp only [Act.put, List.setIfInBounds_toArray, List.set_cons_zero, List.set_cons_succ]
        refine wpS_load_sum (by exact HS.out) rfl (by rfl) _ (by rfl) z 0 (by rfl) k (fun W hW => hW.r (z, k) (by simp)) ?_
        try simp only [Act.put, List.setIfInBounds_toArray, List.set_cons_zero, List.set_cons_succ]
        refine wpS_load_sum (by exact HS.out) rfl (by rfl) _ (by rfl) zm 0 (by rfl) mo (fun W hW => hW.r (zm, mo) (by simp)) ?_
        try simp only [Act.put, List.setIfInBounds_toArray, List.set_cons_zero, List.set_cons_succ]
        refine wpS_k rfl (by rfl) (fun K hK => ?_)
        go_simp
        have hc := bit_any k j V HJ.out
        rw [← HQ.out.1] at hc
        refine hc.mono ?_
        clear hc
        rintro e V1 ⟨rfl, hb⟩
        have HS1 := Lib.hid (HS.out.below hb)
        clear hb HS
        refine hK _ _ ⟨by exact HS1.out, ?_⟩; clear hK K
        try simp only [Act.put, List.setIfInBounds_toArray, List.set_cons_zero, List.set_cons_succ]
        refine wpS_e rfl (by rfl) (fun K hK => ?_)
        go_simp
        have hc := bit_any mo j V1 HJ.out
        rw [← HQ.out.2] at hc
        refine hc.mono ?_
        clear hc
        rintro e V2 ⟨rfl, hb⟩
        have HS2 := Lib.hid (HS1.out.below hb)
        clear hb HS1
        refine hK _ _ ?_; clear hK K
        try simp only [Act.put, List.setIfInBounds_toArray, List.set_cons_zero, List.set_cons_succ]
        have hbe := @bit_eq k mo (255 - j)
        rw [← HQ.out.1, ← HQ.out.2] at hbe
        by_cases hqq : q1 = q2
        · have hbk := hbe.1 hqq
          subst hqq
          have hall : ∀ i, i ≤ j → (Keys.kn k).testBit (255 - i) = (Keys.kn mo).testBit (255 - i) := fun i hi => by
            rcases Nat.lt_or_ge i j with h | h
            · exact HA.out.1 i h
            · rw [show i = j by omega]; exact hbk
          have htk := tells_near (k := k) (o := mo) 256 (prs l) j hall HJ.out
          have HTK := Lib.hid (And.intro hall htk)
          clear hbe hbk hall htk
          iterate 2
            refine wpS_t rfl (v := ?_) (by rfl) (fun W => ?_) ?_
            rotate_left
            · go_simp
              try rfl
            try simp only [Act.put, List.setIfInBounds_toArray, List.set_cons_zero, List.set_cons_succ]
          refine wpS_done ?_
          go_wp2_with (refine wpList_load_sum rfl _ rfl z9 0 rfl which (which_show (HS2.out.s (z9, which, .slice aS M cS, S) (by simp)).1) ?_)
          refine (bit_any which j V2 HJ.out).mono ?_
          rintro e V3 ⟨rfl, hb⟩
          have HS3 := Lib.hid (HS2.out.below hb)
          clear hb HS2
          have hT1 : (tells k 256 (prs l))[j]? = (tells mo 256 (prs l))[j]? := by
            have h := congrArg (fun x => x[j]?) HTK.out.2
            simp only [List.getElem?_take_of_lt (Nat.lt_succ_self j)] at h
            exact h
          have hlen : j < (tells k 256 (prs l)).length := by rw [length_tells]; exact HJ.out
          obtain ⟨x1, hx1⟩ : ∃ x, (tells k 256 (prs l))[j]? = some x := ⟨_, List.getElem?_eq_getElem hlen⟩
          have hx2 : (tells mo 256 (prs l))[j]? = some x1 := by rw [← hT1]; exact hx1
          have hb1 : (Keys.kn which).testBit (255 - j) = x1.isSome := by
            have h := HBT.out.2 j HJ.out
            rw [List.getD_eq_getElem?_getD, hx1] at h
            exact h
          have hb2 : (Keys.kn which2).testBit (255 - j) = x1.isSome := by
            have h := HBT2.out.2 j HJ.out
            rw [List.getD_eq_getElem?_getD, hx2] at h
            exact h
          have hw1 : (Keys.kn which >>> (255 - j)) % 2 = if x1.isSome = true then 1 else 0 := by rw [shift_mod, hb1]
          have hw2 : (Keys.kn which2 >>> (255 - j)) % 2 = if x1.isSome = true then 1 else 0 := by rw [shift_mod, hb2]
          rw [hw1]
          have HW2 := Lib.hid hw2
          have HX := Lib.hid (And.intro hx1 hx2)
          clear hT1 hlen hx1 hx2 hb1 hb2 hw1 hw2
          have hwj : wrap64 ((j : Int) + 1) = ((j + 1 : Nat) : Int) := by have := HJ.out; unfold wrap64; omega
          have HWJ := Lib.hid hwj
          clear hwj
          cases x1 with
          | none =>
            have e0 : (if (none : Option Sum).isSome = true then 1 else 0 : Nat) = 0 := rfl
            rw [e0] at HW2 ⊢
            clear e0
            go_wp2_with (refine wpList_load_sum rfl _ rfl z11 0 rfl which2 (which_show (HS3.out.s (z11, which2, .slice aT MT cT, S2) (by simp)).1) ?_)
            refine (bit_any which2 j V3 HJ.out).mono ?_
            rw [HW2.out]
            rintro e V4 ⟨rfl, hb⟩
            have HS4 := Lib.hid (HS3.out.below hb)
            clear hb HS3
            go_wp2_with fail
            try rw [HWJ.out]
            exact ⟨⟨j + 1, at_, by have := HJ.out; omega, rfl, rfl, fun i hi => HTK.out.1 i (by omega), by rw [sides_no HX.out.1]; exact HA.out.2, HS4.out⟩, by simp only [intOf]; have := HJ.out; omega⟩
          | some t =>
            have e0 : (if (some t : Option Sum).isSome = true then 1 else 0 : Nat) = 1 := rfl
            rw [e0] at HW2 ⊢
            clear e0
            go_wp2_with (refine wpList_load_sum rfl _ rfl z11 0 rfl which2 (which_show (HS3.out.s (z11, which2, .slice aT MT cT, S2) (by simp)).1) ?_)
            refine (bit_any which2 j V3 HJ.out).mono ?_
            rw [HW2.out]
            rintro e V4 ⟨rfl, hb⟩
            have HS4 := Lib.hid (HS3.out.below hb)
            clear hb HS3
            have ha1 := sides_at HX.out.1
            have ha2 := sides_at HX.out.2
            have heq : (sidesOf ((tells mo 256 (prs l)).take j)).length = at_ := by
              rw [HA.out.2]
              have h := congrArg (fun x => (sidesOf (x.take j)).length) HTK.out.2
              simp only [List.take_take, Nat.min_eq_left (Nat.le_succ j)] at h
              exact h.symm
            rw [heq, ← HBT2.out.1] at ha2
            rw [← HA.out.2, ← HBT.out.1] at ha1
            have hat1 : at_ < M := by rw [HK.out.1]; exact (List.getElem?_eq_some_iff.1 ha1.1).1
            have hat2 : at_ < MT := by rw [HK2.out.1]; exact (List.getElem?_eq_some_iff.1 ha2.1).1
            obtain ⟨bS, oS, rfl⟩ := sums_ptr (HS4.out.s (z9, which, .slice aS M cS, S) (by simp)).2 ha1.1
            obtain ⟨bT, oT, rfl⟩ := sums_ptr (HS4.out.s (z11, which2, .slice aT MT cT, S2) (by simp)).2 ha2.1
            have HAT := Lib.hid (And.intro ha1 ha2.1)
            have hmb : M ≤ 16 := HK.out.2
            clear heq ha1 ha2
            have hwa : wrap64 ((at_ : Int) + 1) = ((at_ + 1 : Nat) : Int) := by unfold wrap64; omega
            have HWA := Lib.hid hwa
            have g1 : decide (M ≤ at_) = false := decide_eq_false (Nat.not_le.2 hat1)
            have g1' : decide ((M : Int) ≤ (at_ : Int)) = false := decide_eq_false (Int.not_le.2 (Int.ofNat_lt.2 hat1))
            have g2 : decide (MT ≤ at_) = false := decide_eq_false (Nat.not_le.2 hat2)
            have g2' : decide ((MT : Int) ≤ (at_ : Int)) = false := decide_eq_false (Int.not_le.2 (Int.ofNat_lt.2 hat2))
            have a0 : (0 : Int) ≤ (at_ : Int) := Int.natCast_nonneg _
            have a1 : (at_ : Int) < (M : Int) := Int.ofNat_lt.2 hat1
            have a2 : (at_ : Int) < (MT : Int) := Int.ofNat_lt.2 hat2
            clear hat1 hat2 hmb hwa
            go_wp2_with fail
            refine wp_region_sched (fun V => LW w V p b N l [(z, k), (zm, mo)] [] [(z11, which2, .slice (some ⟨bT, oT, none⟩) MT cT, S2), (z9, which, .slice (some ⟨bS, oS, none⟩) M cS, S)]) [.t 0, .t 1, .e 2 true, .t 3, .t 4, .t 5, .t 6, .t 7, .e 8 true, .t 9, .t 10, .t 11, .t 12, .t 13, .t 15, .t 18, .t 20, .s 14, .t 16, .s 17, .e 19 true, .t 21, .e 22 true, .t 23, .t 24] (by kernel_rfl) (by kernel_rfl) (by intro c a d v w h; cases d <;> exact h) ?_
            have HS5 := Lib.hid (HS4.out.below (Below.refl _ _).drew)
            clear HS4
            generalize World.drew _ = V5 at *
            have hes := eq_sums_same t
            iterate 2
              refine wpS_t rfl (v := ?_) (by rfl) (fun W => ?_) ?_
              rotate_left
              · go_simp
                try rfl
              try simp only [Act.put, List.setIfInBounds_toArray, List.set_cons_zero, List.set_cons_succ]
            refine wpS_k rfl (by rfl) (fun K hK => ?_)
            have g := cell_show (HS5.out.s (z9, which, .slice (some ⟨bS, oS, none⟩) M cS, S) (by simp)).1
            go_simp
            refine hK _ _ ⟨by exact HS5.out, ?_⟩; clear hK K
            try simp only [Act.put, List.setIfInBounds_toArray, List.set_cons_zero, List.set_cons_succ]
            clear g
            iterate 5
              refine wpS_t rfl (v := ?_) (by rfl) (fun W => ?_) ?_
              rotate_left
              · go_simp
                try rfl
              try simp only [Act.put, List.setIfInBounds_toArray, List.set_cons_zero, List.set_cons_succ]
            refine wpS_k rfl (by rfl) (fun K hK => ?_)
            have g := cell_show (HS5.out.s (z11, which2, .slice (some ⟨bT, oT, none⟩) MT cT, S2) (by simp)).1
            go_simp
            refine hK _ _ ⟨by exact HS5.out, ?_⟩; clear hK K
            try simp only [Act.put, List.setIfInBounds_toArray, List.set_cons_zero, List.set_cons_succ]
            clear g
            iterate 8
              refine wpS_t rfl (v := ?_) (by rfl) (fun W => ?_) ?_
              rotate_left
              · go_simp
                try rfl
              try simp only [Act.put, List.setIfInBounds_toArray, List.set_cons_zero, List.set_cons_succ]
            refine wpS_s (by exact HS5.out) rfl (v := .slice (some ⟨bS, oS, none⟩) M cS) (by rfl) (fun W hW => ?_) ?_
            · have g := cell_show (hW.s (z9, which, .slice (some ⟨bS, oS, none⟩) M cS, S) (by simp)).1
              go_simp
            try simp only [Act.put, List.setIfInBounds_toArray, List.set_cons_zero, List.set_cons_succ]
            iterate 1
              refine wpS_t rfl (v := ?_) (by rfl) (fun W => ?_) ?_
              rotate_left
              · go_simp
                try rfl
              try simp only [Act.put, List.setIfInBounds_toArray, List.set_cons_zero, List.set_cons_succ]
            refine wpS_load_sum (by exact HS5.out) rfl (by rfl) _ (by rfl) bS (oS + at_ * 32) (by rfl) t (fun W hW => sums_elem (hW.s (z9, which, .slice (some ⟨bS, oS, none⟩) M cS, S) (by simp)).2 HAT.out.1.1) ?_
            try simp only [Act.put, List.setIfInBounds_toArray, List.set_cons_zero, List.set_cons_succ]
            refine wpS_k rfl (by rfl) (fun K hK => ?_)
            have g := cell_show (HS5.out.s (z11, which2, .slice (some ⟨bT, oT, none⟩) MT cT, S2) (by simp)).1
            go_simp
            refine hK _ _ ⟨by exact HS5.out, ?_⟩; clear hK K
            try simp only [Act.put, List.setIfInBounds_toArray, List.set_cons_zero, List.set_cons_succ]
            clear g
            iterate 1
              refine wpS_t rfl (v := ?_) (by rfl) (fun W => ?_) ?_
              rotate_left
              · go_simp
                try rfl
              try simp only [Act.put, List.setIfInBounds_toArray, List.set_cons_zero, List.set_cons_succ]
            refine wpS_k rfl (by rfl) (fun K hK => ?_)
            refine wp_load_sum _ (by rfl) bT (oT + at_ * 32) (by rfl) t (sums_elem (HS5.out.s (z11, which2, .slice (some ⟨bT, oT, none⟩) MT cT, S2) (by simp)).2 HAT.out.2) ?_
            refine hK _ _ ⟨by exact HS5.out, ?_⟩; clear hK K
            try simp only [Act.put, List.setIfInBounds_toArray, List.set_cons_zero, List.set_cons_succ]
            iterate 2
              refine wpS_t rfl (v := ?_) (by rfl) (fun W => ?_) ?_
              rotate_left
              · go_simp
                try rfl
              try simp only [Act.put, List.setIfInBounds_toArray, List.set_cons_zero, List.set_cons_succ]
            refine wpS_done ?_
            go_wp2_with fail
            try rw [HWA.out]
            try rw [HWJ.out]
            exact ⟨⟨j + 1, at_ + 1, by have := HJ.out; omega, rfl, rfl, fun i hi => HTK.out.1 i (by omega), by rw [(sides_at HX.out.1).2, ← HA.out.2], HS5.out⟩, by simp only [intOf]; have := HJ.out; omega⟩
        · have n1 : ((q1 : Int) == (q2 : Int)) = false := by rw [beq_eq_false_iff_ne]; omega
          have n2 : decide (q1 = q2) = false := by simpa using hqq
          have n3 : decide ((q1 : Int) = (q2 : Int)) = false := by simp; omega
          clear hbe
          iterate 2
            refine wpS_t rfl (v := ?_) (by rfl) (fun W => ?_) ?_
            rotate_left
            · go_simp
              try rfl
            try simp only [Act.put, List.setIfInBounds_toArray, List.set_cons_zero, List.set_cons_succ]
          refine wpS_done ?_
          go_wp2_with fail
          refine (alive16_any V2).mono ?_
          rintro e V3 ⟨rfl, hb⟩
          have HB3 := Lib.hid (HS2.out.bw.trans (hb.mono HS2.out.bw.size))
          clear hb
          go_wp2_with fail
          exact bodyPost_ret (results_tmp rfl _ _ _) rfl ⟨rfl, HB3.out⟩
      · have hj' : j = 256 := by omega
        subst hj'
        clear hlt hj
        go_wp2_with fail
        refine wp_region_sched (fun V => True) [.t 0, .t 1, .t 2, .t 4, .t 7, .s 3, .s 6, .e 5 true, .e 8 false, .t 9, .t 10] (by kernel_rfl) (by kernel_rfl) (by intro c a d v w h; cases d <;> exact h) ?_
        have HS := Lib.hid (H7.out.below (Below.refl _ _).drew)
        clear H7
        generalize World.drew _ = V at *
        iterate 3
          refine wpS_t rfl (v := ?_) (by rfl) (fun W => ?_) ?_
          rotate_left
          · go_simp
            try rfl
          try simp only [Act.put, List.setIfInBounds_toArray, List.set_cons_zero, List.set_cons_succ]
        iterate 2
          refine wpS_t_skip rfl (by rfl) ?_
          try simp only [Act.put, List.setIfInBounds_toArray, List.set_cons_zero, List.set_cons_succ]
        iterate 2
          refine wpS_s_skip (trivial) rfl (by rfl) ?_
          try simp only [Act.put, List.setIfInBounds_toArray, List.set_cons_zero, List.set_cons_succ]
        refine wpS_k_skip (trivial) rfl (by rfl) ?_
        try simp only [Act.put, List.setIfInBounds_toArray, List.set_cons_zero, List.set_cons_succ]
        refine wpS_e_skip rfl (by rfl) ?_
        try simp only [Act.put, List.setIfInBounds_toArray, List.set_cons_zero, List.set_cons_succ]
        iterate 1
          refine wpS_t_skip rfl (by rfl) ?_
          try simp only [Act.put, List.setIfInBounds_toArray, List.set_cons_zero, List.set_cons_succ]
        iterate 1
          refine wpS_t rfl (v := ?_) (by rfl) (fun W => ?_) ?_
          rotate_left
          · go_simp
            try rfl
          try simp only [Act.put, List.setIfInBounds_toArray, List.set_cons_zero, List.set_cons_succ]
        refine wpS_done ?_
        go_wp2_with fail
        refine (alive16_any V).mono ?_
        rintro e V3 ⟨rfl, hb⟩
        have HB3 := Lib.hid (HS.out.bw.trans (hb.mono HS.out.bw.size))
        clear hb
        go_wp2_with fail
        exact bodyPost_ret (results_tmp rfl _ _ _) rfl ⟨rfl, HB3.out⟩
end Go.Proofs.Ytfmgoehnbaiamaa
-- A show put together, in any order.
open Go Go.RowKit Alm
namespace Go.Proofs.Ytfmgoehnbaiamaa
set_option maxRecDepth 100000 in
theorem build_sh (b0 b1 b2 b3 b4 b5 b6 b7 b8 b9 b10 b11 b12 b13 b14 b15 b16 b17 b18 b19 b20 b21 b22 b23 b24 b25 b26 b27 b28 b29 b30 b31 : UInt8) (a : Option Addr) (n c : Nat) (w : World) : (Instr.build 59 #[(0, .agg #[.int .u8 ((b0.toNat : Nat) : Int), .int .u8 ((b1.toNat : Nat) : Int), .int .u8 ((b2.toNat : Nat) : Int), .int .u8 ((b3.toNat : Nat) : Int), .int .u8 ((b4.toNat : Nat) : Int), .int .u8 ((b5.toNat : Nat) : Int), .int .u8 ((b6.toNat : Nat) : Int), .int .u8 ((b7.toNat : Nat) : Int), .int .u8 ((b8.toNat : Nat) : Int), .int .u8 ((b9.toNat : Nat) : Int), .int .u8 ((b10.toNat : Nat) : Int), .int .u8 ((b11.toNat : Nat) : Int), .int .u8 ((b12.toNat : Nat) : Int), .int .u8 ((b13.toNat : Nat) : Int), .int .u8 ((b14.toNat : Nat) : Int), .int .u8 ((b15.toNat : Nat) : Int), .int .u8 ((b16.toNat : Nat) : Int), .int .u8 ((b17.toNat : Nat) : Int), .int .u8 ((b18.toNat : Nat) : Int), .int .u8 ((b19.toNat : Nat) : Int), .int .u8 ((b20.toNat : Nat) : Int), .int .u8 ((b21.toNat : Nat) : Int), .int .u8 ((b22.toNat : Nat) : Int), .int .u8 ((b23.toNat : Nat) : Int), .int .u8 ((b24.toNat : Nat) : Int), .int .u8 ((b25.toNat : Nat) : Int), .int .u8 ((b26.toNat : Nat) : Int), .int .u8 ((b27.toNat : Nat) : Int), .int .u8 ((b28.toNat : Nat) : Int), .int .u8 ((b29.toNat : Nat) : Int), .int .u8 ((b30.toNat : Nat) : Int), .int .u8 ((b31.toNat : Nat) : Int)]), (1, .slice a n c)]).run Try.prog w = .ok (.agg #[.int .u8 ((b0.toNat : Nat) : Int), .int .u8 ((b1.toNat : Nat) : Int), .int .u8 ((b2.toNat : Nat) : Int), .int .u8 ((b3.toNat : Nat) : Int), .int .u8 ((b4.toNat : Nat) : Int), .int .u8 ((b5.toNat : Nat) : Int), .int .u8 ((b6.toNat : Nat) : Int), .int .u8 ((b7.toNat : Nat) : Int), .int .u8 ((b8.toNat : Nat) : Int), .int .u8 ((b9.toNat : Nat) : Int), .int .u8 ((b10.toNat : Nat) : Int), .int .u8 ((b11.toNat : Nat) : Int), .int .u8 ((b12.toNat : Nat) : Int), .int .u8 ((b13.toNat : Nat) : Int), .int .u8 ((b14.toNat : Nat) : Int), .int .u8 ((b15.toNat : Nat) : Int), .int .u8 ((b16.toNat : Nat) : Int), .int .u8 ((b17.toNat : Nat) : Int), .int .u8 ((b18.toNat : Nat) : Int), .int .u8 ((b19.toNat : Nat) : Int), .int .u8 ((b20.toNat : Nat) : Int), .int .u8 ((b21.toNat : Nat) : Int), .int .u8 ((b22.toNat : Nat) : Int), .int .u8 ((b23.toNat : Nat) : Int), .int .u8 ((b24.toNat : Nat) : Int), .int .u8 ((b25.toNat : Nat) : Int), .int .u8 ((b26.toNat : Nat) : Int), .int .u8 ((b27.toNat : Nat) : Int), .int .u8 ((b28.toNat : Nat) : Int), .int .u8 ((b29.toNat : Nat) : Int), .int .u8 ((b30.toNat : Nat) : Int), .int .u8 ((b31.toNat : Nat) : Int), .slice a n c]) w := by kernel_rfl
theorem build_show (which : Sum) (ad : Option Addr) (n c : Nat) (w : World) : (Instr.build 59 #[(0, sv which), (1, .slice ad n c)]).run Try.prog w = .ok (shV which (.slice ad n c)) w := by
  obtain ⟨b0, b1, b2, b3, b4, b5, b6, b7, b8, b9, b10, b11, b12, b13, b14, b15, b16, b17, b18, b19, b20, b21, b22, b23, b24, b25, b26, b27, b28, b29, b30, b31, h⟩ := list32x which.toList (by simp)
  have h1 : cellsOf which = [.int .u8 ((b0.toNat : Nat) : Int), .int .u8 ((b1.toNat : Nat) : Int), .int .u8 ((b2.toNat : Nat) : Int), .int .u8 ((b3.toNat : Nat) : Int), .int .u8 ((b4.toNat : Nat) : Int), .int .u8 ((b5.toNat : Nat) : Int), .int .u8 ((b6.toNat : Nat) : Int), .int .u8 ((b7.toNat : Nat) : Int), .int .u8 ((b8.toNat : Nat) : Int), .int .u8 ((b9.toNat : Nat) : Int), .int .u8 ((b10.toNat : Nat) : Int), .int .u8 ((b11.toNat : Nat) : Int), .int .u8 ((b12.toNat : Nat) : Int), .int .u8 ((b13.toNat : Nat) : Int), .int .u8 ((b14.toNat : Nat) : Int), .int .u8 ((b15.toNat : Nat) : Int), .int .u8 ((b16.toNat : Nat) : Int), .int .u8 ((b17.toNat : Nat) : Int), .int .u8 ((b18.toNat : Nat) : Int), .int .u8 ((b19.toNat : Nat) : Int), .int .u8 ((b20.toNat : Nat) : Int), .int .u8 ((b21.toNat : Nat) : Int), .int .u8 ((b22.toNat : Nat) : Int), .int .u8 ((b23.toNat : Nat) : Int), .int .u8 ((b24.toNat : Nat) : Int), .int .u8 ((b25.toNat : Nat) : Int), .int .u8 ((b26.toNat : Nat) : Int), .int .u8 ((b27.toNat : Nat) : Int), .int .u8 ((b28.toNat : Nat) : Int), .int .u8 ((b29.toNat : Nat) : Int), .int .u8 ((b30.toNat : Nat) : Int), .int .u8 ((b31.toNat : Nat) : Int)] := by unfold cellsOf; rw [h]; rfl
  show (Instr.build 59 #[(0, .agg (cellsOf which).toArray), (1, .slice ad n c)]).run Try.prog w = .ok (.agg (cellsOf which ++ [Value.slice ad n c]).toArray) w
  rw [h1]
  exact build_sh b0 b1 b2 b3 b4 b5 b6 b7 b8 b9 b10 b11 b12 b13 b14 b15 b16 b17 b18 b19 b20 b21 b22 b23 b24 b25 b26 b27 b28 b29 b30 b31 _ _ _ w
theorem exec_build_show {f : Operand → Value} {o : Oper} (parts : Array (Nat × Operand)) (ho : o.op = .build 59 parts) (which : Sum) (ad : Option Addr) (n c : Nat) (hp : (parts.toList.map fun (i, y) => (i, f y)) = [(0, sv which), (1, .slice ad n c)]) (W : World) :
    (execOp f o).run Try.prog W = .ok (.value (shV which (.slice ad n c))) W := by
  have : (parts.map fun (i, y) => (i, f y)) = #[(0, sv which), (1, .slice ad n c)] := by
    apply Array.toList_inj.1
    rw [Array.toList_map]; exact hp
  unfold execOp
  simp only [ho, Sem.run_bind, Sem.run_pure, Result.andThen_ok, this, build_show which ad n c W]
theorem wp_store_show {op : Oper} {a : Act} {w : World} {K : Act → World → Prop} {Q : Exit → Act → World → Prop} (x y : Operand) (ho : op.op = .store 59 x y)
    (b o : Nat) (which : Sum) (v : Value) (hv : v.oneCell' = true) (hx : a.eval x = .pointer (some ⟨b, o, none⟩)) (hy : a.eval y = shV which v) (ht : w.there b o 33) (h : K (a.put op.dst undef) (w.setCells b o (cellsShow which v))) : op.wp Try.prog a w K Q := by
  have hsz : (cellsShow which v).toArray.size = 33 := by rw [List.size_toArray, length_cellsShow]
  exact wp_store_mid _ x y ho b o _ hx hy (by rw [hsz]; exact ht) (by rw [hsz]; exact infoShow) (one_cellsShow which hv) h
theorem own_one {w : World} {base : Nat} {e : TypeId} {size : Nat} {v : Value} {n : Nat} {xs : List Value} (h : w.ownsRow base e size v n xs) : v.oneCell' = true := by
  rcases h.2 with ⟨rfl, _⟩ | ⟨g, cap, cur, rfl, _⟩ <;> rfl
/-- append(nil, s...) of sums. -/
theorem wp_app_nil_sums {w : World} {o : Oper} {a : Act} {K : Act → World → Prop} {Q : Exit → Act → World → Prop} (s x : Operand)
    (ho : o.op = .call { callee := .builtin .append, args := #[s, x], argTypes := #[57, 57] }) (hs : a.eval s = .slice none 0 0) (v : Value) (S : List Sum) (hx : a.eval x = v) (hv : SumsAt w v S) (hl : S.length < 4000000000) (base : Nat) (hB : base ≤ w.heap.size)
    (h : ∀ (v' : Value) (w' : World), w'.ownsRow base 29 32 v' S.length (cellsAll S) → Below w.heap.size w w' → (∀ g, v'.ownBlock = some g → g = w.heap.size) → K (a.put o.dst v') w') : o.wp Try.prog a w K Q := by
  obtain ⟨i0, z0, hi0, _, _, _, _⟩ := info_sum
  obtain ⟨ad, cap, rfl, h1, h2, h3⟩ := hv
  by_cases hb : S = []
  · subst hb
    have hrun : (Builtin.append_ #[57, 57] o.type #[.slice none 0 0, .slice ad 0 cap]).run Try.prog w = .ok (.slice none 0 0) w := by
      cases ad <;> simp [Builtin.append_, run_underlying Try.underlying57, sizeOf, typeInfo, hi0, Builtin.lenOf, Builtin.firstCells, loadCells, loadCellsFrom]
    unfold Oper.wp
    simp [execOp, ho, resolve, invoke, builtin, hs, hx, hrun, Result.andThen]
    exact h _ w (World.ownsRow_nil _ _ _ _) (Below.refl _ _) (fun g hg => by cases hg)
  · obtain ⟨b, off, rfl, hr⟩ := h3.resolve_left hb
    refine wp_append_sums s x ho base (.slice none 0 0) [] S 0 S.length rfl rfl hs (World.ownsRow_nil _ _ _ _) b off cap hx hr (List.length_pos_iff.2 hb) (by omega) hB ?_
    intro g' cap' w' ho' hg' hat _
    rw [Nat.zero_add, List.nil_append] at ho'
    rw [Nat.zero_add]
    refine h _ w' ho' (Keeps.below (B := w.heap.size) (Keeps.of_grown (X := fun _ => False) hg' (fun k hk => by cases hk)) (Nat.le_refl _) (fun _ h => h.elim)) (fun q hq => ?_)
    simp only [Value.ownBlock, Option.some.injEq] at hq
    rw [← hq]
    rcases hat with h | h
    · cases h
    · exact h
def pt (b : Bool) (a : Act) (t : Nat) (x : Value) : Act := if b = true then a.put (some t) x else a
/-- What stands while a show is put together. -/
structure CI (V W : World) (S : List Sum) (mo : Sum) (d4 d6 d7 d9 : Bool) (x4 x6 x7 x9 : Value) : Prop where
  bw : Below V.heap.size V W
  i4 : d4 = true → d7 = false → W.ownsRow V.heap.size 29 32 x4 S.length (cellsAll S)
  i6 : d6 = true → d7 = false → ∃ g, x6 = .slice (some ⟨g, 0, none⟩) 1 1 ∧ W.rangeAt g 0 (cellsOf mo)
  i7 : d7 = true → W.ownsRow V.heap.size 29 32 x7 (S.length + 1) (cellsAll (S ++ [mo]))
  i9 : d9 = true → ∃ g, x9 = .pointer (some ⟨g, 0, none⟩) ∧ W.there g 0 33 ∧ V.heap.size ≤ g ∧ (d4 = true → d7 = false → ∀ k, x4.ownBlock = some k → k ≠ g) ∧ (d7 = true → ∀ k, x7.ownBlock = some k → k ≠ g)
theorem CI.t4 {V W W' : World} {S : List Sum} {mo : Sum} {d6 d7 d9 : Bool} {x4 x6 x7 x9 v : Value} (h : CI V W S mo false d6 d7 d9 x4 x6 x7 x9) (ho : W'.ownsRow V.heap.size 29 32 v S.length (cellsAll S)) (hb : Below W.heap.size W W') (hg : ∀ g, v.ownBlock = some g → g = W.heap.size) : CI V W' S mo true d6 d7 d9 v x6 x7 x9 :=
  have kk := Keeps.of_below (X := fun _ => False) hb
  ⟨h.bw.trans (hb.mono h.bw.size), fun _ _ => ho, fun h1 h2 => by obtain ⟨g, e, r⟩ := h.i6 h1 h2; exact ⟨g, e, kk.range r (fun h => h)⟩, fun h1 => kk.owns (h.i7 h1) (fun _ _ h => h), fun h1 => by
    obtain ⟨g, e, t, l, _, r⟩ := h.i9 h1
    exact ⟨g, e, kk.there t (by decide) (fun h => h), l, fun _ _ k hk => by have := hg k hk; have := there_lt t (by decide); omega, r⟩⟩
theorem CI.t6 {V W W' : World} {S : List Sum} {mo : Sum} {d4 d7 d9 : Bool} {x4 x6 x7 x9 : Value} (h : CI V W S mo d4 false d7 d9 x4 x6 x7 x9) (hb : Below W.heap.size W W') {g : Nat} (hr : W'.rangeAt g 0 (cellsOf mo)) : CI V W' S mo d4 true d7 d9 x4 (.slice (some ⟨g, 0, none⟩) 1 1) x7 x9 :=
  have kk := Keeps.of_below (X := fun _ => False) hb
  ⟨h.bw.trans (hb.mono h.bw.size), fun h1 h2 => kk.owns (h.i4 h1 h2) (fun _ _ h => h), fun _ _ => ⟨g, rfl, hr⟩, fun h1 => kk.owns (h.i7 h1) (fun _ _ h => h), fun h1 => by
    obtain ⟨g, e, t, l, q, r⟩ := h.i9 h1
    exact ⟨g, e, kk.there t (by decide) (fun h => h), l, q, r⟩⟩
theorem CI.t9 {V W : World} {S : List Sum} {mo : Sum} {d4 d6 d7 : Bool} {x4 x6 x7 x9 : Value} (h : CI V W S mo d4 d6 d7 false x4 x6 x7 x9) {C : Array Value} {t : TypeId} (hC : C.size = 33) : CI V (W.alloc (.cells C t)) S mo d4 d6 d7 true x4 x6 x7 (.pointer (some ⟨W.heap.size, 0, none⟩)) :=
  have hb : Below W.heap.size W (W.alloc (.cells C t)) := al (Below.refl _ _) _
  have kk := Keeps.of_below (X := fun _ => False) hb
  ⟨h.bw.trans (hb.mono h.bw.size), fun h1 h2 => kk.owns (h.i4 h1 h2) (fun _ _ h => h), fun h1 h2 => by obtain ⟨g, e, r⟩ := h.i6 h1 h2; exact ⟨g, e, kk.range r (fun h => h)⟩, fun h1 => kk.owns (h.i7 h1) (fun _ _ h => h), fun _ =>
    ⟨W.heap.size, rfl, by rw [← hC]; exact there_new _ _ _, h.bw.size, fun h1 h2 k hk => by have := own_lt (h.i4 h1 h2) hk; omega, fun h1 k hk => by have := own_lt (h.i7 h1) hk; omega⟩⟩
theorem CI.t7 {V W W' : World} {S : List Sum} {mo : Sum} {d9 : Bool} {x4 x6 x7 x9 : Value} {g cap : Nat} (h : CI V W S mo true true false d9 x4 x6 x7 x9) (ho : W'.ownsRow V.heap.size 29 32 (.slice (some ⟨g, 0, none⟩) (S.length + 1) cap) (S.length + 1) (cellsAll (S ++ [mo]))) (hg : W.grownBy W' x4.ownBlock) (hat : x4.ownBlock = some g ∨ g = W.heap.size) : CI V W' S mo true true true d9 x4 x6 (.slice (some ⟨g, 0, none⟩) (S.length + 1) cap) x9 :=
  have kk := Keeps.of_grown (X := fun i => x4.ownBlock = some i) hg (fun k hk => hk)
  ⟨h.bw.trans (kk.below h.bw.size (fun i hi => own_base (h.i4 rfl rfl) i hi)), fun _ h => (by cases h), fun _ h => (by cases h), fun _ => ho, fun h1 => by
    obtain ⟨q, e, t, l, q4, _⟩ := h.i9 h1
    refine ⟨q, e, kk.there t (by decide) (fun hx => q4 rfl rfl q hx rfl), l, fun _ h => (by cases h), fun _ k hk => ?_⟩
    simp only [Value.ownBlock, Option.some.injEq] at hk
    rw [← hk]
    rcases hat with h | h
    · exact q4 rfl rfl g h
    · have := there_lt t (by decide)
      omega⟩
def FI (V : World) (S : List Sum) (mo which : Sum) (a0 : Act) (b4 b6 b7 b8 b9 : Bool) (a' : Act) (W : World) : Prop :=
  ∃ x4 x6 x7 x8 x9, a' = pt b9 (pt b8 (pt b7 (pt b6 (pt b4 a0 44 x4) 46 x6) 47 x7) 48 x8) 13 x9 ∧ CI V W S mo b4 b6 b7 b9 x4 x6 x7 x9 ∧ (b8 = true → b7 = true ∧ x8 = shV which x7)
theorem wp_build_show {op : Oper} {a : Act} {w : World} {K : Act → World → Prop} {Q : Exit → Act → World → Prop} (parts : Array (Nat × Operand)) (ho : op.op = .build 59 parts) (which : Sum) (ad : Option Addr) (n c : Nat) (hp : (parts.toList.map fun (i, y) => (i, a.eval y)) = [(0, sv which), (1, .slice ad n c)])
    (h : K (a.put op.dst (shV which (.slice ad n c))) w) : op.wp Try.prog a w K Q := by
  have hr := exec_build_show (f := a.eval) parts ho which ad n c hp w
  unfold Oper.wp
  rw [hr]
  exact h
theorem alloc_show (w : World) : (Instr.alloc 59 true (.tuple #[])).run Try.prog w = .ok (.pointer (some ⟨w.heap.size, 0, none⟩)) (w.alloc (.cells (cellsShow zeroSum (.slice none 0 0)).toArray 59)) := by kernel_rfl
theorem wp_alloc_show {op : Oper} {a : Act} {w : World} {K : Act → World → Prop} {Q : Exit → Act → World → Prop} (ho : op.op = .alloc 59)
    (h : K (a.put op.dst (.pointer (some ⟨w.heap.size, 0, none⟩))) (w.alloc (.cells (cellsShow zeroSum (.slice none 0 0)).toArray 59))) : op.wp Try.prog a w K Q := by
  unfold Oper.wp
  simp only [execOp, ho, Sem.run_bind, Sem.run_pure, Result.andThen_ok, alloc_show, Result.andThen]
  exact h
theorem fork8 {md : Region.Mode} {SS : World → Prop} {l : List Oper} {Q : Exit → Act → World → Prop} {r : List MvU} {a : Act} {V : World} (S : List Sum) (mo which : Sum) (hV : ∀ W, Below V.heap.size V W → SS W)
    (h4 : ∀ b6 b7 b8 b9 a' W, FI V S mo which a false b6 b7 b8 b9 a' W → wpOp Try.prog l.toArray Q 4 (FI V S mo which a true b6 b7 b8 b9) a' W)
    (h6 : ∀ b4 b7 b8 b9 a' W, FI V S mo which a b4 false b7 b8 b9 a' W → wpOp Try.prog l.toArray Q 6 (FI V S mo which a b4 true b7 b8 b9) a' W)
    (h7 : ∀ b8 b9 a' W, FI V S mo which a true true false b8 b9 a' W → wpOp Try.prog l.toArray Q 7 (FI V S mo which a true true true b8 b9) a' W)
    (h8 : ∀ b9 a' W, FI V S mo which a true true true false b9 a' W → wpOp Try.prog l.toArray Q 8 (FI V S mo which a true true true true b9) a' W)
    (h9 : ∀ b4 b6 b7 b8 a' W, FI V S mo which a b4 b6 b7 b8 false a' W → wpOp Try.prog l.toArray Q 9 (FI V S mo which a b4 b6 b7 b8 true) a' W)
    (he : ∀ a' W, FI V S mo which a true true true true true a' W → wpU Try.prog md l.toArray Q SS r a' W) : wpU Try.prog md l.toArray Q SS (.n [4, 6, 7, 8, 9] [(7, [4, 6]), (8, [4, 6, 7])] true :: r) a V := by
  refine wpU_n (fun d a' W => FI V S mo which a (d 4) (d 6) (d 7) (d 8) (d 9) a' W) ⟨undef, undef, undef, undef, undef, rfl, ⟨Below.refl _ _, fun h => (by cases h), fun h => (by cases h), fun h => (by cases h), fun h => (by cases h)⟩, fun h => (by cases h)⟩ (fun d a w h => ?_) (fun i hi d a' W hd hx h => ?_) (fun d a' W hd h => ?_)
  · obtain ⟨_, _, _, _, _, _, hc, _⟩ := h
    exact hV _ hc.bw
  · simp only [List.mem_cons, List.not_mem_nil, or_false] at hi
    rcases hi with rfl | rfl | rfl | rfl | rfl
    · rw [hd] at h
      exact h4 _ _ _ _ _ _ h
    · rw [hd] at h
      exact h6 _ _ _ _ _ _ h
    · have e4 : d 4 = true := hx 4 (by decide)
      have e6 : d 6 = true := hx 6 (by decide)
      rw [hd, e4, e6] at h
      have := h7 _ _ _ _ h
      show wpOp _ _ _ _ (fun a' w' => FI V S mo which a (d 4) (d 6) true (d 8) (d 9) a' w') _ _
      rw [e4, e6]
      exact this
    · have e4 : d 4 = true := hx 4 (by decide)
      have e6 : d 6 = true := hx 6 (by decide)
      have e7 : d 7 = true := hx 7 (by decide)
      rw [hd, e4, e6, e7] at h
      have := h8 _ _ _ h
      show wpOp _ _ _ _ (fun a' w' => FI V S mo which a (d 4) (d 6) (d 7) true (d 9) a' w') _ _
      rw [e4, e6, e7]
      exact this
    · rw [hd] at h
      exact h9 _ _ _ _ _ _ h
  · rw [hd 4 (by simp), hd 6 (by simp), hd 7 (by simp), hd 8 (by simp), hd 9 (by simp)] at h
    exact he _ _ h
end Go.Proofs.Ytfmgoehnbaiamaa
-- Walk: ShowsCount.
open Go Go.RowKit Alm
namespace Go.Proofs.Ytfmgoehnbaiamaa
theorem get_len {l : List Keys.Pr} (h : Full l) (k : Sum) : (Keys.get l k).length ≤ 256 := by
  unfold Keys.get
  split
  · rename_i p hp
    exact (h p (List.mem_of_find?_eq_some hp)).2
  · simp
theorem wpU_load_sum {md : Region.Mode} {S : World → Prop} {ops : List Oper} {Q : Exit → Act → World → Prop} {r : List MvU} {a : Act} {w : World} {o : Oper} {i : Nat} (hS : S w) (ho : ops[i]? = some o) (hg : Region.wanted o (yielded ops.toArray a.tmps) = true) (x : Operand) (hop : o.op = .load 29 x) (b off : Nat) (hx : a.eval x = .pointer (some ⟨b, off, none⟩)) (s : Sum)
    (hc : ∀ W, S W → W.rangeAt b off (cellsOf s)) (h : wpU Try.prog md ops.toArray Q S r (a.put o.dst (sv s)) w) : wpU Try.prog md ops.toArray Q S (.s i :: r) a w :=
  wpU_load_mid hS ho hg _ x hop b off hx (cellsOf s) _ hc Try.underlying29 rfl (by rw [length_cellsOf]; exact infoSum) h
set_option maxRecDepth 100000 in
set_option maxHeartbeats 4000000 in
theorem showsCount_any (P : List Keys.Pr) (v : Value) (k : Sum) (mo : Sum) (w : World) (hv : PairsAt w v P) : Calls Try.prog 11 #[v, sv k, sv mo] w fun e w' => e = .returned (.bool true) ∧ Below w.heap.size w w' := by
  have hs1 : (w.alloc (.cells (cellsOf k).toArray 29)).heap.size = w.heap.size + 1 := Array.size_push _
  have hb0 := al (al (Below.refl _ w) (.cells (cellsOf k).toArray 29)) (.cells (cellsOf mo).toArray 29)
  have r1 := World.rangeAt_alloc (range_new w (cellsOf k).toArray 29 _ rfl) (.cells (cellsOf mo).toArray 29)
  have r2 := range_new (w.alloc (.cells (cellsOf k).toArray 29)) (cellsOf mo).toArray 29 _ rfl
  rw [hs1] at r2
  obtain ⟨z, hz⟩ : ∃ z, z = w.heap.size := ⟨_, rfl⟩
  obtain ⟨zm, hzm⟩ : ∃ z, z = w.heap.size + 1 := ⟨_, rfl⟩
  rw [← hz] at r1
  rw [← hzm] at r2
  have H0 := Lib.hid (And.intro hb0 (And.intro (And.intro r1 r2) (hv.below hb0)))
  have HZ := Lib.hid (And.intro hz hzm)
  clear r1 r2 hz hzm hs1
  clear hb0
  obtain ⟨a, cap, rfl, h1, h2⟩ := pairs_form hv
  obtain ⟨N, hN⟩ : ∃ N, N = P.length := ⟨_, rfl⟩
  rw [← hN] at H0 h1
  rw [← hN]
  have HN := Lib.hid hN
  clear hv hN h2
  go_enter Try.func11, Try.ntmps11
  go_wp2_with fail
  rw [← HZ.out.2, ← HZ.out.1]
  generalize (w.alloc (.cells (cellsOf k).toArray 29)).alloc (.cells (cellsOf mo).toArray 29) = W0 at *
  refine (great16_any P _ W0 H0.out.2.2).mono ?_
  rintro e W1 ⟨r, rfl, hr, hb⟩
  have HB1 := Lib.hid (H0.out.1.trans (hb.mono H0.out.1.size))
  have HR1 := Lib.hid (And.intro ((Keeps.of_below (X := fun _ => False) hb).range H0.out.2.1.1 (fun h => h)) (And.intro ((Keeps.of_below (X := fun _ => False) hb).range H0.out.2.1.2 (fun h => h)) (H0.out.2.2.below hb)))
  clear hb H0 HZ
  cases r with
  | true =>
    clear hr HR1
    go_wp2_with fail
    refine (alive16_any W1).mono ?_
    rintro e W2 ⟨rfl, hb2⟩
    have HB2 := Lib.hid (HB1.out.trans (hb2.mono HB1.out.size))
    clear hb2
    go_wp2_with fail
    exact bodyPost_ret (results_tmp rfl _ _ _) rfl ⟨rfl, HB2.out⟩
  | false =>
    have HP := Lib.hid (hr rfl)
    clear hr
    go_wp2_with fail
    refine (of16_any P _ W1 HR1.out.2.2 (by have := HP.out; omega)).mono ?_
    rintro e W2 ⟨p, b, l, x, rfl, hm, hp, _, hbb, _, hb⟩
    rw [← HN.out] at hm
    have H2 := Lib.hid (show LW w W2 p b N l [(z, k), (zm, mo)] [] [] from ⟨HB1.out.trans (hb.mono HB1.out.size), hm, by have := HB1.out.size; omega, fun q hq => by
      rcases List.mem_cons.1 hq with rfl | hq
      · exact (Keeps.of_below (X := fun _ => False) hb).range HR1.out.1 (fun h => h)
      · rw [List.mem_singleton.1 hq]; exact (Keeps.of_below (X := fun _ => False) hb).range HR1.out.2.1 (fun h => h), by simp, by simp⟩)
    have hl := puts_few hp HP.out
    have HL := Lib.hid (And.intro hp (And.intro hl (sides_few k hp HP.out)))
    clear hm hp hb HB1 HR1 hl hbb
    go_wp2_with (refine wpList_load_sum rfl _ rfl z 0 rfl k (H2.out.r (z, k) (by simp)) ?_)
    refine (mget_any k W2 p b N l H2.out.map).mono ?_
    rintro e W3 ⟨v3, rfl, hN3, hb⟩
    obtain ⟨bs3, hbs3⟩ : ∃ x, x = Keys.get (prs l) k := ⟨_, rfl⟩
    rw [← hbs3] at hN3
    have H3 := Lib.hid ((H2.out.below hb).addY hN3.1)
    have HBS := Lib.hid hbs3
    have hbl : bs3.length ≤ 256 := by
      rw [hbs3]
      exact get_len (vals_full H2.out.map) k
    have HBL := Lib.hid hbl
    clear hb hN3 H2 hbs3 hbl
    go_wp2_with (refine wpList_load_sum rfl _ rfl z 0 rfl k (H3.out.r (z, k) (by simp)) ?_)
    refine (sof_any k W3 p b N l H3.out.map (by have := HL.out.2.1; omega)).mono ?_
    rintro e W4 ⟨which, vS, rfl, hS4, hB4, hb⟩
    obtain ⟨S, hS⟩ : ∃ S, S = sidesOf (tells k 256 (prs l)) := ⟨_, rfl⟩
    have hcn := cnt_sides hB4
    have hsf := HL.out.2.2
    rw [← hS] at hcn hsf
    have hsm := hS4.sums
    rw [← hS] at hsm
    have HBT := Lib.hid (And.intro hS hB4)
    obtain ⟨aS, cS, rfl, hf1, hf2⟩ := sums_form hsm
    obtain ⟨M, hM⟩ : ∃ M, M = S.length := ⟨_, rfl⟩
    rw [← hM] at hcn hsf hf1 hsm
    rw [← hM]
    have H4 := Lib.hid (And.intro (H3.out.below hb) hsm)
    have HK := Lib.hid (And.intro hcn (And.intro hM (And.intro hsf hf2)))
    clear hS4 hB4 hb hcn hS hM H3 hsf hsm hf2
    have k1 : (M : Int) ≤ (cS : Int) := by omega
    have HG := Lib.hid trivial
    go_wp2_with (have _ := HG; refine wpList_var_show (by rfl) rfl _ _ rfl which (.slice aS M cS) (by rfl) rfl rfl ?_; intro W5 hb hr; obtain ⟨z9, hz9⟩ : ∃ x, x = W4.heap.size := ⟨_, rfl⟩; rw [← hz9] at hr ⊢; have H5 := Lib.hid ((H4.out.1.below hb).addS hr (H4.out.2.below hb (Nat.le_refl _))); clear HG hb hr hz9 H4)
    refine wp_region_schedU (fun V => LW w V p b N l [(z, k), (zm, mo)] [(v3, bs3)] [(z9, which, .slice aS M cS, S)]) [.t 0, .t 2, .s 1, .s 3, .s 5, .n [4, 6, 7, 8, 9] [(7, [4, 6]), (8, [4, 6, 7])] true, .e 10 false] (by kernel_rfl) (by kernel_rfl) (by intro c a d v w h; cases d <;> exact h) ?_
    have HS := Lib.hid (H5.out.below (Below.refl _ _).drew)
    clear H5
    generalize W5.drew = V at *
    iterate 2
      refine wpU_t rfl (v := ?_) (by rfl) (fun W => ?_) ?_
      rotate_left
      · go_simp
        try rfl
      try simp only [Act.put, List.setIfInBounds_toArray, List.set_cons_zero, List.set_cons_succ]
    refine wpU_load_sum (by exact HS.out) rfl (by rfl) _ (by rfl) z9 0 (by rfl) which (fun W hW => which_show (hW.s (z9, which, .slice aS M cS, S) (by simp)).1) ?_
    try simp only [Act.put, List.setIfInBounds_toArray, List.set_cons_zero, List.set_cons_succ]
    refine wpU_s (by exact HS.out) rfl (v := .slice aS M cS) (by rfl) (fun W hW => ?_) ?_
    · have g := cell_show (hW.s (z9, which, .slice aS M cS, S) (by simp)).1
      go_simp
    try simp only [Act.put, List.setIfInBounds_toArray, List.set_cons_zero, List.set_cons_succ]
    refine wpU_load_sum (by exact HS.out) rfl (by rfl) _ (by rfl) zm 0 (by rfl) mo (fun W hW => hW.r (zm, mo) (by simp)) ?_
    try simp only [Act.put, List.setIfInBounds_toArray, List.set_cons_zero, List.set_cons_succ]
    refine fork8 S mo which (fun W hb => HS.out.below hb) ?_ ?_ ?_ ?_ ?_ ?_
    · rintro b6 b7 b8 b9 a' W ⟨x4, x6, x7, x8, x9, rfl, hC, h8⟩
      cases b6 <;> cases b7 <;> cases b8 <;> cases b9 <;>
        (refine wpOp_of rfl (by rfl) (fun K hK => ?_)
         refine wp_app_nil_sums _ _ (by rfl) (by rfl) (.slice aS M cS) S (by rfl) ((HS.out.below hC.bw).s (z9, which, .slice aS M cS, S) (by simp)).2 (by have := HK.out; omega) V.heap.size hC.bw.size ?_
         intro v' w' ho hb hg
         exact hK _ _ ⟨v', x6, x7, x8, x9, by rfl, hC.t4 ho hb hg, h8⟩)
    · rintro b4 b7 b8 b9 a' W ⟨x4, x6, x7, x8, x9, rfl, hC, h8⟩
      cases b4 <;> cases b7 <;> cases b8 <;> cases b9 <;>
        (refine wpOp_of rfl (by rfl) (fun K hK => ?_)
         refine wp_build_sums 1 _ (by rfl) [mo] rfl (by omega) (by omega) (by rfl) ?_
         have hr : (W.alloc (.cells (cellsAll [mo]).toArray 29)).rangeAt W.heap.size 0 (cellsOf mo) := fun j u hj => range_new W (cellsAll [mo]).toArray 29 _ rfl j u (by rw [cellsAll_one]; exact hj)
         exact hK _ _ ⟨x4, _, x7, x8, x9, by rfl, hC.t6 (al (Below.refl _ W) _) hr, h8⟩)
    · rintro b8 b9 a' W ⟨x4, x6, x7, x8, x9, rfl, hC, h8⟩
      obtain ⟨g6, rfl, hr6⟩ := hC.i6 rfl rfl
      cases b8 <;> cases b9 <;>
        (refine wpOp_of rfl (by rfl) (fun K hK => ?_)
         refine wp_append_sums _ _ (by rfl) V.heap.size x4 S [mo] S.length 1 rfl rfl (by rfl) (hC.i4 rfl rfl) g6 0 1 (by rfl) (by rw [cellsAll_one]; exact hr6) (by omega) (by have := HK.out; omega) hC.bw.size ?_
         intro g cap w' ho hg hat _
         exact hK _ _ ⟨x4, _, _, x8, x9, by rfl, hC.t7 ho hg hat, fun h => by cases (h8 h).1⟩)
    · rintro b9 a' W ⟨x4, x6, x7, x8, x9, rfl, hC, h8⟩
      rcases (hC.i7 rfl).2 with ⟨_, h⟩ | ⟨g7, c7, cur, rfl, _⟩
      · omega
      cases b9 <;>
        (refine wpOp_of rfl (by rfl) (fun K hK => ?_)
         refine wp_build_show _ (by rfl) which (some ⟨g7, 0, none⟩) (S.length + 1) c7 (by rfl) ?_
         exact hK _ _ ⟨x4, x6, _, _, x9, by rfl, hC, fun _ => ⟨rfl, rfl⟩⟩)
    · rintro b4 b6 b7 b8 a' W ⟨x4, x6, x7, x8, x9, rfl, hC, h8⟩
      cases b4 <;> cases b6 <;> cases b7 <;> cases b8 <;>
        (refine wpOp_of rfl (by rfl) (fun K hK => ?_)
         refine wp_alloc_show (by rfl) ?_
         exact hK _ _ ⟨x4, x6, x7, x8, _, by rfl, hC.t9 (by rw [List.size_toArray, length_cellsShow]), h8⟩)
    · rintro a' W ⟨x4, x6, x7, x8, x9, rfl, hC, h8⟩
      obtain ⟨_, rfl⟩ := h8 rfl
      have ho7 := hC.i7 rfl
      obtain ⟨gX, rfl, ht, hge, _, hne⟩ := hC.i9 rfl
      have hne := hne rfl
      have hsm7 := sums_own (l := S ++ [mo]) (by rw [List.length_append, List.length_singleton]; exact ho7)
      rcases ho7.2 with ⟨_, h⟩ | ⟨g7, c7, cur, rfl, _⟩
      · omega
      rw [← HK.out.2.1] at hsm7 hC hne ho7 ⊢
      have hgn : g7 ≠ gX := hne g7 rfl
      have HF := Lib.hid (And.intro (HS.out.below hC.bw) (And.intro hsm7 (And.intro ht (And.intro hge (And.intro hgn hC.bw)))))
      clear hC ho7 hne hsm7 ht hge hgn
      simp only [pt, if_true]
      try simp only [Act.put, List.setIfInBounds_toArray, List.set_cons_zero, List.set_cons_succ]
      refine wpU_e rfl (by rfl) (fun K hK => ?_)
      refine wp_store_show _ _ (by rfl) gX 0 which (.slice (some ⟨g7, 0, none⟩) (M + 1) c7) (by rfl) (by rfl) (by rfl) HF.out.2.2.1 ?_
      have kk := keeps_setCells_ gX (cellsShow which (.slice (some ⟨g7, 0, none⟩) (M + 1) c7)) 0 W
      have hbv : Below V.heap.size V (W.setCells gX 0 (cellsShow which (.slice (some ⟨g7, 0, none⟩) (M + 1) c7))) := HF.out.2.2.2.2.2.trans (kk.below HF.out.2.2.2.2.2.size (fun i hi => by rw [hi]; exact HF.out.2.2.2.1))
      have hr := range_stored gX (cellsShow which (.slice (some ⟨g7, 0, none⟩) (M + 1) c7)) 0 W (by rw [length_cellsShow]; exact World.there_setCells HF.out.2.2.1 _ _ _)
      have hsm := kk.sums HF.out.2.1 (fun k hk => by
        simp only [Value.ownBlock, Option.some.injEq] at hk
        rw [← hk]; exact HF.out.2.2.2.2.1)
      have H8 := Lib.hid ((HS.out.below hbv).addS hr hsm)
      clear kk hbv hr hsm HF HS
      refine hK _ _ ?_; clear hK K
      try simp only [Act.put, List.setIfInBounds_toArray, List.set_cons_zero, List.set_cons_succ]
      change wpU _ _ _ _ _ _ _ (W.setCells gX 0 (cellsShow which (.slice (some ⟨g7, 0, none⟩) (M + 1) c7)))
      generalize W.setCells gX 0 (cellsShow which (.slice (some ⟨g7, 0, none⟩) (M + 1) c7)) = W9 at *
      refine wpU_done ?_
      have hck1 : checkOf (rootOf (prs l)) k bs3 which (S ++ [mo]) = false := by
        rw [Bool.eq_false_iff]
        intro h
        have h1 := check_count h
        have h2 := HK.out.1
        have h3 := HK.out.2.1
        simp at h1
        omega
      have HC1 := Lib.hid hck1
      clear hck1
      go_wp2_with fail
      refine wp_region_sched (fun V => LW w V p b N l [(z, k), (zm, mo)] [(v3, bs3)] [(gX, which, .slice (some ⟨g7, 0, none⟩) (M + 1) c7, S ++ [mo]), (z9, which, .slice aS M cS, S)]) [.t 0, .t 3, .s 2, .s 4, .e 1 true, .e 5 false] (by kernel_rfl) (by kernel_rfl) (by intro c a d v w h; cases d <;> exact h) ?_
      have HS := Lib.hid (H8.out.below (Below.refl _ _).drew)
      clear H8
      generalize W9.drew = V at *
      iterate 2
        refine wpS_t rfl (v := ?_) (by rfl) (fun W => ?_) ?_
        rotate_left
        · go_simp
          try rfl
        try simp only [Act.put, List.setIfInBounds_toArray, List.set_cons_zero, List.set_cons_succ]
      refine wpS_load_sum (by exact HS.out) rfl (by rfl) _ (by rfl) z 0 (by rfl) k (fun W hW => hW.r (z, k) (by simp)) ?_
      try simp only [Act.put, List.setIfInBounds_toArray, List.set_cons_zero, List.set_cons_succ]
      refine wpS_load_show (by exact HS.out) rfl (by rfl) _ (by rfl) gX 0 (by rfl) which (.slice (some ⟨g7, 0, none⟩) (M + 1) c7) (fun W hW => (hW.s (gX, which, .slice (some ⟨g7, 0, none⟩) (M + 1) c7, S ++ [mo]) (by simp)).1) ?_
      try simp only [Act.put, List.setIfInBounds_toArray, List.set_cons_zero, List.set_cons_succ]
      refine wpS_k rfl (by rfl) (fun K hK => ?_)
      go_simp
      refine (mroot_any V p b N l HS.out.map (by have := HL.out.2.1; omega)).mono ?_
      rintro e V2 ⟨rfl, hb⟩
      have HS2 := Lib.hid (HS.out.below hb)
      clear hb HS
      refine hK _ _ ⟨by exact HS2.out, ?_⟩; clear hK K
      try simp only [Act.put, List.setIfInBounds_toArray, List.set_cons_zero, List.set_cons_succ]
      refine wpS_e rfl (by rfl) (fun K hK => ?_)
      go_simp
      refine (scheck_any (rootOf (prs l)) k which v3 (.slice (some ⟨g7, 0, none⟩) (M + 1) c7) bs3 (S ++ [mo]) V2 (HS2.out.y (v3, bs3) (by simp)) (HS2.out.s (gX, which, .slice (some ⟨g7, 0, none⟩) (M + 1) c7, S ++ [mo]) (by simp)).2 (by have h1 := HK.out.2.1; have h2 := HK.out.2.2.1; simp; omega) (by have := HBL.out; omega)).mono ?_
      rw [HC1.out]
      rintro e V3 ⟨rfl, hb⟩
      have HS3 := Lib.hid (HS2.out.below hb)
      clear hb HS2 HC1
      refine hK _ _ ?_; clear hK K
      try simp only [Act.put, List.setIfInBounds_toArray, List.set_cons_zero, List.set_cons_succ]
      refine wpS_done ?_
      by_cases hM0 : M = 0
      · subst hM0
        go_wp2_with fail
        refine wp_region_sched (fun V => LW w V p b N l [(z, k), (zm, mo)] [(v3, bs3)] [(gX, which, .slice (some ⟨g7, 0, none⟩) (0 + 1) c7, S ++ [mo]), (z9, which, .slice aS 0 cS, S)]) [.e 0 true, .t 1, .t 2, .e 3 true, .t 4, .t 5, .t 6, .t 7, .t 10, .t 11, .t 13, .s 9, .s 12, .s 14, .t 15, .t 16, .e 8 true, .e 17 false, .t 18, .t 19, .t 20, .t 21] (by kernel_rfl) (by kernel_rfl) (by intro c a d v w h; cases d <;> exact h) ?_
        have HS4 := Lib.hid (HS3.out.below (Below.refl _ _).drew)
        clear HS3
        generalize V3.drew = V4 at *
        refine wpS_k rfl (by rfl) (fun K hK => ?_)
        go_simp
        refine (alive16_any V4).mono ?_
        rintro e V5 ⟨rfl, hb⟩
        have HS5 := Lib.hid (HS4.out.below hb)
        clear hb HS4
        refine hK _ _ ⟨by exact HS5.out, ?_⟩; clear hK K
        try simp only [Act.put, List.setIfInBounds_toArray, List.set_cons_zero, List.set_cons_succ]
        iterate 2
          refine wpS_t rfl (v := ?_) (by rfl) (fun W => ?_) ?_
          rotate_left
          · go_simp
            try rfl
          try simp only [Act.put, List.setIfInBounds_toArray, List.set_cons_zero, List.set_cons_succ]
        refine wpS_k rfl (by rfl) (fun K hK => ?_)
        have g := cell_show (HS5.out.s (z9, which, .slice aS 0 cS, S) (by simp)).1
        go_simp
        refine hK _ _ ⟨by exact HS5.out, ?_⟩; clear hK K
        try simp only [Act.put, List.setIfInBounds_toArray, List.set_cons_zero, List.set_cons_succ]
        clear g
        iterate 3
          refine wpS_t rfl (v := ?_) (by rfl) (fun W => ?_) ?_
          rotate_left
          · go_simp
            try rfl
          try simp only [Act.put, List.setIfInBounds_toArray, List.set_cons_zero, List.set_cons_succ]
        iterate 4
          refine wpS_t_skip rfl (by rfl) ?_
          try simp only [Act.put, List.setIfInBounds_toArray, List.set_cons_zero, List.set_cons_succ]
        iterate 3
          refine wpS_s_skip (by exact HS5.out) rfl (by rfl) ?_
          try simp only [Act.put, List.setIfInBounds_toArray, List.set_cons_zero, List.set_cons_succ]
        iterate 2
          refine wpS_t_skip rfl (by rfl) ?_
          try simp only [Act.put, List.setIfInBounds_toArray, List.set_cons_zero, List.set_cons_succ]
        refine wpS_k_skip (by exact HS5.out) rfl (by rfl) ?_
        try simp only [Act.put, List.setIfInBounds_toArray, List.set_cons_zero, List.set_cons_succ]
        refine wpS_e_skip rfl (by rfl) ?_
        try simp only [Act.put, List.setIfInBounds_toArray, List.set_cons_zero, List.set_cons_succ]
        iterate 1
          refine wpS_t_skip rfl (by rfl) ?_
          try simp only [Act.put, List.setIfInBounds_toArray, List.set_cons_zero, List.set_cons_succ]
        iterate 3
          refine wpS_t rfl (v := ?_) (by rfl) (fun W => ?_) ?_
          rotate_left
          · go_simp
            try rfl
          try simp only [Act.put, List.setIfInBounds_toArray, List.set_cons_zero, List.set_cons_succ]
        refine wpS_done ?_
        go_wp2_with fail
        exact bodyPost_ret (results_tmp rfl _ _ _) rfl ⟨rfl, HS5.out.bw⟩
      · have m1 : decide (M = 0) = false := by simpa using hM0
        have m1' : decide ((M : Int) = 0) = false := by simp; omega
        have m1'' : ((M : Int) == 0) = false := by rw [beq_eq_false_iff_ne]; omega
        obtain ⟨bS, oS, rfl⟩ : ∃ b o, aS = some ⟨b, o, none⟩ := by
          obtain ⟨a', c', he, _, _, h3⟩ := (HS3.out.s (z9, which, .slice aS M cS, S) (by simp)).2
          simp only [Value.slice.injEq] at he
          obtain ⟨rfl, -, -⟩ := he
          have hlen : M = S.length := HK.out.2.1
          obtain ⟨b', o', hb, _⟩ := h3.resolve_left (fun e => hM0 (by rw [hlen, show S = [] from e]; rfl))
          exact ⟨b', o', hb⟩
        have hck2 : checkOf (rootOf (prs l)) k bs3 which (S.drop 1) = false := by
          rw [Bool.eq_false_iff]
          intro h
          have h1 := check_count h
          have h2 := HK.out.1
          have h3 := HK.out.2.1
          simp at h1
          omega
        have HC2 := Lib.hid (And.intro hck2 hM0)
        have hM1 : (1 : Int) ≤ (M : Int) := by omega
        have hM1' : 1 ≤ M := by omega
        clear hck2 hM0
        go_wp2_with fail
        refine wp_region_sched (fun V => LW w V p b N l [(z, k), (zm, mo)] [(v3, bs3)] [(gX, which, .slice (some ⟨g7, 0, none⟩) (M + 1) c7, S ++ [mo]), (z9, which, .slice (some ⟨bS, oS, none⟩) M cS, S)]) [.e 0 true, .t 1, .t 2, .e 3 true, .t 4, .t 5, .t 6, .t 7, .t 10, .t 11, .t 13, .s 9, .s 12, .s 14, .t 15, .t 16, .e 8 true, .e 17 false, .t 18, .t 19, .t 20, .t 21] (by kernel_rfl) (by kernel_rfl) (by intro c a d v w h; cases d <;> exact h) ?_
        have HS4 := Lib.hid (HS3.out.below (Below.refl _ _).drew)
        clear HS3
        generalize V3.drew = V4 at *
        refine wpS_k rfl (by rfl) (fun K hK => ?_)
        go_simp
        refine (alive16_any V4).mono ?_
        rintro e V5 ⟨rfl, hb⟩
        have HS5 := Lib.hid (HS4.out.below hb)
        clear hb HS4
        refine hK _ _ ⟨by exact HS5.out, ?_⟩; clear hK K
        try simp only [Act.put, List.setIfInBounds_toArray, List.set_cons_zero, List.set_cons_succ]
        iterate 2
          refine wpS_t rfl (v := ?_) (by rfl) (fun W => ?_) ?_
          rotate_left
          · go_simp
            try rfl
          try simp only [Act.put, List.setIfInBounds_toArray, List.set_cons_zero, List.set_cons_succ]
        refine wpS_k rfl (by rfl) (fun K hK => ?_)
        have g := cell_show (HS5.out.s (z9, which, .slice (some ⟨bS, oS, none⟩) M cS, S) (by simp)).1
        go_simp
        refine hK _ _ ⟨by exact HS5.out, ?_⟩; clear hK K
        try simp only [Act.put, List.setIfInBounds_toArray, List.set_cons_zero, List.set_cons_succ]
        clear g
        iterate 7
          refine wpS_t rfl (v := ?_) (by rfl) (fun W => ?_) ?_
          rotate_left
          · go_simp
            try rfl
          try simp only [Act.put, List.setIfInBounds_toArray, List.set_cons_zero, List.set_cons_succ]
        refine wpS_load_sum (by exact HS5.out) rfl (by rfl) _ (by rfl) z 0 (by rfl) k (fun W hW => hW.r (z, k) (by simp)) ?_
        try simp only [Act.put, List.setIfInBounds_toArray, List.set_cons_zero, List.set_cons_succ]
        refine wpS_load_sum (by exact HS5.out) rfl (by rfl) _ (by rfl) z9 0 (by rfl) which (fun W hW => which_show (hW.s (z9, which, .slice (some ⟨bS, oS, none⟩) M cS, S) (by simp)).1) ?_
        try simp only [Act.put, List.setIfInBounds_toArray, List.set_cons_zero, List.set_cons_succ]
        refine wpS_s (by exact HS5.out) rfl (v := .slice (some ⟨bS, oS, none⟩) M cS) (by rfl) (fun W hW => ?_) ?_
        · have g := cell_show (hW.s (z9, which, .slice (some ⟨bS, oS, none⟩) M cS, S) (by simp)).1
          go_simp
        try simp only [Act.put, List.setIfInBounds_toArray, List.set_cons_zero, List.set_cons_succ]
        obtain ⟨o2, ho2⟩ : ∃ o2, o2 = if cS = 1 then oS else oS + 32 := ⟨_, rfl⟩
        have HO2 := Lib.hid ho2
        clear ho2
        refine wpS_t rfl (v := .slice (some ⟨bS, o2, none⟩) (M - 1) (cS - 1)) (by rfl) (fun W => ?_) ?_
        · have ho2 := HO2.out
          by_cases hc : cS = 1
          · rw [if_pos hc] at ho2
            subst ho2
            go_simp
            try rfl
          · rw [if_neg hc] at ho2
            subst ho2
            go_simp
            try rfl
        try simp only [Act.put, List.setIfInBounds_toArray, List.set_cons_zero, List.set_cons_succ]
        refine wpS_t rfl (v := shV which (.slice (some ⟨bS, o2, none⟩) (M - 1) (cS - 1))) (by rfl) (fun W => exec_build_show _ rfl which (some ⟨bS, o2, none⟩) (M - 1) (cS - 1) (by rfl) W) ?_
        try simp only [Act.put, List.setIfInBounds_toArray, List.set_cons_zero, List.set_cons_succ]
        refine wpS_k rfl (by rfl) (fun K hK => ?_)
        go_simp
        refine (mroot_any V5 p b N l HS5.out.map (by have := HL.out.2.1; omega)).mono ?_
        rintro e V6 ⟨rfl, hb⟩
        have HS6 := Lib.hid (HS5.out.below hb)
        clear hb HS5
        refine hK _ _ ⟨by exact HS6.out, ?_⟩; clear hK K
        try simp only [Act.put, List.setIfInBounds_toArray, List.set_cons_zero, List.set_cons_succ]
        have hD : SumsAt V6 (.slice (some ⟨bS, o2, none⟩) (M - 1) (cS - 1)) (S.drop 1) := by
          obtain ⟨a', c', he, h1, h2, h3⟩ := (HS6.out.s (z9, which, .slice (some ⟨bS, oS, none⟩) M cS, S) (by simp)).2
          simp only [Value.slice.injEq] at he
          obtain ⟨rfl, -, rfl⟩ := he
          obtain ⟨b', o', hb', hr'⟩ := h3.resolve_left (fun e => HC2.out.2 (by rw [HK.out.2.1, show S = [] from e]; rfl))
          simp only [Option.some.injEq, Addr.mk.injEq, and_true] at hb'
          obtain ⟨rfl, rfl⟩ := hb'
          have hm : M = S.length := HK.out.2.1
          have h1' : S.length ≤ cS := h1
          by_cases hc : cS = 1
          · exact ⟨_, cS - 1, by rw [List.length_drop, ← hm], by rw [List.length_drop]; omega, by omega, .inl (List.drop_eq_nil_of_le (by omega))⟩
          · have ho2 := HO2.out
            rw [if_neg hc] at ho2
            have hx := sums_drop (k := 1) (cap := cS - 1) (l := S) hr' (by omega) (by omega) (by omega)
            rw [← hm] at hx
            rw [ho2]
            exact hx
        have HD := Lib.hid hD
        clear hD
        refine wpS_e rfl (by rfl) (fun K hK => ?_)
        go_simp
        refine (scheck_any (rootOf (prs l)) k which v3 (.slice (some ⟨bS, o2, none⟩) (M - 1) (cS - 1)) bs3 (S.drop 1) V6 (HS6.out.y (v3, bs3) (by simp)) HD.out (by have h1 := HK.out.2.1; have h2 := HK.out.2.2.1; simp; omega) (by have := HBL.out; omega)).mono ?_
        rw [HC2.out.1]
        rintro e V7 ⟨rfl, hb⟩
        have HS7 := Lib.hid (HS6.out.below hb)
        clear hb HS6 HD HC2
        refine hK _ _ ?_; clear hK K
        try simp only [Act.put, List.setIfInBounds_toArray, List.set_cons_zero, List.set_cons_succ]
        iterate 4
          refine wpS_t rfl (v := ?_) (by rfl) (fun W => ?_) ?_
          rotate_left
          · go_simp
            try rfl
          try simp only [Act.put, List.setIfInBounds_toArray, List.set_cons_zero, List.set_cons_succ]
        refine wpS_done ?_
        go_wp2_with fail
        exact bodyPost_ret (results_tmp rfl _ _ _) rfl ⟨rfl, HS7.out.bw⟩
end Go.Proofs.Ytfmgoehnbaiamaa
-- Plain law: what is empty told too (ShowsFull).
open Go Go.RowKit Alm
namespace Go.Proofs.Ytfmgoehnbaiamaa
/-- One told, or what is empty if the bit is set. -/
noncomputable def fl (mo : Sum) (n : Nat) (t : Option Sum) : Option Sum := match t with
  | some s => some s
  | none => if (Keys.kn mo).testBit n then some (em n) else none
noncomputable def fulls (mo : Sum) : Nat → List (Option Sum) → List (Option Sum)
  | n + 1, t :: T => fl mo n t :: fulls mo n T
  | _, _ => []
theorem fl_getD (mo : Sum) (n : Nat) (t : Option Sum) : (fl mo n t).getD (em n) = t.getD (em n) := by
  cases t with
  | some s => rfl
  | none =>
    unfold fl
    by_cases h : (Keys.kn mo).testBit n = true
    · simp [h]
    · simp [h]
theorem fulls_tells (mo k : Sum) : ∀ n l T, Tells k n l T → Tells k n l (fulls mo n T)
  | 0, _, _, _ => rfl
  | n + 1, l, T, h => by
    obtain ⟨t, T', rfl, h1, h2⟩ := h
    exact ⟨fl mo n t, fulls mo n T', rfl, by rw [fl_getD]; exact h1, fulls_tells mo k n _ T' h2⟩
theorem length_fulls (mo : Sum) : ∀ n T, T.length = n → (fulls mo n T).length = n
  | 0, _, _ => rfl
  | n + 1, t :: T, h => by
    rw [fulls, List.length_cons, length_fulls mo n T (by simpa using h)]
theorem fulls_at (mo : Sum) : ∀ n T, T.length = n → ∀ j t, T[j]? = some t → (fulls mo n T)[j]? = some (fl mo (n - 1 - j) t)
  | 0, T, h, j, t, ht => by rw [List.length_eq_zero_iff.1 h] at ht; cases ht
  | n + 1, x :: T, h, 0, t, ht => by
    rw [fulls]
    simp only [List.getElem?_cons_zero, Option.some.injEq] at ht ⊢
    rw [ht, show n + 1 - 1 - 0 = n by omega]
  | n + 1, x :: T, h, j + 1, t, ht => by
    rw [fulls, List.getElem?_cons_succ]
    rw [List.getElem?_cons_succ] at ht
    rw [fulls_at mo n T (by simpa using h) j t ht, show n + 1 - 1 - (j + 1) = n - 1 - j by omega]
/-- Such a show is let be. -/
theorem check_full {mo k which : Sum} {l : List Keys.Pr} (hr : Keys.Rise l) (hB : Bits which 256 (fulls mo 256 (tells k 256 l))) : checkOf (rootOf l) k (Keys.get l k) which (sidesOf (fulls mo 256 (tells k 256 l))) = true :=
  check_tells hr (fulls_tells mo k 256 l _ (tells_ok k 256 l)) hB
/-- The bits that are set so far. -/
def BitsTo (which : Sum) (j : Nat) (T : List (Option Sum)) : Prop := ∀ i, i < 256 → (Keys.kn which).testBit (255 - i) = if i < j then (T.getD i none).isSome else false
theorem bitsTo_zero (T : List (Option Sum)) : BitsTo zeroSum 0 T := fun i _ => by rw [kn_zeroSum, Nat.zero_testBit, if_neg (by omega)]
theorem bitsTo_set {which : Sum} {j : Nat} {T : List (Option Sum)} (h : BitsTo which j T) (hj : j < 256) (ht : (T.getD j none).isSome = true) : BitsTo (setBit which j) (j + 1) T := fun i hi => by
  rw [bit_set which j i hj hi]
  by_cases e : i = j
  · rw [if_pos e, if_pos (by omega), e, ht]
  · rw [if_neg e, h i hi]
    by_cases h2 : i < j
    · rw [if_pos h2, if_pos (by omega)]
    · rw [if_neg h2, if_neg (by omega)]
theorem bitsTo_no {which : Sum} {j : Nat} {T : List (Option Sum)} (h : BitsTo which j T) (ht : (T.getD j none).isSome = false) : BitsTo which (j + 1) T := fun i hi => by
  rw [h i hi]
  by_cases e : i = j
  · rw [if_neg (by omega), if_pos (by omega), e, ht]
  · by_cases h2 : i < j
    · rw [if_pos h2, if_pos (by omega)]
    · rw [if_neg h2, if_neg (by omega)]
theorem bitsTo_all {which : Sum} {T : List (Option Sum)} (h : BitsTo which 256 T) : Bits which 256 T := fun j hj => by
  rw [show 256 - 1 - j = 255 - j by omega, h j hj, if_pos hj]
end Go.Proofs.Ytfmgoehnbaiamaa
-- Walk: ShowsFull.
open Go Go.RowKit Alm
namespace Go.Proofs.Ytfmgoehnbaiamaa
/-- The sums of what is empty, from one depth down. -/
structure EY (W : World) (g D : Nat) : Prop where
  th : W.there g 0 (257 * 32)
  rng : ∀ i, D ≤ i → i ≤ 256 → W.rangeAt g (i * 32) (cellsOf (em (256 - i)))
theorem EY.keep {W W' : World} {g D : Nat} {X : Nat → Prop} (h : EY W g D) (hk : Keeps X W W') (hx : ¬ X g) : EY W' g D :=
  ⟨hk.there h.th (by decide) hx, fun i h1 h2 => hk.range (h.rng i h1 h2) hx⟩
theorem EY.below {W W' : World} {g D : Nat} (h : EY W g D) (hb : Below W.heap.size W W') : EY W' g D := h.keep (Keeps.of_below (X := fun _ => False) hb) (fun h => h)
theorem EY.at {W : World} {g D : Nat} (h : EY W g D) {d : Nat} (hd : d ≤ 256) : W.there g (d * 32) 32 := fun j hj => by
  have := h.th (d * 32 + j) (by omega)
  rwa [Nat.zero_add] at this
theorem EY.store {W : World} {g d : Nat} (h : EY W g (d + 1)) (hd : d ≤ 256) : EY (W.setCells g (d * 32) (cellsOf (em (256 - d)))) g d := by
  refine ⟨World.there_setCells h.th _ _ _, fun i h1 h2 => ?_⟩
  by_cases e : i = d
  · subst e
    exact range_stored _ _ _ _ (by rw [length_cellsOf]; exact World.there_setCells (h.at hd) _ _ _)
  · exact World.rangeAt_setCells_apart (h.rng i (by omega) h2) _ _ _ (by right; right; rw [length_cellsOf]; omega)
set_option maxRecDepth 100000 in
set_option maxHeartbeats 4000000 in
theorem showsFull_any (P : List Keys.Pr) (v : Value) (k : Sum) (mo : Sum) (w : World) (hv : PairsAt w v P) : Calls Try.prog 12 #[v, sv k, sv mo] w fun e w' => e = .returned (.bool true) ∧ Below w.heap.size w w' := by
  have hs1 : (w.alloc (.cells (cellsOf k).toArray 29)).heap.size = w.heap.size + 1 := Array.size_push _
  have hb0 := al (al (Below.refl _ w) (.cells (cellsOf k).toArray 29)) (.cells (cellsOf mo).toArray 29)
  have r1 := World.rangeAt_alloc (range_new w (cellsOf k).toArray 29 _ rfl) (.cells (cellsOf mo).toArray 29)
  have r2 := range_new (w.alloc (.cells (cellsOf k).toArray 29)) (cellsOf mo).toArray 29 _ rfl
  rw [hs1] at r2
  obtain ⟨z, hz⟩ : ∃ z, z = w.heap.size := ⟨_, rfl⟩
  obtain ⟨zm, hzm⟩ : ∃ z, z = w.heap.size + 1 := ⟨_, rfl⟩
  rw [← hz] at r1
  rw [← hzm] at r2
  have H0 := Lib.hid (And.intro hb0 (And.intro (And.intro r1 r2) (hv.below hb0)))
  have HZ := Lib.hid (And.intro hz hzm)
  clear r1 r2 hz hzm hs1
  clear hb0
  obtain ⟨a, cap, rfl, h1, h2⟩ := pairs_form hv
  obtain ⟨N, hN⟩ : ∃ N, N = P.length := ⟨_, rfl⟩
  rw [← hN] at H0 h1
  rw [← hN]
  have HN := Lib.hid hN
  clear hv hN h2
  go_enter Try.func12, Try.ntmps12
  go_wp2_with fail
  rw [← HZ.out.2, ← HZ.out.1]
  generalize (w.alloc (.cells (cellsOf k).toArray 29)).alloc (.cells (cellsOf mo).toArray 29) = W0 at *
  refine (great16_any P _ W0 H0.out.2.2).mono ?_
  rintro e W1 ⟨r, rfl, hr, hb⟩
  have HB1 := Lib.hid (H0.out.1.trans (hb.mono H0.out.1.size))
  have HR1 := Lib.hid (And.intro ((Keeps.of_below (X := fun _ => False) hb).range H0.out.2.1.1 (fun h => h)) (And.intro ((Keeps.of_below (X := fun _ => False) hb).range H0.out.2.1.2 (fun h => h)) (H0.out.2.2.below hb)))
  clear hb H0 HZ
  cases r with
  | true =>
    clear hr HR1
    go_wp2_with fail
    refine (alive16_any W1).mono ?_
    rintro e W2 ⟨rfl, hb2⟩
    have HB2 := Lib.hid (HB1.out.trans (hb2.mono HB1.out.size))
    clear hb2
    go_wp2_with fail
    exact bodyPost_ret (results_tmp rfl _ _ _) rfl ⟨rfl, HB2.out⟩
  | false =>
    have HP := Lib.hid (hr rfl)
    clear hr
    go_wp2_with fail
    refine (of16_any P _ W1 HR1.out.2.2 (by have := HP.out; omega)).mono ?_
    rintro e W2 ⟨p, b, l, x, rfl, hm, hp, _, hbb, _, hb⟩
    rw [← HN.out] at hm
    have H2 := Lib.hid (show LW w W2 p b N l [(z, k), (zm, mo)] [] [] from ⟨HB1.out.trans (hb.mono HB1.out.size), hm, by have := HB1.out.size; omega, fun q hq => by
      rcases List.mem_cons.1 hq with rfl | hq
      · exact (Keeps.of_below (X := fun _ => False) hb).range HR1.out.1 (fun h => h)
      · rw [List.mem_singleton.1 hq]; exact (Keeps.of_below (X := fun _ => False) hb).range HR1.out.2.1 (fun h => h), by simp, by simp⟩)
    have hl := puts_few hp HP.out
    have HL := Lib.hid (And.intro hp (And.intro hl (sides_few k hp HP.out)))
    clear hm hp hb HB1 HR1 hl hbb
    go_wp2_with (refine wpList_load_sum rfl _ rfl z 0 rfl k (H2.out.r (z, k) (by simp)) ?_)
    refine (mget_any k W2 p b N l H2.out.map).mono ?_
    rintro e W3 ⟨v3, rfl, hN3, hb⟩
    obtain ⟨bs3, hbs3⟩ : ∃ x, x = Keys.get (prs l) k := ⟨_, rfl⟩
    rw [← hbs3] at hN3
    have H3 := Lib.hid ((H2.out.below hb).addY hN3.1)
    have HBS := Lib.hid hbs3
    have hbl : bs3.length ≤ 256 := by
      rw [hbs3]
      exact get_len (vals_full H2.out.map) k
    have HBL := Lib.hid hbl
    clear hb hN3 H2 hbs3 hbl
    go_wp2_with (refine wpList_load_sum rfl _ rfl z 0 rfl k (H3.out.r (z, k) (by simp)) ?_)
    refine (sof_any k W3 p b N l H3.out.map (by have := HL.out.2.1; omega)).mono ?_
    rintro e W4 ⟨which, vS, rfl, hS4, hB4, hb⟩
    obtain ⟨S, hS⟩ : ∃ S, S = sidesOf (tells k 256 (prs l)) := ⟨_, rfl⟩
    have hcn := cnt_sides hB4
    have hsf := HL.out.2.2
    rw [← hS] at hcn hsf
    have hsm := hS4.sums
    rw [← hS] at hsm
    have HBT := Lib.hid (And.intro hS hB4)
    obtain ⟨aS, cS, rfl, hf1, hf2⟩ := sums_form hsm
    obtain ⟨M, hM⟩ : ∃ M, M = S.length := ⟨_, rfl⟩
    rw [← hM] at hcn hsf hf1 hsm
    rw [← hM]
    have H4 := Lib.hid (And.intro (H3.out.below hb) hsm)
    have HK := Lib.hid (And.intro hcn (And.intro hM (And.intro hsf hf2)))
    clear hS4 hB4 hb hcn hS hM H3 hsf hsm hf2
    have k1 : (M : Int) ≤ (cS : Int) := by omega
    have HG := Lib.hid trivial
    go_wp2_with (have _ := HG; refine wpList_var_show (by rfl) rfl _ _ rfl which (.slice aS M cS) (by rfl) rfl rfl ?_; intro W5 hb hr; obtain ⟨z9, hz9⟩ : ∃ x, x = W4.heap.size := ⟨_, rfl⟩; rw [← hz9] at hr ⊢; have H5 := Lib.hid ((H4.out.1.below hb).addS hr (H4.out.2.below hb (Nat.le_refl _))); clear HG hb hr hz9 H4)
    refine wp_region_sched (fun V => LW w V p b N l [(z, k), (zm, mo)] [(v3, bs3)] [(z9, which, .slice aS M cS, S)]) [.t 0, .t 1, .t 2, .t 3, .t 4, .t 5, .t 6, .t 7, .t 10, .s 8, .s 11, .t 12, .e 9 true, .t 13, .t 14] (by kernel_rfl) (by kernel_rfl) (by intro c a d v w h; cases d <;> exact h) ?_
    have HS := Lib.hid (H5.out.below (Below.refl _ _).drew)
    clear H5
    generalize W5.drew = V at *
    iterate 9
      refine wpS_t rfl (v := ?_) (by rfl) (fun W => ?_) ?_
      rotate_left
      · go_simp
        try rfl
      try simp only [Act.put, List.setIfInBounds_toArray, List.set_cons_zero, List.set_cons_succ]
    refine wpS_load_sum (by exact HS.out) rfl (by rfl) _ (by rfl) z9 0 (by rfl) which (fun W hW => which_show (hW.s (z9, which, .slice aS M cS, S) (by simp)).1) ?_
    try simp only [Act.put, List.setIfInBounds_toArray, List.set_cons_zero, List.set_cons_succ]
    refine wpS_s (by exact HS.out) rfl (v := .slice aS M cS) (by rfl) (fun W hW => ?_) ?_
    · have g := cell_show (hW.s (z9, which, .slice aS M cS, S) (by simp)).1
      go_simp
    try simp only [Act.put, List.setIfInBounds_toArray, List.set_cons_zero, List.set_cons_succ]
    iterate 1
      refine wpS_t rfl (v := ?_) (by rfl) (fun W => ?_) ?_
      rotate_left
      · go_simp
        try rfl
      try simp only [Act.put, List.setIfInBounds_toArray, List.set_cons_zero, List.set_cons_succ]
    refine wpS_k rfl (by rfl) (fun K hK => ?_)
    go_simp
    refine (bits_any which V).mono ?_
    rw [HK.out.1]
    rintro e V1 ⟨rfl, hb⟩
    have HS1 := Lib.hid (HS.out.below hb)
    clear hb HS
    refine hK _ _ ⟨by exact HS1.out, ?_⟩; clear hK K
    try simp only [Act.put, List.setIfInBounds_toArray, List.set_cons_zero, List.set_cons_succ]
    iterate 2
      refine wpS_t rfl (v := ?_) (by rfl) (fun W => ?_) ?_
      rotate_left
      · go_simp
        try rfl
      try simp only [Act.put, List.setIfInBounds_toArray, List.set_cons_zero, List.set_cons_succ]
    refine wpS_done ?_
    obtain ⟨i0, z0', hi0, hz0, hs0, hb0, hzs0⟩ := info_sum
    have HI := Lib.hid (And.intro hi0 (And.intro hz0 (And.intro hs0 (And.intro hb0 hzs0))))
    clear hi0 hz0 hs0 hb0 hzs0
    have HG := Lib.hid trivial
    go_wp2_with (have _ := HG; at_make; refine wpList_make_full V1 rfl _ _ _ rfl V1.heap.size 29 i0 z0' 32 Try.underlying57 HI.out.1 HI.out.2.1 HI.out.2.2.1 .i64 .i64 257 257 257 rfl rfl rfl rfl (by rw [HI.out.2.2.2.1]; omega) (by unfold maxLen; omega) (Nat.le_refl _) ?_; intro V2 ho hg; have H2 := Lib.hid (And.intro (Keeps.below (B := V1.heap.size) (Keeps.of_grown (X := fun _ => False) hg (fun k hk => by cases hk)) (Nat.le_refl _) (fun _ h => h.elim)) (And.intro (own_there ho) (own_lt ho rfl))); clear HG ho hg)
    obtain ⟨gE, hgE⟩ : ∃ g, g = V1.heap.size := ⟨_, rfl⟩
    have hge : V1.heap.size ≤ gE := by rw [hgE]; exact Nat.le_refl _
    have HE2 := Lib.hid (And.intro H2.out.1 (show EY V2 gE 257 from ⟨by rw [hgE]; exact H2.out.2.1, fun i h1 h2 => by omega⟩))
    have HGE := Lib.hid hge
    rw [← hgE]
    clear hge H2 hgE
    refine (empty_any 0 V2 (by omega)).mono ?_
    rintro e V3 ⟨rfl, hb⟩
    have HE3 := Lib.hid (And.intro (HE2.out.1.trans (hb.mono HE2.out.1.size)) (HE2.out.2.below hb))
    clear hb HE2
    have HG := Lib.hid trivial
    go_wp2_with (have _ := HG; refine wpList_store_sum rfl _ _ rfl gE (256 * 32) (em 0) rfl rfl (HE3.out.2.at (by omega)) ?_; clear HG)
    have HE4 := Lib.hid (show Below V1.heap.size V1 (V3.setCells gE (256 * 32) (cellsOf (em 0))) ∧ EY (V3.setCells gE (256 * 32) (cellsOf (em 0))) gE 256 from ⟨setCells_below _ HGE.out _ _ _ _ HE3.out.1, HE3.out.2.store (d := 256) (by omega)⟩)
    clear HE3
    change Code.wp _ _ _ _ (V3.setCells gE (256 * 32) (cellsOf (em 0)))
    generalize V3.setCells gE (256 * 32) (cellsOf (em 0)) = V4 at *
    go_loopw [14] (fun iv W => ∃ D : Nat, D ≤ 256 ∧ iv = .int .i64 ((D : Int) - 1) ∧ Below V1.heap.size V1 W ∧ EY W gE D) (fun iv _ => (intOf iv + 1).toNat)
    case atStart => exact ⟨256, Nat.le_refl _, rfl, HE4.out⟩
    case round =>
      clear HE4
      obtain ⟨D, hD, rfl, hB, hE⟩ := hrel
      have HE := Lib.hid (And.intro hB hE)
      clear hB hE
      cases D with
      | zero =>
        have e0 : ((0 : Nat) : Int) - 1 = -1 := rfl
        rw [e0]
        clear e0
        have hb := al (Below.refl wr.heap.size wr) (.cells (cellsShow zeroSum (.slice none 0 0)).toArray 59)
        have ht0 := there_new wr (cellsShow zeroSum (.slice none 0 0)).toArray 59
        have hz33 : (cellsShow zeroSum (.slice none 0 0)).toArray.size = 33 := by rw [List.size_toArray, length_cellsShow]
        rw [hz33] at ht0
        clear hz33
        have hgl : gE < wr.heap.size := there_lt HE.out.2.th (by decide)
        have HT := Lib.hid (show ToldAt (wr.alloc (.cells (cellsShow zeroSum (.slice none 0 0)).toArray 59)) wr.heap.size zeroSum (.slice none 0 0) [] V1.heap.size from ⟨range_new wr (cellsShow zeroSum (.slice none 0 0)).toArray 59 _ rfl, ht0, World.ownsRow_nil _ _ _ _, fun g hg => by cases hg⟩)
        have HE8 := Lib.hid (And.intro (HE.out.1.trans (hb.mono HE.out.1.size)) (And.intro (HE.out.2.below hb) (And.intro hgl HE.out.1.size)))
        clear hb ht0 hgl HE
        go_wp2_with fail
        change Code.wp _ _ _ _ (wr.alloc (.cells (cellsShow zeroSum (.slice none 0 0)).toArray 59))
        generalize wr.alloc (.cells (cellsShow zeroSum (.slice none 0 0)).toArray 59) = V8 at *
        generalize wr.heap.size = zX at *
        have HZX := Lib.hid (And.intro HE8.out.2.2.1 HE8.out.2.2.2)
        obtain ⟨F, hF⟩ : ∃ F, F = fulls mo 256 (tells k 256 (prs l)) := ⟨_, rfl⟩
        have HF := Lib.hid hF
        clear hF
        go_loopw [16, 17, 18] (fun av iv tv W => ∃ (j at_ : Nat) (xw : Sum) (xv : Value), j ≤ 256 ∧ iv = .int .i64 (j : Int) ∧ av = .int .i64 (at_ : Int) ∧ at_ = (sidesOf ((tells k 256 (prs l)).take j)).length ∧ BitsTo xw j F ∧ ToldAt W zX xw xv (sidesOf (F.take j)) V1.heap.size ∧ Below V1.heap.size V1 W ∧ EY W gE 0 ∧ (∀ g, xv.ownBlock = some g → g ≠ gE)) (fun _ iv _ _ => 256 - (intOf iv).toNat)
        case atStart => exact ⟨0, 0, zeroSum, .slice none 0 0, by omega, rfl, rfl, rfl, bitsTo_zero F, HT.out, HE8.out.1, HE8.out.2.1, fun g hg => by cases hg⟩
        case round =>
          clear HT HE8
          obtain ⟨j, at_, xw, xv, hj, rfl, rfl, hat, hbt, hT, hB, hE, hne⟩ := hrel
          by_cases hlt : j < 256
          · have HJ := Lib.hid hlt
            have c1 : decide (j < 256) = true := by simpa using hlt
            have c1' : decide ((j : Int) < 256) = true := by simp; omega
            have hlen : j < (tells k 256 (prs l)).length := by rw [length_tells]; exact hlt
            obtain ⟨x1, hx1⟩ : ∃ x, (tells k 256 (prs l))[j]? = some x := ⟨_, List.getElem?_eq_getElem hlen⟩
            have hb1 : (Keys.kn which).testBit (255 - j) = x1.isSome := by
              have h := HBT.out.2 j hlt
              rw [List.getD_eq_getElem?_getD, hx1] at h
              exact h
            have hw1 : (Keys.kn which >>> (255 - j)) % 2 = if x1.isSome = true then 1 else 0 := by rw [shift_mod, hb1]
            have hFj : F[j]? = some (fl mo (255 - j) x1) := by
              have h := fulls_at mo 256 (tells k 256 (prs l)) (length_tells k 256 _) j x1 hx1
              rw [← HF.out] at h
              exact h
            have hwj : wrap64 ((j : Int) + 1) = ((j + 1 : Nat) : Int) := by unfold wrap64; omega
            have HWJ := Lib.hid hwj
            have HR := Lib.hid (And.intro hat (And.intro hbt (And.intro hT (And.intro hB (And.intro hE hne)))))
            have HX := Lib.hid (And.intro hx1 (And.intro hFj hw1))
            have HLW := Lib.hid (HS1.out.below hB)
            clear hj hlt hlen hx1 hb1 hw1 hFj hwj hat hbt hT hB hE hne
            go_wp2_with (refine wpList_load_sum rfl _ rfl z9 0 rfl which (which_show (HLW.out.s (z9, which, .slice aS M cS, S) (by simp)).1) ?_)
            refine (bit_any which j wr HJ.out).mono ?_
            rw [HX.out.2.2]
            rintro e V5 ⟨rfl, hb⟩
            have HR5 := Lib.hid (And.intro HR.out.1 (And.intro HR.out.2.1 (And.intro (HR.out.2.2.1.below hb) (And.intro (HR.out.2.2.2.1.trans (hb.mono HR.out.2.2.2.1.size)) (And.intro (HR.out.2.2.2.2.1.below hb) HR.out.2.2.2.2.2)))))
            have HL5 := Lib.hid (HLW.out.below hb)
            clear hb HR HLW
            cases x1 with
            | some t =>
              have e0 : (if (some t : Option Sum).isSome = true then 1 else 0 : Nat) = 1 := rfl
              rw [e0]
              clear e0
              have HFU0 := Lib.hid (show F[j]? = some (some t) from HX.out.2.1)
              go_upto_region 21 with (fail)
              have hc := HR5.out.2.2.1.byte (i := j / 8) (by have := HJ.out; omega)
              obtain ⟨C, hC⟩ : ∃ C, C = (xw.toList.getD (j / 8) 0).toNat := ⟨_, rfl⟩
              rw [← hC] at hc
              obtain ⟨D, hD⟩ : ∃ D, D = j / 8 := ⟨_, rfl⟩
              obtain ⟨m, hm⟩ : ∃ m, m = 7 - j % 8 := ⟨_, rfl⟩
              have w8 : IntKind.i64.wrap ((j : Int) / 8) = (D : Int) := by have := HJ.out; rw [IntKind.wrap_i64]; omega
              have wm : IntKind.i64.wrap (7 - (j : Int).tmod 8) = (m : Int) := by rw [Int.tmod_eq_emod_of_nonneg (by omega), IntKind.wrap_i64]; omega
              have hm7 : m ≤ 7 := by omega
              have w64 : IntKind.u64.wrap (m : Int) = (m : Int) := by rw [IntKind.wrap_u64]; omega
              have hsh := shl_wrap m hm7
              have hor := or_all ⟨C, by rw [hC]; exact UInt8.toNat_lt _⟩ ⟨m, by omega⟩
              obtain ⟨B, hBB⟩ : ∃ B, B = 2 ^ m := ⟨_, rfl⟩
              obtain ⟨R, hR⟩ : ∃ R, R = (UInt8.ofNat C ||| UInt8.ofNat B).toNat := ⟨_, rfl⟩
              simp only at hor
              rw [← hBB] at hsh hor
              rw [← hR] at hor
              rw [← hD] at hc
              have d0 : (0 : Int) ≤ (D : Int) := by omega
              have d1 : (D : Int) < 32 := by have := HJ.out; omega
              have d2 : D < 32 := by have := HJ.out; omega
              have HD := Lib.hid (And.intro hC (And.intro hD (And.intro hm (And.intro hBB hR))))
              have f1 : V5.frozen? ⟨zX, D, none⟩ = false := by have := (HR5.out.2.2.1.th D (by omega)).2; rwa [Nat.zero_add] at this
              clear hC hD hm hBB hR hm7 c1 c1' hf1 k1
              apply wp_region_lit
              iterate 16
                refine wpList_plain rfl (fun K hK => ?_)
                go_simp
                refine hK _ _ ?_; clear hK K
                try simp only [Act.put, List.setIfInBounds_toArray, List.set_cons_zero, List.set_cons_succ]
              refine wpList_nil ?_
              have hmk := HR5.out.2.2.1.mark HJ.out HD.out.1 (R := R) (by rw [HD.out.2.2.2.2, HD.out.2.2.2.1, HD.out.2.2.1])
              rw [← HD.out.2.1] at hmk
              have kk : Keeps (· = zX) V5 (V5.setCell ⟨zX, D, none⟩ (.int .u8 (R : Int))) := (Keeps.refl (· = zX) V5).setCell (p := ⟨zX, D, none⟩) (.inl rfl) _
              have hbk : Below V1.heap.size V1 (V5.setCell ⟨zX, D, none⟩ (.int .u8 (R : Int))) := HR5.out.2.2.2.1.trans (kk.below HR5.out.2.2.2.1.size (fun i hi => by rw [hi]; exact HZX.out.2))
              have hek : EY (V5.setCell ⟨zX, D, none⟩ (.int .u8 (R : Int))) gE 0 := HR5.out.2.2.2.2.1.keep kk (by have := HZX.out.1; omega)
              have HRM := Lib.hid (And.intro HR5.out.1 (And.intro HR5.out.2.1 (And.intro hmk (And.intro hbk (And.intro hek HR5.out.2.2.2.2.2)))))
              clear hmk kk hbk hek HR5 f1 hc w8 wm w64 hsh hor d0 d1 d2 HD
              generalize V5.setCell ⟨zX, D, none⟩ (.int .u8 (R : Int)) = V7 at *
              have ha1 := sides_at HX.out.1
              rw [← HRM.out.1, ← HBT.out.1] at ha1
              have hat1 : at_ < M := by rw [HK.out.2.1]; exact (List.getElem?_eq_some_iff.1 ha1.1).1
              have HLM := Lib.hid (HS1.out.below HRM.out.2.2.2.1)
              obtain ⟨bS, oS, rfl⟩ := sums_ptr (HLM.out.s (z9, which, .slice aS M cS, S) (by simp)).2 ha1.1
              have HAT := Lib.hid ha1
              have hmb : M ≤ 16 := HK.out.2.2.1
              clear ha1
              have hwa : wrap64 ((at_ : Int) + 1) = ((at_ + 1 : Nat) : Int) := by unfold wrap64; omega
              have HWA := Lib.hid hwa
              have g1 : decide (M ≤ at_) = false := decide_eq_false (Nat.not_le.2 hat1)
              have g1' : decide ((M : Int) ≤ (at_ : Int)) = false := decide_eq_false (Int.not_le.2 (Int.ofNat_lt.2 hat1))
              have a0 : (0 : Int) ≤ (at_ : Int) := Int.natCast_nonneg _
              have a1 : (at_ : Int) < (M : Int) := Int.ofNat_lt.2 hat1
              clear hat1 hmb hwa
              go_upto_region 23 with (fail)
              refine wp_region_sched (fun W => W.cell? ⟨zX, 32, none⟩ = some xv) [.t 0, .t 2, .t 4, .s 1, .e 3 true, .t 5, .e 6 true, .e 7 true, .e 8 false, .t 9, .e 10 false] (by kernel_rfl) (by kernel_rfl) (by intro c a d v w h; cases d <;> exact h) ?_
              have HRN := Lib.hid (show at_ = (sidesOf (List.take j (tells k 256 (prs l)))).length ∧ BitsTo xw j F ∧ ToldAt V7.drew zX (setBit xw j) xv (sidesOf (List.take j F)) V1.heap.size ∧ Below V1.heap.size V1 V7.drew ∧ EY V7.drew gE 0 ∧ ∀ (g : Nat), xv.ownBlock = some g → g ≠ gE from ⟨HRM.out.1, HRM.out.2.1, HRM.out.2.2.1.below (Below.refl _ _).drew, HRM.out.2.2.2.1.drew, HRM.out.2.2.2.2.1.below (Below.refl _ _).drew, HRM.out.2.2.2.2.2⟩)
              have HLN := Lib.hid (HLM.out.below (Below.refl _ _).drew)
              clear HLM
              clear HRM
              generalize V7.drew = V8b at *
              iterate 3
                refine wpS_t rfl (v := ?_) (by rfl) (fun W => ?_) ?_
                rotate_left
                · go_simp
                  try rfl
                try simp only [Act.put, List.setIfInBounds_toArray, List.set_cons_zero, List.set_cons_succ]
              refine wpS_s (by exact HRN.out.2.2.1.slice) rfl (v := ?_) (by rfl) (fun W hSW => ?_) ?_
              rotate_left
              · go_simp
                try rfl
              try simp only [Act.put, List.setIfInBounds_toArray, List.set_cons_zero, List.set_cons_succ]
              refine wpS_k rfl (by rfl) (fun K hK => ?_)
              have g := cell_show (HLN.out.s (z9, which, .slice (some ⟨bS, oS, none⟩) M cS, S) (by simp)).1
              go_simp
              refine hK _ _ ⟨by exact HRN.out.2.2.1.slice, ?_⟩; clear hK K
              try simp only [Act.put, List.setIfInBounds_toArray, List.set_cons_zero, List.set_cons_succ]
              clear g
              iterate 1
                refine wpS_t rfl (v := ?_) (by rfl) (fun W => ?_) ?_
                rotate_left
                · go_simp
                  try rfl
                try simp only [Act.put, List.setIfInBounds_toArray, List.set_cons_zero, List.set_cons_succ]
              refine wpS_k rfl (by rfl) (fun K hK => ?_)
              refine wp_load_sum _ (by rfl) bS (oS + at_ * 32) (by rfl) t (sums_elem (HLN.out.s (z9, which, .slice (some ⟨bS, oS, none⟩) M cS, S) (by simp)).2 HAT.out.1) ?_
              refine hK _ _ ⟨by exact HRN.out.2.2.1.slice, ?_⟩; clear hK K
              try simp only [Act.put, List.setIfInBounds_toArray, List.set_cons_zero, List.set_cons_succ]
              obtain ⟨u, hu⟩ : ∃ u, u = t := ⟨_, rfl⟩
              rw [← hu]
              have HU := Lib.hid hu
              clear hu
              refine wpS_k rfl (by rfl) (fun K hK => ?_)
              refine wp_build_sums 1 _ (by rfl) [u] rfl (by omega) (by omega) (by rfl) ?_
              have hb2 := al (Below.refl V8b.heap.size V8b) (.cells (cellsAll [u]).toArray 29)
              have H4 := Lib.hid (And.intro (HRN.out.2.2.2.1.trans (hb2.mono HRN.out.2.2.2.1.size)) (And.intro (range_new V8b (cellsAll [u]).toArray 29 _ rfl) (And.intro (HRN.out.2.2.1.below hb2) (HRN.out.2.2.2.2.1.below hb2))))
              have HQ := Lib.hid (And.intro HRN.out.1 (And.intro HRN.out.2.1 HRN.out.2.2.2.2.2))
              clear HRN hb2
              generalize V8b.heap.size = y at *
              generalize V8b.alloc (.cells (cellsAll [u]).toArray 29) = V9 at *
              refine hK _ _ ⟨by exact H4.out.2.2.1.slice, ?_⟩; clear hK K
              try simp only [Act.put, List.setIfInBounds_toArray, List.set_cons_zero, List.set_cons_succ]
              refine wpS_e rfl (by rfl) (fun K hK => ?_)
              obtain ⟨SF, hSF⟩ : ∃ SF, SF = sidesOf (List.take j F) := ⟨_, rfl⟩
              have HSF := Lib.hid hSF
              rw [← hSF] at H4
              have hFlen : F.length = 256 := by rw [HF.out]; exact length_fulls mo 256 _ (length_tells k 256 _)
              have hlen2 : SF.length ≤ 256 := by rw [hSF]; refine Nat.le_trans (List.length_filterMap_le _ _) ?_; rw [List.length_take]; omega
              clear hSF hFlen
              refine wp_append_sums _ _ (by rfl) V1.heap.size xv SF [u] SF.length 1 rfl rfl (by rfl) H4.out.2.2.1.own y 0 1 (by rfl) H4.out.2.1 (by omega) (by omega) H4.out.1.size ?_
              intro g cap2 V10 ho4 hg4 hat4 hlt4
              have kk : Keeps (fun k => xv.ownBlock = some k) V9 V10 := Keeps.of_grown hg4 (fun k hk => hk)
              have hgt : g ≠ zX := by
                rcases hat4 with h | h
                · exact H4.out.2.2.1.ne g h
                · have := H4.out.2.2.1.lt; omega
              have hge2 : g ≠ gE := by
                rcases hat4 with h | h
                · exact HQ.out.2.2 g h
                · have := there_lt H4.out.2.2.2.th (by decide); omega
              have H5 := Lib.hid (And.intro (H4.out.1.trans (kk.below H4.out.1.size (fun k hk => own_base H4.out.2.2.1.own k hk))) (And.intro (kk.range H4.out.2.2.1.row (fun h => H4.out.2.2.1.ne zX h rfl)) (And.intro (kk.there H4.out.2.2.1.th (by decide) (fun h => H4.out.2.2.1.ne zX h rfl)) (And.intro ho4 (And.intro hgt (And.intro hge2 (H4.out.2.2.2.keep kk (fun h => HQ.out.2.2 gE h rfl))))))))
              clear kk hgt hge2 hat4 hlt4 hg4 ho4 H4 hlen2
              refine hK _ _ ?_; clear hK K
              try simp only [Act.put, List.setIfInBounds_toArray, List.set_cons_zero, List.set_cons_succ]
              iterate 1
                refine wpS_t rfl (v := ?_) (by rfl) (fun W => ?_) ?_
                rotate_left
                · go_simp
                  try rfl
                try simp only [Act.put, List.setIfInBounds_toArray, List.set_cons_zero, List.set_cons_succ]
              have h32 : V10.cell? ⟨zX, 32, none⟩ = some xv := by
                have := H5.out.2.1 32 xv (by rw [List.getElem?_append_right (by rw [length_cellsOf]; omega), length_cellsOf]; rfl)
                rwa [Nat.zero_add] at this
              have f32 : V10.frozen? ⟨zX, 32, none⟩ = false := by have := (H5.out.2.2.1 32 (by omega)).2; rwa [Nat.zero_add] at this
              refine wpS_e rfl (by rfl) (fun K hK => ?_)
              go_simp
              refine hK _ _ ?_; clear hK K
              try simp only [Act.put, List.setIfInBounds_toArray, List.set_cons_zero, List.set_cons_succ]
              refine wpS_done ?_
              clear h32 f32
              have hfin : ToldAt (V10.setCell ⟨zX, 32, none⟩ (.slice (some ⟨g, 0, none⟩) (SF.length + 1) cap2)) zX (setBit xw j) (.slice (some ⟨g, 0, none⟩) (SF.length + 1) cap2) (SF ++ [u]) V1.heap.size :=
                ToldAt.lay H5.out.2.1 H5.out.2.2.1 (by rw [List.length_append]; exact H5.out.2.2.2.1) (fun k hk => by
                  simp only [Value.ownBlock, Option.some.injEq] at hk
                  rw [← hk]; exact H5.out.2.2.2.2.1)
              have hk5 : Keeps (· = zX) V10 (V10.setCell ⟨zX, 32, none⟩ (.slice (some ⟨g, 0, none⟩) (SF.length + 1) cap2)) := (Keeps.refl (· = zX) V10).setCell (p := ⟨zX, 32, none⟩) (.inl rfl) _
              have H6 := Lib.hid (And.intro hfin (And.intro (H5.out.1.trans (hk5.below H5.out.1.size (fun k hk => by rw [hk]; exact HZX.out.2))) (And.intro (H5.out.2.2.2.2.2.2.keep hk5 (by have := HZX.out.1; omega)) H5.out.2.2.2.2.2.1)))
              clear hfin hk5 H5
              obtain ⟨xv2, hxv2⟩ : ∃ v, v = Value.slice (some ⟨g, 0, none⟩) (SF.length + 1) cap2 := ⟨_, rfl⟩
              have HXV := Lib.hid hxv2
              clear hxv2
              have HFU := Lib.hid (show F[j]? = some (some u) from HFU0.out.trans (by rw [HU.out]))
              have HFS := Lib.hid (show sidesOf (F.take (j + 1)) = SF ++ [u] by rw [(sides_step HFU.out).1, HSF.out]; rfl)
              rw [← HXV.out] at H6 ⊢
              generalize V10.setCell ⟨zX, 32, none⟩ xv2 = V11 at *
              go_wp2_with fail
              try rw [HWJ.out]
              try rw [HWA.out]
              exact ⟨⟨j + 1, at_ + 1, setBit xw j, xv2, by have := HJ.out; omega, rfl, rfl, by rw [(sides_at HX.out.1).2, ← HQ.out.1], bitsTo_set HQ.out.2.1 HJ.out (by rw [List.getD_eq_getElem?_getD, HFU.out]; rfl), by rw [HFS.out]; exact H6.out.1, H6.out.2.1, H6.out.2.2.1, fun g hg => by rw [HXV.out] at hg; simp only [Value.ownBlock, Option.some.injEq] at hg; rw [← hg]; exact H6.out.2.2.2⟩, by simp only [intOf]; have := HJ.out; omega⟩
            | none =>
              have e0 : (if (none : Option Sum).isSome = true then 1 else 0 : Nat) = 0 := rfl
              rw [e0]
              clear e0
              go_wp2_with (refine wpList_load_sum_g (by rfl) _ rfl zm 0 rfl mo (HL5.out.r (zm, mo) (by simp)) ?_)
              obtain ⟨q2, hq2⟩ : ∃ q, q = (Keys.kn mo >>> (255 - j)) % 2 := ⟨_, rfl⟩
              have hc := bit_any mo j V5 HJ.out
              rw [← hq2] at hc
              refine hc.mono ?_
              clear hc
              rintro e V6 ⟨rfl, hb⟩
              have HR6 := Lib.hid (And.intro HR5.out.1 (And.intro HR5.out.2.1 (And.intro (HR5.out.2.2.1.below hb) (And.intro (HR5.out.2.2.2.1.trans (hb.mono HR5.out.2.2.2.1.size)) (And.intro (HR5.out.2.2.2.2.1.below hb) HR5.out.2.2.2.2.2)))))
              have HL6 := Lib.hid (HL5.out.below hb)
              clear hb HR5 HL5
              by_cases hq : q2 = 1
              · subst hq
                have hyes : (Keys.kn mo).testBit (255 - j) = true := (bit_ne mo (255 - j)).1 hq2.symm
                have HFU0 := Lib.hid (show F[j]? = some (some (em (255 - j))) by
                  have h := HX.out.2.1
                  unfold fl at h
                  rw [hyes] at h
                  exact h)
                clear hq2 hyes
                go_upto_region 21 with (fail)
                have hc := HR6.out.2.2.1.byte (i := j / 8) (by have := HJ.out; omega)
                obtain ⟨C, hC⟩ : ∃ C, C = (xw.toList.getD (j / 8) 0).toNat := ⟨_, rfl⟩
                rw [← hC] at hc
                obtain ⟨D, hD⟩ : ∃ D, D = j / 8 := ⟨_, rfl⟩
                obtain ⟨m, hm⟩ : ∃ m, m = 7 - j % 8 := ⟨_, rfl⟩
                have w8 : IntKind.i64.wrap ((j : Int) / 8) = (D : Int) := by have := HJ.out; rw [IntKind.wrap_i64]; omega
                have wm : IntKind.i64.wrap (7 - (j : Int).tmod 8) = (m : Int) := by rw [Int.tmod_eq_emod_of_nonneg (by omega), IntKind.wrap_i64]; omega
                have hm7 : m ≤ 7 := by omega
                have w64 : IntKind.u64.wrap (m : Int) = (m : Int) := by rw [IntKind.wrap_u64]; omega
                have hsh := shl_wrap m hm7
                have hor := or_all ⟨C, by rw [hC]; exact UInt8.toNat_lt _⟩ ⟨m, by omega⟩
                obtain ⟨B, hBB⟩ : ∃ B, B = 2 ^ m := ⟨_, rfl⟩
                obtain ⟨R, hR⟩ : ∃ R, R = (UInt8.ofNat C ||| UInt8.ofNat B).toNat := ⟨_, rfl⟩
                simp only at hor
                rw [← hBB] at hsh hor
                rw [← hR] at hor
                rw [← hD] at hc
                have d0 : (0 : Int) ≤ (D : Int) := by omega
                have d1 : (D : Int) < 32 := by have := HJ.out; omega
                have d2 : D < 32 := by have := HJ.out; omega
                have HD := Lib.hid (And.intro hC (And.intro hD (And.intro hm (And.intro hBB hR))))
                have f1 : V6.frozen? ⟨zX, D, none⟩ = false := by have := (HR6.out.2.2.1.th D (by omega)).2; rwa [Nat.zero_add] at this
                clear hC hD hm hBB hR hm7 c1 c1' hf1 k1
                apply wp_region_lit
                iterate 16
                  refine wpList_plain rfl (fun K hK => ?_)
                  go_simp
                  refine hK _ _ ?_; clear hK K
                  try simp only [Act.put, List.setIfInBounds_toArray, List.set_cons_zero, List.set_cons_succ]
                refine wpList_nil ?_
                have hmk := HR6.out.2.2.1.mark HJ.out HD.out.1 (R := R) (by rw [HD.out.2.2.2.2, HD.out.2.2.2.1, HD.out.2.2.1])
                rw [← HD.out.2.1] at hmk
                have kk : Keeps (· = zX) V6 (V6.setCell ⟨zX, D, none⟩ (.int .u8 (R : Int))) := (Keeps.refl (· = zX) V6).setCell (p := ⟨zX, D, none⟩) (.inl rfl) _
                have hbk : Below V1.heap.size V1 (V6.setCell ⟨zX, D, none⟩ (.int .u8 (R : Int))) := HR6.out.2.2.2.1.trans (kk.below HR6.out.2.2.2.1.size (fun i hi => by rw [hi]; exact HZX.out.2))
                have hek : EY (V6.setCell ⟨zX, D, none⟩ (.int .u8 (R : Int))) gE 0 := HR6.out.2.2.2.2.1.keep kk (by have := HZX.out.1; omega)
                have HRM := Lib.hid (And.intro HR6.out.1 (And.intro HR6.out.2.1 (And.intro hmk (And.intro hbk (And.intro hek HR6.out.2.2.2.2.2)))))
                clear hmk kk hbk hek HR6 f1 hc w8 wm w64 hsh hor d0 d1 d2 HD
                generalize V6.setCell ⟨zX, D, none⟩ (.int .u8 (R : Int)) = V7 at *
                have HWI : IntKind.i64.wrap ((j : Int) + 1) = ((j + 1 : Nat) : Int) := by have := HJ.out; rw [IntKind.wrap_i64]; omega
                have a0 : (0 : Int) ≤ (j : Int) := Int.natCast_nonneg _
                have a1 : (j : Int) + 1 < 257 := by have := HJ.out; omega
                go_upto_region 24 with (fail)
                refine wp_region_sched (fun W => W.cell? ⟨zX, 32, none⟩ = some xv) [.t 0, .t 2, .t 3, .t 4, .t 5, .s 1, .e 6 true, .e 7 true, .e 8 false, .t 9, .e 10 false] (by kernel_rfl) (by kernel_rfl) (by intro c a d v w h; cases d <;> exact h) ?_
                have HRN := Lib.hid (show at_ = (sidesOf (List.take j (tells k 256 (prs l)))).length ∧ BitsTo xw j F ∧ ToldAt V7.drew zX (setBit xw j) xv (sidesOf (List.take j F)) V1.heap.size ∧ Below V1.heap.size V1 V7.drew ∧ EY V7.drew gE 0 ∧ ∀ (g : Nat), xv.ownBlock = some g → g ≠ gE from ⟨HRM.out.1, HRM.out.2.1, HRM.out.2.2.1.below (Below.refl _ _).drew, HRM.out.2.2.2.1.drew, HRM.out.2.2.2.2.1.below (Below.refl _ _).drew, HRM.out.2.2.2.2.2⟩)
                clear HRM
                generalize V7.drew = V8b at *
                iterate 5
                  refine wpS_t rfl (v := ?_) (by rfl) (fun W => ?_) ?_
                  rotate_left
                  · go_simp
                    try rfl
                  try simp only [Act.put, List.setIfInBounds_toArray, List.set_cons_zero, List.set_cons_succ]
                refine wpS_s (by exact HRN.out.2.2.1.slice) rfl (v := ?_) (by rfl) (fun W hSW => ?_) ?_
                rotate_left
                · go_simp
                  try rfl
                try simp only [Act.put, List.setIfInBounds_toArray, List.set_cons_zero, List.set_cons_succ]
                refine wpS_k rfl (by rfl) (fun K hK => ?_)
                refine wp_load_sum _ (by rfl) gE ((j + 1) * 32) (by rfl) (em (255 - j)) (by have h := HRN.out.2.2.2.2.1.rng (j + 1) (Nat.zero_le _) (by have := HJ.out; omega); rw [show 256 - (j + 1) = 255 - j by omega] at h; exact h) ?_
                refine hK _ _ ⟨by exact HRN.out.2.2.1.slice, ?_⟩; clear hK K
                try simp only [Act.put, List.setIfInBounds_toArray, List.set_cons_zero, List.set_cons_succ]
                obtain ⟨u, hu⟩ : ∃ u, u = (em (255 - j)) := ⟨_, rfl⟩
                rw [← hu]
                have HU := Lib.hid hu
                clear hu
                refine wpS_k rfl (by rfl) (fun K hK => ?_)
                refine wp_build_sums 1 _ (by rfl) [u] rfl (by omega) (by omega) (by rfl) ?_
                have hb2 := al (Below.refl V8b.heap.size V8b) (.cells (cellsAll [u]).toArray 29)
                have H4 := Lib.hid (And.intro (HRN.out.2.2.2.1.trans (hb2.mono HRN.out.2.2.2.1.size)) (And.intro (range_new V8b (cellsAll [u]).toArray 29 _ rfl) (And.intro (HRN.out.2.2.1.below hb2) (HRN.out.2.2.2.2.1.below hb2))))
                have HQ := Lib.hid (And.intro HRN.out.1 (And.intro HRN.out.2.1 HRN.out.2.2.2.2.2))
                clear HRN hb2
                generalize V8b.heap.size = y at *
                generalize V8b.alloc (.cells (cellsAll [u]).toArray 29) = V9 at *
                refine hK _ _ ⟨by exact H4.out.2.2.1.slice, ?_⟩; clear hK K
                try simp only [Act.put, List.setIfInBounds_toArray, List.set_cons_zero, List.set_cons_succ]
                refine wpS_e rfl (by rfl) (fun K hK => ?_)
                obtain ⟨SF, hSF⟩ : ∃ SF, SF = sidesOf (List.take j F) := ⟨_, rfl⟩
                have HSF := Lib.hid hSF
                rw [← hSF] at H4
                have hFlen : F.length = 256 := by rw [HF.out]; exact length_fulls mo 256 _ (length_tells k 256 _)
                have hlen2 : SF.length ≤ 256 := by rw [hSF]; refine Nat.le_trans (List.length_filterMap_le _ _) ?_; rw [List.length_take]; omega
                clear hSF hFlen
                refine wp_append_sums _ _ (by rfl) V1.heap.size xv SF [u] SF.length 1 rfl rfl (by rfl) H4.out.2.2.1.own y 0 1 (by rfl) H4.out.2.1 (by omega) (by omega) H4.out.1.size ?_
                intro g cap2 V10 ho4 hg4 hat4 hlt4
                have kk : Keeps (fun k => xv.ownBlock = some k) V9 V10 := Keeps.of_grown hg4 (fun k hk => hk)
                have hgt : g ≠ zX := by
                  rcases hat4 with h | h
                  · exact H4.out.2.2.1.ne g h
                  · have := H4.out.2.2.1.lt; omega
                have hge2 : g ≠ gE := by
                  rcases hat4 with h | h
                  · exact HQ.out.2.2 g h
                  · have := there_lt H4.out.2.2.2.th (by decide); omega
                have H5 := Lib.hid (And.intro (H4.out.1.trans (kk.below H4.out.1.size (fun k hk => own_base H4.out.2.2.1.own k hk))) (And.intro (kk.range H4.out.2.2.1.row (fun h => H4.out.2.2.1.ne zX h rfl)) (And.intro (kk.there H4.out.2.2.1.th (by decide) (fun h => H4.out.2.2.1.ne zX h rfl)) (And.intro ho4 (And.intro hgt (And.intro hge2 (H4.out.2.2.2.keep kk (fun h => HQ.out.2.2 gE h rfl))))))))
                clear kk hgt hge2 hat4 hlt4 hg4 ho4 H4 hlen2
                refine hK _ _ ?_; clear hK K
                try simp only [Act.put, List.setIfInBounds_toArray, List.set_cons_zero, List.set_cons_succ]
                iterate 1
                  refine wpS_t rfl (v := ?_) (by rfl) (fun W => ?_) ?_
                  rotate_left
                  · go_simp
                    try rfl
                  try simp only [Act.put, List.setIfInBounds_toArray, List.set_cons_zero, List.set_cons_succ]
                have h32 : V10.cell? ⟨zX, 32, none⟩ = some xv := by
                  have := H5.out.2.1 32 xv (by rw [List.getElem?_append_right (by rw [length_cellsOf]; omega), length_cellsOf]; rfl)
                  rwa [Nat.zero_add] at this
                have f32 : V10.frozen? ⟨zX, 32, none⟩ = false := by have := (H5.out.2.2.1 32 (by omega)).2; rwa [Nat.zero_add] at this
                refine wpS_e rfl (by rfl) (fun K hK => ?_)
                go_simp
                refine hK _ _ ?_; clear hK K
                try simp only [Act.put, List.setIfInBounds_toArray, List.set_cons_zero, List.set_cons_succ]
                refine wpS_done ?_
                clear h32 f32
                have hfin : ToldAt (V10.setCell ⟨zX, 32, none⟩ (.slice (some ⟨g, 0, none⟩) (SF.length + 1) cap2)) zX (setBit xw j) (.slice (some ⟨g, 0, none⟩) (SF.length + 1) cap2) (SF ++ [u]) V1.heap.size :=
                  ToldAt.lay H5.out.2.1 H5.out.2.2.1 (by rw [List.length_append]; exact H5.out.2.2.2.1) (fun k hk => by
                    simp only [Value.ownBlock, Option.some.injEq] at hk
                    rw [← hk]; exact H5.out.2.2.2.2.1)
                have hk5 : Keeps (· = zX) V10 (V10.setCell ⟨zX, 32, none⟩ (.slice (some ⟨g, 0, none⟩) (SF.length + 1) cap2)) := (Keeps.refl (· = zX) V10).setCell (p := ⟨zX, 32, none⟩) (.inl rfl) _
                have H6 := Lib.hid (And.intro hfin (And.intro (H5.out.1.trans (hk5.below H5.out.1.size (fun k hk => by rw [hk]; exact HZX.out.2))) (And.intro (H5.out.2.2.2.2.2.2.keep hk5 (by have := HZX.out.1; omega)) H5.out.2.2.2.2.2.1)))
                clear hfin hk5 H5
                obtain ⟨xv2, hxv2⟩ : ∃ v, v = Value.slice (some ⟨g, 0, none⟩) (SF.length + 1) cap2 := ⟨_, rfl⟩
                have HXV := Lib.hid hxv2
                clear hxv2
                have HFU := Lib.hid (show F[j]? = some (some u) from HFU0.out.trans (by rw [HU.out]))
                have HFS := Lib.hid (show sidesOf (F.take (j + 1)) = SF ++ [u] by rw [(sides_step HFU.out).1, HSF.out]; rfl)
                rw [← HXV.out] at H6 ⊢
                generalize V10.setCell ⟨zX, 32, none⟩ xv2 = V11 at *
                go_wp2_with fail
                try rw [HWJ.out]
                exact ⟨⟨j + 1, at_, setBit xw j, xv2, by have := HJ.out; omega, rfl, rfl, by rw [sides_no HX.out.1]; exact HQ.out.1, bitsTo_set HQ.out.2.1 HJ.out (by rw [List.getD_eq_getElem?_getD, HFU.out]; rfl), by rw [HFS.out]; exact H6.out.1, H6.out.2.1, H6.out.2.2.1, fun g hg => by rw [HXV.out] at hg; simp only [Value.ownBlock, Option.some.injEq] at hg; rw [← hg]; exact H6.out.2.2.2⟩, by simp only [intOf]; have := HJ.out; omega⟩
              · have m1 : decide (q2 = 1) = false := by simpa using hq
                have m1' : decide ((q2 : Int) = 1) = false := by simp; omega
                have m1'' : ((q2 : Int) == 1) = false := by rw [beq_eq_false_iff_ne]; omega
                have hno : (Keys.kn mo).testBit (255 - j) = false := by
                  rw [hq2, shift_mod] at hq
                  cases h : (Keys.kn mo).testBit (255 - j)
                  · rfl
                  · rw [h] at hq; simp at hq
                have hfl : F[j]? = some none := by
                  have h := HX.out.2.1
                  unfold fl at h
                  rw [hno] at h
                  exact h
                have HFL := Lib.hid hfl
                clear hq hq2 hno hfl
                go_wp2_with fail
                try rw [HWJ.out]
                exact ⟨⟨j + 1, at_, xw, xv, by have := HJ.out; omega, rfl, rfl, by rw [sides_no HX.out.1]; exact HR6.out.1, bitsTo_no HR6.out.2.1 (by rw [List.getD_eq_getElem?_getD, HFL.out]; rfl), by rw [sides_no HFL.out]; exact HR6.out.2.2.1, HR6.out.2.2.2⟩, by simp only [intOf]; have := HJ.out; omega⟩
          · have hj' : j = 256 := by omega
            subst hj'
            have hFn : F.length = 256 := by rw [HF.out]; exact length_fulls mo 256 _ (length_tells k 256 _)
            have hFl : F.take 256 = F := List.take_of_length_le (by rw [hFn]; exact Nat.le_refl _)
            rw [hFl] at hT
            have hck : checkOf (rootOf (prs l)) k bs3 xw (sidesOf F) = true := by
              rw [HF.out, HBS.out]
              exact check_full (prs_rise HS1.out.map.rise) (by rw [← HF.out]; exact bitsTo_all hbt)
            have hsl : (sidesOf F).length ≤ 256 := by rw [← hFn]; exact List.length_filterMap_le _ _
            have HX := Lib.hid (show LW w wr p b N l [(z, k), (zm, mo)] [(v3, bs3)] [(zX, xw, xv, sidesOf F), (z9, which, .slice aS M cS, S)] from (HS1.out.below hB).addS hT.row (sums_own hT.own))
            have HC := Lib.hid (And.intro hck hsl)
            clear hlt hj hat hbt hT hB hE hne hFn hFl hck hsl
            go_wp2_with fail
            refine wp_region_sched (fun V => LW w V p b N l [(z, k), (zm, mo)] [(v3, bs3)] [(zX, xw, xv, sidesOf F), (z9, which, .slice aS M cS, S)]) [.e 0 true, .t 1, .t 2, .t 5, .s 4, .s 6, .e 3 true, .e 7 false, .t 8, .t 9] (by kernel_rfl) (by kernel_rfl) (by intro c a d v w h; cases d <;> exact h) ?_
            have HX1 := Lib.hid (HX.out.below (Below.refl _ _).drew)
            clear HX
            generalize wr.drew = V10 at *
            refine wpS_k rfl (by rfl) (fun K hK => ?_)
            go_simp
            refine (alive16_any V10).mono ?_
            rintro e V11 ⟨rfl, hb⟩
            have HX2 := Lib.hid (HX1.out.below hb)
            clear hb HX1
            refine hK _ _ ⟨by exact HX2.out, ?_⟩; clear hK K
            try simp only [Act.put, List.setIfInBounds_toArray, List.set_cons_zero, List.set_cons_succ]
            iterate 3
              refine wpS_t rfl (v := ?_) (by rfl) (fun W => ?_) ?_
              rotate_left
              · go_simp
                try rfl
              try simp only [Act.put, List.setIfInBounds_toArray, List.set_cons_zero, List.set_cons_succ]
            refine wpS_load_sum (by exact HX2.out) rfl (by rfl) _ (by rfl) z 0 (by rfl) k (fun W hW => hW.r (z, k) (by simp)) ?_
            try simp only [Act.put, List.setIfInBounds_toArray, List.set_cons_zero, List.set_cons_succ]
            refine wpS_load_show (by exact HX2.out) rfl (by rfl) _ (by rfl) zX 0 (by rfl) xw xv (fun W hW => (hW.s (zX, xw, xv, sidesOf F) (by simp)).1) ?_
            try simp only [Act.put, List.setIfInBounds_toArray, List.set_cons_zero, List.set_cons_succ]
            refine wpS_k rfl (by rfl) (fun K hK => ?_)
            go_simp
            refine (mroot_any V11 p b N l HX2.out.map (by have := HL.out.2.1; omega)).mono ?_
            rintro e V12 ⟨rfl, hb⟩
            have HX3 := Lib.hid (HX2.out.below hb)
            clear hb HX2
            refine hK _ _ ⟨by exact HX3.out, ?_⟩; clear hK K
            try simp only [Act.put, List.setIfInBounds_toArray, List.set_cons_zero, List.set_cons_succ]
            refine wpS_e rfl (by rfl) (fun K hK => ?_)
            go_simp
            refine (scheck_any (rootOf (prs l)) k xw v3 xv bs3 (sidesOf F) V12 (HX3.out.y (v3, bs3) (by simp)) (HX3.out.s (zX, xw, xv, sidesOf F) (by simp)).2 (by have := HC.out.2; omega) (by have := HBL.out; omega)).mono ?_
            rw [HC.out.1]
            rintro e V13 ⟨rfl, hb⟩
            have HX4 := Lib.hid (HX3.out.below hb)
            clear hb HX3
            refine hK _ _ ?_; clear hK K
            try simp only [Act.put, List.setIfInBounds_toArray, List.set_cons_zero, List.set_cons_succ]
            iterate 2
              refine wpS_t rfl (v := ?_) (by rfl) (fun W => ?_) ?_
              rotate_left
              · go_simp
                try rfl
              try simp only [Act.put, List.setIfInBounds_toArray, List.set_cons_zero, List.set_cons_succ]
            refine wpS_done ?_
            go_wp2_with fail
            exact bodyPost_ret (results_tmp rfl _ _ _) rfl ⟨rfl, HX4.out.bw⟩
      | succ d =>
        have e0 : ((d + 1 : Nat) : Int) - 1 = (d : Int) := by omega
        rw [e0]
        clear e0
        have hd0 : (0 : Int) ≤ (d : Int) := Int.natCast_nonneg _
        have hd1 : decide ((0 : Int) ≤ (d : Int)) = true := decide_eq_true hd0
        have hd2 : (d : Int) < 257 := by omega
        have hd3 : (d : Int) + 1 < 257 := by omega
        have HD := Lib.hid hD
        have hwd : IntKind.i64.wrap ((d : Int) + 1) = ((d + 1 : Nat) : Int) := by rw [IntKind.wrap_i64]; omega
        clear hD
        obtain ⟨sE, hsE⟩ : ∃ s, s = em (256 - (d + 1)) := ⟨_, rfl⟩
        obtain ⟨sN, hsN⟩ : ∃ s, s = em (256 - d) := ⟨_, rfl⟩
        have hsd0 : sd sE sE = sN := by have := HD.out; rw [hsE, hsN, show 256 - d = (256 - (d + 1)) + 1 by omega, em_succ]
        have hrE := HE.out.2.rng (d + 1) (Nat.le_refl _) HD.out
        rw [← hsE] at hrE
        have HEI := Lib.hid hrE
        have HSE := Lib.hid (And.intro hsd0 hsN)
        clear hsd0 hrE hsE hsN
        go_wp2_with fail
        refine wp_region_sched (fun W => W.rangeAt gE ((d + 1) * 32) (cellsOf sE)) [.t 0, .t 1, .t 2, .t 3, .t 4, .t 5, .t 7, .t 8, .t 9, .t 10, .s 6, .e 11 true, .e 12 false, .t 13, .e 14 false] (by kernel_rfl) (by kernel_rfl) (by intro c a d v w h; cases d <;> exact h) ?_
        have HS := Lib.hid (And.intro (HE.out.1.trans (Below.refl _ _).drew) (And.intro (HE.out.2.below (Below.refl _ _).drew) (show wr.drew.rangeAt gE ((d + 1) * 32) (cellsOf sE) from HEI.out)))
        clear HE HEI
        generalize wr.drew = V5 at *
        iterate 10
          refine wpS_t rfl (v := ?_) (by rfl) (fun W => ?_) ?_
          rotate_left
          · go_simp
            try rfl
          try simp only [Act.put, List.setIfInBounds_toArray, List.set_cons_zero, List.set_cons_succ]
        refine wpS_load_sum (by exact HS.out.2.2) rfl (by rfl) _ (by rfl) gE ((d + 1) * 32) (by rfl) sE (fun W hW => hW) ?_
        try simp only [Act.put, List.setIfInBounds_toArray, List.set_cons_zero, List.set_cons_succ]
        refine wpS_k rfl (by rfl) (fun K hK => ?_)
        refine wp_load_sum _ (by rfl) gE ((d + 1) * 32) (by rfl) sE HS.out.2.2 ?_
        refine hK _ _ ⟨by exact HS.out.2.2, ?_⟩; clear hK K
        try simp only [Act.put, List.setIfInBounds_toArray, List.set_cons_zero, List.set_cons_succ]
        refine wpS_e rfl (by rfl) (fun K hK => ?_)
        go_simp
        have hsd := sd_any sE sE V5
        rw [HSE.out.1] at hsd
        refine hsd.mono ?_
        clear hsd
        rintro e V6 ⟨rfl, hb⟩
        have HS6 := Lib.hid (And.intro (HS.out.1.trans (hb.mono HS.out.1.size)) (HS.out.2.1.below hb))
        clear hb HS
        refine hK _ _ ?_; clear hK K
        try simp only [Act.put, List.setIfInBounds_toArray, List.set_cons_zero, List.set_cons_succ]
        iterate 1
          refine wpS_t rfl (v := ?_) (by rfl) (fun W => ?_) ?_
          rotate_left
          · go_simp
            try rfl
          try simp only [Act.put, List.setIfInBounds_toArray, List.set_cons_zero, List.set_cons_succ]
        refine wpS_e rfl (by rfl) (fun K hK => ?_)
        refine wp_store_sum _ _ (by rfl) gE (d * 32) sN (by rfl) (by rfl) (HS6.out.2.at (by have := HD.out; omega)) ?_
        have HS7 := Lib.hid (show Below V1.heap.size V1 (V6.setCells gE (d * 32) (cellsOf sN)) ∧ EY (V6.setCells gE (d * 32) (cellsOf sN)) gE d from ⟨setCells_below _ HGE.out _ _ _ _ HS6.out.1, (by rw [HSE.out.2]; exact HS6.out.2.store (by have := HD.out; omega))⟩)
        refine hK _ _ ?_; clear hK K
        try simp only [Act.put, List.setIfInBounds_toArray, List.set_cons_zero, List.set_cons_succ]
        clear HS6
        change wpS _ _ _ _ _ _ _ (V6.setCells gE (d * 32) (cellsOf sN))
        generalize V6.setCells gE (d * 32) (cellsOf sN) = V7 at *
        refine wpS_done ?_
        have hw2 : wrap64 ((d : Int) - 1) = (d : Int) - 1 := by have := HD.out; unfold wrap64; omega
        go_wp2_with fail
        try rw [hw2]
        exact ⟨⟨d, by have := HD.out; omega, rfl, HS7.out⟩, by simp only [intOf]; omega⟩
end Go.Proofs.Ytfmgoehnbaiamaa
