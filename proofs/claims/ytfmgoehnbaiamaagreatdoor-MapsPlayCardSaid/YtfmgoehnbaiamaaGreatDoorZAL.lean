/-
  Joined: Sched, Keep.
-/
import Derived.Test.YtfmgoehnbaiamaaGreatDoorZAH
import Derived.OrdersHeld
import Derived.Test.YtfmgoehnbaiamaaGreatDoorBase
-- Plain: a region that asks the tape for its order, walked once, in an order of our own: what yields in every world, or in every world that meets S, is taken first; what writes comes up alone.
open Go
namespace Alm
section
variable {P : Program} {md : Region.Mode} {S : World → Prop}

/-- A move: an operation that yields in every world; one that yields in every world that meets S; one that comes up alone (true: S is to be shown behind it); two of which either may be the first. -/
inductive Mv where
  | t (i : Nat)
  | s (i : Nat)
  | e (i : Nat) (keep : Bool)
  | f (i j : Nat) (keep : Bool)

/-- Does number j wait for number i? -/
def depB (md : Region.Mode) (ops : Array Oper) (i : Nat) : Nat → Nat → Bool
  | 0, _ => false
  | n + 1, j => ((ops[j]?).map fun o => o.after.any fun e => Region.binds md e && (e.on == i || depB md ops i n e.on)).getD false

theorem depB_listed {ops : Array Oper} {listed : Array Bool} (hc : closed md ops listed) (i : Nat) : ∀ (n j : Nat) (oj : Oper), ops[j]? = some oj →
    (∀ e ∈ oj.after, Region.binds md e = true → listed.getD e.on false = true) → depB md ops i n j = true → listed.getD i false = true := by
  intro n
  induction n with
  | zero => intro j oj _ _ h; cases h
  | succ n ih =>
    intro j oj hj hall h
    simp only [depB, hj, Option.map_some, Option.getD_some] at h
    obtain ⟨e, he, hb⟩ := Array.any_eq_true'.1 h
    simp only [Bool.and_eq_true, Bool.or_eq_true, beq_iff_eq] at hb
    have hl := hall e he hb.1
    rcases hb.2 with h1 | h1
    · rw [← h1]; exact hl
    · cases ho : ops[e.on]? with
      | none =>
        cases n with
        | zero => cases h1
        | succ m => simp [depB, ho] at h1
      | some oe => exact ih e.on oe ho (fun e' he' hb' => hc e.on oe ho hl e' he' hb') h1

/-- Behind number j S is wanted: one of those that are taken under S need not come ahead of it. -/
def keepB (md : Region.Mode) (ops : Array Oper) (ls : List Nat) (j : Nat) : Bool := ls.any fun i => !depB md ops i ops.size j

/-- One operation of such a walk: ts yield in every world, ls in every world that meets S. -/
def opK (P : Program) (md : Region.Mode) (ops : Array Oper) (Q : Exit → Act → World → Prop) (S : World → Prop) (ts ls : List Nat) (i : Nat) (K : Act → World → Prop) (a : Act) (w : World) : Prop :=
  if ts.contains i then ∃ o v, ops[i]? = some o ∧ Yields P ops o v a ∧ K (a.put o.dst v) w
  else if ls.contains i then S w ∧ ∃ o v, ops[i]? = some o ∧ YieldsIf P ops S o v a ∧ K (a.put o.dst v) w
  else wpOp P ops Q i (fun a' w' => (keepB md ops ls i = true → S w') ∧ K a' w') a w

theorem opK_mono {ops : Array Oper} {Q : Exit → Act → World → Prop} {ts ls : List Nat} {i : Nat} {K K' : Act → World → Prop} {a : Act} {w : World} (h : ∀ a w, K a w → K' a w) (hh : opK P md ops Q S ts ls i K a w) : opK P md ops Q S ts ls i K' a w := by
  unfold opK at *
  split
  · rename_i h1
    rw [if_pos h1] at hh
    obtain ⟨o, v, e, y, k⟩ := hh
    exact ⟨o, v, e, y, h _ _ k⟩
  · rename_i h1
    rw [if_neg h1] at hh
    split
    · rename_i h2
      rw [if_pos h2] at hh
      obtain ⟨s, o, v, e, y, k⟩ := hh
      exact ⟨s, o, v, e, y, h _ _ k⟩
    · rename_i h2
      rw [if_neg h2] at hh
      exact wpOp_mono (fun a' w' h' => ⟨h'.1, h _ _ h'.2⟩) hh

theorem wpOp_of_opK {ops : Array Oper} {Q : Exit → Act → World → Prop} {ts ls : List Nat} {i : Nat} {K : Act → World → Prop} {a : Act} {w : World} (hh : opK P md ops Q S ts ls i K a w) : wpOp P ops Q i K a w := by
  unfold opK at hh
  split at hh
  · obtain ⟨o, v, e, y, k⟩ := hh
    exact y.wpOp e k
  · split at hh
    · obtain ⟨s, o, v, e, y, k⟩ := hh
      exact y.wpOp e s k
    · exact wpOp_mono (fun a' w' h' => h'.2) hh

/-- Whatever order is picked from here on, and S holds where it is wanted. -/
def wpAnyK (P : Program) (md : Region.Mode) (ops : Array Oper) (Q : Exit → Act → World → Prop) (S : World → Prop) (ts ls : List Nat) : Nat → Array Bool → Act → World → Prop
  | 0, listed, a, w => Region.ready md ops listed = [] ∧ Q .normal a w
  | fuel + 1, listed, a, w =>
    (Region.ready md ops listed = [] → Q .normal a w) ∧
    ∀ i ∈ Region.ready md ops listed, opK P md ops Q S ts ls i (wpAnyK P md ops Q S ts ls fuel (listed.setIfInBounds i true)) a w

theorem wpAny_of_K {ops : Array Oper} {Q : Exit → Act → World → Prop} {ts ls : List Nat} : ∀ (fuel : Nat) (listed : Array Bool) (a : Act) (w : World), wpAnyK P md ops Q S ts ls fuel listed a w → wpAny P md ops Q fuel listed a w
  | 0, _, _, _, h => h
  | fuel + 1, _, _, _, h => ⟨h.1, fun i hi => wpOp_mono (fun a' w' h' => wpAny_of_K fuel _ a' w' h') (wpOp_of_opK (h.2 i hi))⟩

/-- One operation 'oj', apart from 'oi', whose value is already in its temporary. -/
theorem opK_put {ops : Array Oper} {Q : Exit → Act → World → Prop} {ts ls : List Nat} {j : Nat} {oi oj : Oper} {v : Value} {Y : Act → Prop} {B : World → Prop} (hj : ops[j]? = some oj) (hap : oi.apart ops oj = true)
    (hsj : ∀ cs b, oj.op ≠ .select cs b) (keepY : ∀ a, Y a → ∀ u, Y (a.put oj.dst u)) {K : Act → World → Prop} {a : Act} {w : World}
    (hy : Y a) (hB : B w) (hBk : ∀ w', (keepB md ops ls j = true → S w') → B w')
    (hput : ∀ K' : Act → World → Prop, wpOp P ops Q j K' (a.put oi.dst v) w → wpOp P ops Q j (fun a' w' => Y a' ∧ K' (a'.put oi.dst v) w') a w)
    (h : opK P md ops Q S ts ls j K (a.put oi.dst v) w) :
    opK P md ops Q S ts ls j (fun a' w' => Y a' ∧ B w' ∧ K (a'.put oi.dst v) w') a w := by
  obtain ⟨h1, h2, h3⟩ := Oper.apart_spec hap
  unfold opK at *
  split
  · rename_i ht
    rw [if_pos ht] at h
    obtain ⟨o, u, e, y, k⟩ := h
    rw [hj] at e; cases e
    refine ⟨oj, u, hj, y.of_same (execOp_put oj hsj a oi.dst v h1).symm (wanted_put oj a oi.dst v h1).symm, keepY a hy u, hB, ?_⟩
    rw [← Act.put_comm a v u h2]; exact k
  · rename_i ht
    rw [if_neg ht] at h
    split
    · rename_i hl
      rw [if_pos hl] at h
      obtain ⟨s, o, u, e, y, k⟩ := h
      rw [hj] at e; cases e
      refine ⟨s, oj, u, hj, y.of_same (execOp_put oj hsj a oi.dst v h1).symm (wanted_put oj a oi.dst v h1).symm, keepY a hy u, hB, ?_⟩
      rw [← Act.put_comm a v u h2]; exact k
    · rename_i hl
      rw [if_neg hl] at h
      exact wpOp_mono (fun a' w' h' => ⟨h'.2.1, h'.1, hBk _ h'.2.1, h'.2.2⟩) (hput _ h)

theorem wpAnyK_first {ops : Array Oper} {Q : Exit → Act → World → Prop} {ts ls : List Nat} {i : Nat} {oi : Oper} {v : Value} {Y : Act → Prop} {B : World → Prop} (hi : ops[i]? = some oi)
    (hsel : ∀ (j : Nat) (o : Oper) cs b, ops[j]? = some o → o.op ≠ .select cs b)
    (hown : ∀ (K : Act → World → Prop) a w, Y a → B w → K (a.put oi.dst v) w → opK P md ops Q S ts ls i K a w)
    (keepY : ∀ (oj : Oper) a, oi.apart ops oj = true → Y a → ∀ u, Y (a.put oj.dst u))
    (hput : ∀ j oj, ops[j]? = some oj → oi.apart ops oj = true → ∀ a w, Y a → ∀ K' : Act → World → Prop, wpOp P ops Q j K' (a.put oi.dst v) w → wpOp P ops Q j (fun a' w' => Y a' ∧ K' (a'.put oi.dst v) w') a w)
    (hBk : ∀ listed j, closed md ops listed → j ∈ Region.ready md ops listed → listed.getD i false = false → ∀ w', (keepB md ops ls j = true → S w') → B w') :
    ∀ (fuel : Nat) (listed : Array Bool) (a : Act) (w : World), closed md ops listed →
      (∀ j oj, ops[j]? = some oj → j ≠ i → listed.getD j true = false → (∀ e ∈ oj.after, Region.binds md e = true → e.on ≠ i) → oi.apart ops oj = true) →
      i ∈ Region.ready md ops listed → Y a → B w →
      wpAnyK P md ops Q S ts ls fuel (listed.setIfInBounds i true) (a.put oi.dst v) w → wpAnyK P md ops Q S ts ls (fuel + 1) listed a w := by
  intro fuel
  induction fuel with
  | zero =>
    intro listed a w _ _ hr hy hB H
    refine ⟨fun h => (by rw [h] at hr; cases hr), fun j hj => ?_⟩
    by_cases hji : j = i
    · subst hji; exact hown _ a w hy hB H
    · have := ready_mono hj hji
      rw [H.1] at this
      cases this
  | succ fuel ih =>
    intro listed a w hcl hfree hr hy hB H
    refine ⟨fun h => (by rw [h] at hr; cases hr), fun j hj => ?_⟩
    by_cases hji : j = i
    · subst hji; exact hown _ a w hy hB H
    · have h1 := H.2 j (ready_mono hj hji)
      obtain ⟨hjun, oj, hoj, hall⟩ := mem_ready.1 hj
      have hil0 : listed.getD i false = false := by
        have h0 := (mem_ready.1 hr).1
        rcases Nat.lt_or_ge i listed.size with h' | h'
        · simp [h'] at h0 ⊢; exact h0
        · simp [Array.getElem?_eq_none h'] at h0
      have hnot : ∀ e ∈ oj.after, Region.binds md e = true → e.on ≠ i := fun e he hb heq => by
        have h1 := hall e he hb
        rw [heq, hil0] at h1; cases h1
      have hap := hfree j oj hoj hji hjun hnot
      have h2 := opK_put hoj hap (fun cs b => hsel j oj cs b hoj) (fun a hy => keepY oj a hap hy) hy hB (hBk listed j hcl hj hil0) (hput j oj hoj hap a w hy) h1
      have hfree' : ∀ k ok, ops[k]? = some ok → k ≠ i → (listed.setIfInBounds j true).getD k true = false →
          (∀ e ∈ ok.after, Region.binds md e = true → e.on ≠ i) → oi.apart ops ok = true := fun k ok hk hki hun hno => by
        refine hfree k ok hk hki ?_ hno
        by_cases hjk : j = k
        · subst hjk; exact hjun
        · rw [getD_set_ne true hjk] at hun; exact hun
      refine opK_mono (fun a' w' h3 => ih (listed.setIfInBounds j true) a' w' (closed_set hcl hj) hfree' (ready_mono hr (Ne.symm hji)) h3.1 h3.2.1 ?_) h2
      rw [Array.setIfInBounds_comm _ _ hji]
      exact h3.2.2

/-- How many operations. -/
def stepsOf : List Mv → Nat
  | [] => 0
  | .f _ _ _ :: r => stepsOf r + 2
  | _ :: r => stepsOf r + 1

/-- The moves of a walk. -/
def wpS (P : Program) (md : Region.Mode) (ops : Array Oper) (Q : Exit → Act → World → Prop) (S : World → Prop) : List Mv → Act → World → Prop
  | [], a, w => Q .normal a w
  | .t i :: r, a, w => ∃ o v, ops[i]? = some o ∧ Yields P ops o v a ∧ wpS P md ops Q S r (a.put o.dst v) w
  | .s i :: r, a, w => S w ∧ ∃ o v, ops[i]? = some o ∧ YieldsIf P ops S o v a ∧ wpS P md ops Q S r (a.put o.dst v) w
  | .e i kp :: r, a, w => wpOp P ops Q i (fun a' w' => (kp = true → S w') ∧ wpS P md ops Q S r a' w') a w
  | .f i j kp :: r, a, w =>
    wpOp P ops Q i (fun a' w' => (kp = true → S w') ∧ wpOp P ops Q j (fun a' w' => (kp = true → S w') ∧ wpS P md ops Q S r a' w') a' w') a w ∧
    wpOp P ops Q j (fun a' w' => (kp = true → S w') ∧ wpOp P ops Q i (fun a' w' => (kp = true → S w') ∧ wpS P md ops Q S r a' w') a' w') a w

def tsOf (ms : List Mv) : List Nat := ms.filterMap fun | .t i => some i | _ => none
def lsOf (ms : List Mv) : List Nat := ms.filterMap fun | .s i => some i | _ => none

/-- Is that an order that serves every order? -/
def schedB (md : Region.Mode) (ops : Array Oper) (ts ls : List Nat) : List Mv → Array Bool → Bool
  | [], listed => (Region.ready md ops listed).isEmpty
  | .t i :: r, listed => ts.contains i && (Region.ready md ops listed).contains i && Region.free md ops listed i && schedB md ops ts ls r (listed.setIfInBounds i true)
  | .s i :: r, listed => !ts.contains i && ls.contains i && (Region.ready md ops listed).contains i && Region.free md ops listed i && schedB md ops ts ls r (listed.setIfInBounds i true)
  | .e i kp :: r, listed => !ts.contains i && !ls.contains i && (Region.ready md ops listed == [i]) && (kp || !keepB md ops ls i) && schedB md ops ts ls r (listed.setIfInBounds i true)
  | .f i j kp :: r, listed => (!ts.contains i && !ls.contains i && !ts.contains j && !ls.contains j) && (Region.ready md ops listed == [i, j] && Region.ready md ops (listed.setIfInBounds i true) == [j] && Region.ready md ops (listed.setIfInBounds j true) == [i]) && (kp || (!keepB md ops ls i && !keepB md ops ls j)) && schedB md ops ts ls r ((listed.setIfInBounds i true).setIfInBounds j true)

theorem wpAnyK_of_S {ops : Array Oper} {Q : Exit → Act → World → Prop} {ts ls : List Nat} (hs : Region.noSelect ops = true) (hQ : ∀ c (a : Act) (d : Option Tmp) (v : Value) w, Q (.panic c) (a.put d v) w → Q (.panic c) a w) :
    ∀ (ms : List Mv) (listed : Array Bool) (a : Act) (w : World), closed md ops listed → schedB md ops ts ls ms listed = true → wpS P md ops Q S ms a w → wpAnyK P md ops Q S ts ls (stepsOf ms) listed a w
  | [], listed, a, w, _, hB, h => ⟨by simpa [schedB] using hB, h⟩
  | .t i :: r, listed, a, w, hcl, hB, h => by
    simp only [schedB, Bool.and_eq_true] at hB
    obtain ⟨⟨⟨hts, hr⟩, hf⟩, hB'⟩ := hB
    obtain ⟨o, v, ho, hy, hn⟩ := h
    have hr' : i ∈ Region.ready md ops listed := by simpa using hr
    refine wpAnyK_first (Y := Yields P ops o v) (B := fun _ => True) ho (Region.noSelect_spec hs) ?_ ?_ ?_ (fun _ _ _ _ _ _ _ => trivial) (stepsOf r) listed a w hcl (Region.free_spec ho hf) hr' hy trivial (wpAnyK_of_S hs hQ r _ _ _ (closed_set hcl hr') hB' hn)
    · intro K a w hy _ hK
      unfold opK
      rw [if_pos hts]
      exact ⟨o, v, ho, hy, hK⟩
    · intro oj a hap hy u
      obtain ⟨h1, h2, h3⟩ := Oper.apart_spec hap
      exact hy.of_same (execOp_put o (fun cs b => Region.noSelect_spec hs i o cs b ho) a oj.dst u h3) (wanted_put o a oj.dst u h3)
    · intro j oj hj hap a w hy K' hw
      exact wpOp_put hj hap (fun cs b => Region.noSelect_spec hs i o cs b ho) (fun cs b => Region.noSelect_spec hs j oj cs b hj) (fun c a w => hQ c a _ _ w) hy hw
  | .s i :: r, listed, a, w, hcl, hB, h => by
    simp only [schedB, Bool.and_eq_true, Bool.not_eq_true'] at hB
    obtain ⟨⟨⟨⟨hts, hls⟩, hr⟩, hf⟩, hB'⟩ := hB
    obtain ⟨hS, o, v, ho, hy, hn⟩ := h
    have hr' : i ∈ Region.ready md ops listed := by simpa using hr
    refine wpAnyK_first (Y := YieldsIf P ops S o v) (B := S) ho (Region.noSelect_spec hs) ?_ ?_ ?_ ?_ (stepsOf r) listed a w hcl (Region.free_spec ho hf) hr' hy hS (wpAnyK_of_S hs hQ r _ _ _ (closed_set hcl hr') hB' hn)
    · intro K a w hy hS hK
      unfold opK
      rw [if_neg (by rw [hts]; simp), if_pos hls]
      exact ⟨hS, o, v, ho, hy, hK⟩
    · intro oj a hap hy u
      obtain ⟨h1, h2, h3⟩ := Oper.apart_spec hap
      exact hy.of_same (execOp_put o (fun cs b => Region.noSelect_spec hs i o cs b ho) a oj.dst u h3) (wanted_put o a oj.dst u h3)
    · intro j oj hj hap a w hy K' hw
      exact wpOp_putIf hj hap (fun cs b => Region.noSelect_spec hs i o cs b ho) (fun cs b => Region.noSelect_spec hs j oj cs b hj) (fun c a w => hQ c a _ _ w) hy hw
    · intro listed j hcl hj hil0 w' hk
      refine hk ?_
      obtain ⟨hjun, oj, hoj, hall⟩ := mem_ready.1 hj
      unfold keepB
      refine List.any_eq_true.2 ⟨i, by simpa using hls, ?_⟩
      cases hd : depB md ops i ops.size j with
      | false => rfl
      | true => rw [depB_listed hcl i ops.size j oj hoj hall hd] at hil0; cases hil0
  | .e i kp :: r, listed, a, w, hcl, hB, h => by
    simp only [schedB, Bool.and_eq_true, Bool.not_eq_true', Bool.or_eq_true, beq_iff_eq] at hB
    obtain ⟨⟨⟨⟨hts, hls⟩, hr⟩, hk⟩, hB'⟩ := hB
    have hr' : i ∈ Region.ready md ops listed := by rw [hr]; simp
    refine ⟨fun h0 => (by rw [h0] at hr; cases hr), fun j hj => ?_⟩
    rw [hr] at hj
    obtain rfl : j = i := by simpa using hj
    unfold opK
    rw [if_neg (by rw [hts]; simp), if_neg (by rw [hls]; simp)]
    refine wpOp_mono (fun a' w' h' => ⟨fun hkb => ?_, wpAnyK_of_S hs hQ r _ _ _ (closed_set hcl hr') hB' h'.2⟩) h
    rcases hk with hk | hk
    · exact h'.1 hk
    · rw [hk] at hkb; cases hkb

  | .f i j kp :: r, listed, a, w, hcl, hB, h => by
    simp only [schedB, Bool.and_eq_true, Bool.not_eq_true', Bool.or_eq_true, beq_iff_eq] at hB
    obtain ⟨⟨⟨⟨⟨⟨ht1, hl1⟩, ht2⟩, hl2⟩, ⟨⟨hr, hri⟩, hrj⟩⟩, hk⟩, hB'⟩ := hB
    have hi : i ∈ Region.ready md ops listed := by rw [hr]; simp
    have hj : j ∈ Region.ready md ops listed := by rw [hr]; simp
    have hij : j ∈ Region.ready md ops (listed.setIfInBounds i true) := by rw [hri]; simp
    have hji : i ∈ Region.ready md ops (listed.setIfInBounds j true) := by rw [hrj]; simp
    have hne : i ≠ j := by
      intro e
      subst e
      have := (mem_ready.1 hij).1
      obtain ⟨o, ho, _⟩ := (mem_ready.1 hi).2
      have hib : i < listed.size := by
        rcases Nat.lt_or_ge i listed.size with h' | h'
        · exact h'
        · have h0 := (mem_ready.1 hi).1
          simp [Array.getElem?_eq_none h'] at h0
      simp [hib] at this
    have e2 : (listed.setIfInBounds j true).setIfInBounds i true = (listed.setIfInBounds i true).setIfInBounds j true := Array.setIfInBounds_comm _ _ (Ne.symm hne)
    have hki : keepB md ops ls i = true → kp = true := fun h1 => by rcases hk with hk | hk; exact hk; rw [hk.1] at h1; cases h1
    have hkj : keepB md ops ls j = true → kp = true := fun h1 => by rcases hk with hk | hk; exact hk; rw [hk.2] at h1; cases h1
    have key : ∀ a w, wpS P md ops Q S r a w → wpAnyK P md ops Q S ts ls (stepsOf r) ((listed.setIfInBounds i true).setIfInBounds j true) a w := fun a w hh => wpAnyK_of_S hs hQ r _ _ _ (closed_set (closed_set hcl hi) hij) hB' hh
    have inner : ∀ (x : Nat) (lx : Array Bool) a w, Region.ready md ops lx = [x] → (lx.setIfInBounds x true) = ((listed.setIfInBounds i true).setIfInBounds j true) → ts.contains x = false → ls.contains x = false → (keepB md ops ls x = true → kp = true) →
        wpOp P ops Q x (fun a' w' => (kp = true → S w') ∧ wpS P md ops Q S r a' w') a w → wpAnyK P md ops Q S ts ls (stepsOf r + 1) lx a w := by
      intro x lx a w hrx hlx htx hlsx hkx hh
      refine ⟨fun h0 => (by rw [h0] at hrx; cases hrx), fun y hy => ?_⟩
      rw [hrx] at hy
      obtain rfl : y = x := by simpa using hy
      unfold opK
      rw [if_neg (by rw [htx]; simp), if_neg (by rw [hlsx]; simp)]
      exact wpOp_mono (fun a' w' h' => ⟨fun hkb => h'.1 (hkx hkb), by rw [hlx]; exact key _ _ h'.2⟩) hh
    refine ⟨fun h0 => (by rw [h0] at hr; cases hr), fun y hy => ?_⟩
    rw [hr] at hy
    rcases List.mem_cons.1 hy with rfl | hy
    · unfold opK
      rw [if_neg (by rw [ht1]; simp), if_neg (by rw [hl1]; simp)]
      exact wpOp_mono (fun a' w' h' => ⟨fun hkb => h'.1 (hki hkb), inner j _ _ _ hri rfl ht2 hl2 hkj h'.2⟩) h.1
    · obtain rfl : y = j := by simpa using hy
      unfold opK
      rw [if_neg (by rw [ht2]; simp), if_neg (by rw [hl2]; simp)]
      exact wpOp_mono (fun a' w' h' => ⟨fun hkb => h'.1 (hkj hkb), inner i _ _ _ hrj e2 ht1 hl1 hki h'.2⟩) h.2

theorem closed_start (ops : Array Oper) (n : Nat) : closed md ops (Array.replicate n false) := by
  intro i oi _ h; rw [getD_replicate_false'] at h; cases h

/-- Enough fuel is enough. -/
theorem wpAny_more {ops : Array Oper} {Q : Exit → Act → World → Prop} : ∀ (n m : Nat) (listed : Array Bool) (a : Act) (w : World), n ≤ m → wpAny P md ops Q n listed a w → wpAny P md ops Q m listed a w
  | 0, 0, _, _, _, _, h => h
  | 0, m + 1, _, _, _, _, h => ⟨fun _ => h.2, by rw [h.1]; simp⟩
  | n + 1, 0, _, _, _, hnm, _ => by omega
  | n + 1, m + 1, listed, a, w, hnm, h => ⟨h.1, fun i hi => wpOp_mono (fun a' w' h' => wpAny_more n m _ a' w' (by omega) h') (h.2 i hi)⟩

/-- **The beginning.** -/
theorem wp_region_sched {id : Nat} {Q : Exit → Act → World → Prop} {a : Act} {w : World} {l : List Oper} (S : World → Prop) (ms : List Mv) (hm : P.follows .mixedOrders = true)
    (hB : (Region.noSelect l.toArray && decide (stepsOf ms ≤ l.length) && schedB .any l.toArray (tsOf ms) (lsOf ms) ms (Array.replicate l.toArray.size false)) = true)
    (hQ : ∀ c (a : Act) (d : Option Tmp) (v : Value) w, Q (.panic c) (a.put d v) w → Q (.panic c) a w)
    (h : wpS P .any l.toArray Q S ms a w.drew) : (Code.region id l.toArray true).wp P Q a w := by
  simp only [Bool.and_eq_true, decide_eq_true_eq] at hB
  refine wp_region_any hm (wpAny_more (stepsOf ms) _ _ _ _ (by simpa using hB.1.2) (wpAny_of_K _ _ _ _ (wpAnyK_of_S hB.1.1 hQ ms _ _ _ (closed_start _ _) hB.2 h)))

/-! ### The moves -/
section
variable {l : List Oper} {Q : Exit → Act → World → Prop} {r : List Mv} {a : Act} {w : World} {o : Oper} {i : Nat}
theorem wpS_t {v : Value} (ho : l[i]? = some o) (hw : Region.wanted o (yielded l.toArray a.tmps) = true) (hv : ∀ W, (execOp a.eval o).run P W = .ok (.value v) W) (h : wpS P md l.toArray Q S r (a.put o.dst v) w) : wpS P md l.toArray Q S (.t i :: r) a w :=
  ⟨o, v, by simpa using ho, .inl ⟨hw, hv⟩, h⟩
theorem wpS_t_skip (ho : l[i]? = some o) (hw : Region.wanted o (yielded l.toArray a.tmps) = false) (h : wpS P md l.toArray Q S r (a.put o.dst undef) w) : wpS P md l.toArray Q S (.t i :: r) a w :=
  ⟨o, undef, by simpa using ho, .inr ⟨hw, rfl⟩, h⟩
theorem wpS_s {v : Value} (hS : S w) (ho : l[i]? = some o) (hw : Region.wanted o (yielded l.toArray a.tmps) = true) (hv : ∀ W, S W → (execOp a.eval o).run P W = .ok (.value v) W) (h : wpS P md l.toArray Q S r (a.put o.dst v) w) : wpS P md l.toArray Q S (.s i :: r) a w :=
  ⟨hS, o, v, by simpa using ho, .inl ⟨hw, hv⟩, h⟩
theorem wpS_s_skip (hS : S w) (ho : l[i]? = some o) (hw : Region.wanted o (yielded l.toArray a.tmps) = false) (h : wpS P md l.toArray Q S r (a.put o.dst undef) w) : wpS P md l.toArray Q S (.s i :: r) a w :=
  ⟨hS, o, undef, by simpa using ho, .inr ⟨hw, rfl⟩, h⟩
theorem wpS_e (ho : l[i]? = some o) (hw : Region.wanted o (yielded l.toArray a.tmps) = true) (h : ∀ K : Act → World → Prop, (∀ a' w', wpS P md l.toArray Q S r a' w' → K a' w') → o.wp P a w K Q) : wpS P md l.toArray Q S (.e i false :: r) a w := by
  have ho : l.toArray[i]? = some o := by simpa using ho
  change wpOp P l.toArray Q i _ a w
  unfold wpOp
  simp only [ho, hw, if_true]
  exact .inl (h _ fun a' w' hh => ⟨(fun h => by cases h), hh⟩)
theorem wpS_e_skip (ho : l[i]? = some o) (hw : Region.wanted o (yielded l.toArray a.tmps) = false) (h : wpS P md l.toArray Q S r (a.put o.dst undef) w) : wpS P md l.toArray Q S (.e i false :: r) a w := by
  have ho : l.toArray[i]? = some o := by simpa using ho
  change wpOp P l.toArray Q i _ a w
  unfold wpOp
  simp only [ho, hw, Bool.false_eq_true, if_false]
  exact ⟨fun h => h.elim, h⟩
theorem wpS_k (ho : l[i]? = some o) (hw : Region.wanted o (yielded l.toArray a.tmps) = true) (h : ∀ K : Act → World → Prop, (∀ a' w', S w' ∧ wpS P md l.toArray Q S r a' w' → K a' w') → o.wp P a w K Q) : wpS P md l.toArray Q S (.e i true :: r) a w := by
  have ho : l.toArray[i]? = some o := by simpa using ho
  change wpOp P l.toArray Q i _ a w
  unfold wpOp
  simp only [ho, hw, if_true]
  exact .inl (h _ fun a' w' hh => ⟨fun _ => hh.1, hh.2⟩)
theorem wpS_k_skip (hS : S w) (ho : l[i]? = some o) (hw : Region.wanted o (yielded l.toArray a.tmps) = false) (h : wpS P md l.toArray Q S r (a.put o.dst undef) w) : wpS P md l.toArray Q S (.e i true :: r) a w := by
  have ho : l.toArray[i]? = some o := by simpa using ho
  change wpOp P l.toArray Q i _ a w
  unfold wpOp
  simp only [ho, hw, Bool.false_eq_true, if_false]
  exact ⟨fun _ => hS, h⟩
/-- A load of many cells. -/
theorem wpS_load_mid (hS : S w) (ho : l[i]? = some o) (hg : Region.wanted o (yielded l.toArray a.tmps) = true) (ty : TypeId) (x : Operand) (hop : o.op = .load ty x) (b off : Nat) (hx : a.eval x = .pointer (some ⟨b, off, none⟩)) (cs : List Value) (d : TypeDesc)
    (hc : ∀ W, S W → W.rangeAt b off cs) (hu : P.underlying ty = some d) (hd : d.isRow = true) (hi : (P.info? ty).map (·.size) = some cs.length) (h : wpS P md l.toArray Q S r (a.put o.dst (.agg cs.toArray)) w) : wpS P md l.toArray Q S (.s i :: r) a w :=
  wpS_s hS ho hg (fun W hW => by
    unfold execOp
    simp only [hop, hx, Instr.loadAt, Instr.sureAddr, Sem.run_bind, Sem.run_pure, Result.andThen_ok, run_loadVar_mid W b off ty cs d (hc W hW) hu hd hi]) h
theorem wpS_done (h : Q .normal a w) : wpS P md l.toArray Q S [] a w := h
end
end
end Alm
-- Plain: what a call has written: some blocks, and none else.
open Go Go.RowKit
namespace Alm
/-- Of the blocks that were there none but those of X have turned. -/
structure Keeps (X : Nat → Prop) (w w' : World) : Prop where
  os : w'.os = w.os
  tape : w'.tape = w.tape
  output : w'.output = w.output
  size : w.heap.size ≤ w'.heap.size
  block : ∀ k, k < w.heap.size → ¬ X k → w'.heap[k]? = w.heap[k]?
theorem Keeps.refl (X : Nat → Prop) (w : World) : Keeps X w w := ⟨rfl, rfl, rfl, Nat.le_refl _, fun _ _ _ => rfl⟩
theorem Keeps.trans {X : Nat → Prop} {a b c : World} (h : Keeps X a b) (k : Keeps X b c) : Keeps X a c :=
  ⟨k.os.trans h.os, k.tape.trans h.tape, k.output.trans h.output, Nat.le_trans h.size k.size, fun i hi hx => (k.block i (Nat.lt_of_lt_of_le hi h.size) hx).trans (h.block i hi hx)⟩
/-- What X allows more is new, or is allowed. -/
theorem Keeps.trans' {X Y : Nat → Prop} {a b c : World} (h : Keeps X a b) (k : Keeps Y b c) (hy : ∀ i, Y i → X i ∨ a.heap.size ≤ i) : Keeps X a c :=
  ⟨k.os.trans h.os, k.tape.trans h.tape, k.output.trans h.output, Nat.le_trans h.size k.size, fun i hi hx => (k.block i (Nat.lt_of_lt_of_le hi h.size) (fun hyi => by rcases hy i hyi with h1 | h1; exact hx h1; omega)).trans (h.block i hi hx)⟩
theorem Keeps.mono {X Y : Nat → Prop} {w w' : World} (h : Keeps X w w') (hx : ∀ k, X k → Y k) : Keeps Y w w' := ⟨h.os, h.tape, h.output, h.size, fun k hk hy => h.block k hk fun e => hy (hx k e)⟩
theorem Keeps.below {X : Nat → Prop} {B : Nat} {w w' : World} (h : Keeps X w w') (hB : B ≤ w.heap.size) (hx : ∀ k, X k → B ≤ k) : Below B w w' :=
  ⟨h.os, h.tape, h.output, h.size, fun k hk => h.block k (Nat.lt_of_lt_of_le hk hB) fun e => by have := hx k e; omega⟩
theorem Keeps.of_below {X : Nat → Prop} {w w' : World} (h : Below w.heap.size w w') : Keeps X w w' := ⟨h.os, h.tape, h.output, h.size, fun k hk _ => h.block k hk⟩
theorem Keeps.of_grown {X : Nat → Prop} {w w' : World} {row : Option Nat} (h : w.grownBy w' row) (hr : ∀ k, row = some k → X k) : Keeps X w w' :=
  ⟨h.os, h.tape, h.output, h.size, fun k hk hx => h.block k hk fun e => hx (hr k e.symm)⟩
theorem Keeps.alloc {X : Nat → Prop} {a w : World} (h : Keeps X a w) (o : Obj) : Keeps X a (w.alloc o) := h.trans (.of_below ((Below.refl _ _).alloc (Nat.le_refl _) o))
theorem Keeps.drew {X : Nat → Prop} {a w : World} (h : Keeps X a w) : Keeps X a w.drew := h.trans ⟨rfl, rfl, rfl, Nat.le_refl _, fun _ _ _ => rfl⟩
theorem Keeps.setCell {X : Nat → Prop} {a w : World} (h : Keeps X a w) {p : Addr} (hp : X p.block ∨ a.heap.size ≤ p.block) (u : Value) : Keeps X a (w.setCell p u) :=
  ⟨h.os, h.tape, h.output, by simpa [World.setCell] using h.size, fun k hk hx => (Below.heap_setCell w p u k (fun e => by subst e; rcases hp with h1 | h1; exact hx h1; omega)).trans (h.block k hk hx)⟩
theorem Keeps.cell {X : Nat → Prop} {w w' : World} (h : Keeps X w w') {a : Addr} {v : Value} (hc : w.cell? a = some v) (hx : ¬ X a.block) : w'.cell? a = some v :=
  (World.cell?_of_block (w := w) (h.block a.block (World.block_lt_of_cell? w a hc) hx)).trans hc
theorem Keeps.range {X : Nat → Prop} {w w' : World} (h : Keeps X w w') {b o : Nat} {cs : List Value} (hr : w.rangeAt b o cs) (hx : ¬ X b) : w'.rangeAt b o cs :=
  fun j v hj => h.cell (a := ⟨b, o + j, none⟩) (hr j v hj) hx
theorem Keeps.heap {X : Nat → Prop} {w w' : World} (h : Keeps X w w') {b : Nat} {o : Obj} (hb : w.heap[b]? = some o) (hx : ¬ X b) : w'.heap[b]? = some o :=
  (h.block b (Array.getElem?_eq_some_iff.1 hb).1 hx).trans hb
theorem Keeps.owns {X : Nat → Prop} {w w' : World} (h : Keeps X w w') {base : Nat} {e : TypeId} {size : Nat} {v : Value} {n : Nat} {xs : List Value} (ho : w.ownsRow base e size v n xs) (hx : ∀ k, v.ownBlock = some k → ¬ X k) : w'.ownsRow base e size v n xs := by
  refine ⟨ho.1, ?_⟩
  rcases ho.2 with h0 | ⟨g, cap, cur, hv, hb, hg, r⟩
  · exact .inl h0
  · exact .inr ⟨g, cap, cur, hv, hb, h.heap hg (hx g (by rw [hv]; rfl)), r⟩
theorem Keeps.there {X : Nat → Prop} {w w' : World} (h : Keeps X w w') {b o n : Nat} (ht : w.there b o n) (hn : 0 < n) (hx : ¬ X b) : w'.there b o n :=
  there_block (h.block b (there_lt ht hn) hx) ht
theorem Keeps.sums {X : Nat → Prop} {w w' : World} (h : Keeps X w w') {v : Value} {l : List Sum} (hs : SumsAt w v l) (hx : ∀ k, v.ownBlock = some k → ¬ X k) : SumsAt w' v l := by
  obtain ⟨a, cap, rfl, h1, h2, h3⟩ := hs
  refine ⟨a, cap, rfl, h1, h2, ?_⟩
  rcases h3 with h0 | ⟨b, o, rfl, hr⟩
  · exact .inl h0
  · exact .inr ⟨b, o, rfl, h.range hr (hx b rfl)⟩
/-- An owned row of sums reads as sums. -/
theorem sums_own {w : World} {base : Nat} {e : TypeId} {v : Value} {l : List Sum} (h : w.ownsRow base e 32 v l.length (cellsAll l)) : SumsAt w v l := by
  rcases h.2 with ⟨rfl, h0⟩ | ⟨g, cap, cur, rfl, hb, hg, hnc, hcm, hsz, htk⟩
  · have : l = [] := List.length_eq_zero_iff.1 h0
    subst this
    exact ⟨none, 0, rfl, Nat.le_refl _, by unfold maxLen; omega, .inl rfl⟩
  · refine ⟨_, cap, rfl, hnc, hcm, .inr ⟨g, 0, rfl, fun j u hj => ?_⟩⟩
    rw [cell_of_row w g _ cur e (0, 0) hg, Nat.zero_add]
    rw [← htk, List.getElem?_take] at hj
    split at hj
    · simpa using hj
    · cases hj
end Alm
