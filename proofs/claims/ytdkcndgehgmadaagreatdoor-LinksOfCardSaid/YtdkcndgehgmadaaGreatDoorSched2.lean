/-
  Plain: a region that asks the tape for its order, where a panic's meaning looks at one temporary (a function with deferred calls).
-/
import Derived.Test.YtdkcndgehgmadaaGreatDoorSched
import Derived.Defers
open Go
namespace Alm
section
variable {P : Program} {md : Region.Mode} {S : World → Prop}
theorem wpAnyK_of_S2 {ops : Array Oper} {Q : Exit → Act → World → Prop} {ts ls : List Nat} (hs : Region.noSelect ops = true) (hQ : ∀ (i : Nat) (o : Oper), ops[i]? = some o → ∀ c (a : Act) (v : Value) w, Q (.panic c) (a.put o.dst v) w → Q (.panic c) a w) :
    ∀ (ms : List Mv) (listed : Array Bool) (a : Act) (w : World), closed md ops listed → schedB md ops ts ls ms listed = true → wpS P md ops Q S ms a w → wpAnyK P md ops Q S ts ls (stepsOf ms) listed a w
  | [], listed, a, w, _, hB, h => ⟨by simpa [schedB] using hB, h⟩
  | .t i :: r, listed, a, w, hcl, hB, h => by
    simp only [schedB, Bool.and_eq_true] at hB
    obtain ⟨⟨⟨hts, hr⟩, hf⟩, hB'⟩ := hB
    obtain ⟨o, v, ho, hy, hn⟩ := h
    have hr' : i ∈ Region.ready md ops listed := by simpa using hr
    refine wpAnyK_first (Y := Yields P ops o v) (B := fun _ => True) ho (Region.noSelect_spec hs) ?_ ?_ ?_ (fun _ _ _ _ _ _ _ => trivial) (stepsOf r) listed a w hcl (Region.free_spec ho hf) hr' hy trivial (wpAnyK_of_S2 hs hQ r _ _ _ (closed_set hcl hr') hB' hn)
    · intro K a w hy _ hK
      unfold opK
      rw [if_pos hts]
      exact ⟨o, v, ho, hy, hK⟩
    · intro oj a hap hy u
      obtain ⟨h1, h2, h3⟩ := Oper.apart_spec hap
      exact hy.of_same (execOp_put o (fun cs b => Region.noSelect_spec hs i o cs b ho) a oj.dst u h3) (wanted_put o a oj.dst u h3)
    · intro j oj hj hap a w hy K' hw
      exact wpOp_put hj hap (fun cs b => Region.noSelect_spec hs i o cs b ho) (fun cs b => Region.noSelect_spec hs j oj cs b hj) (fun c a w => hQ i o ho c a _ w) hy hw
  | .s i :: r, listed, a, w, hcl, hB, h => by
    simp only [schedB, Bool.and_eq_true, Bool.not_eq_true'] at hB
    obtain ⟨⟨⟨⟨hts, hls⟩, hr⟩, hf⟩, hB'⟩ := hB
    obtain ⟨hS, o, v, ho, hy, hn⟩ := h
    have hr' : i ∈ Region.ready md ops listed := by simpa using hr
    refine wpAnyK_first (Y := YieldsIf P ops S o v) (B := S) ho (Region.noSelect_spec hs) ?_ ?_ ?_ ?_ (stepsOf r) listed a w hcl (Region.free_spec ho hf) hr' hy hS (wpAnyK_of_S2 hs hQ r _ _ _ (closed_set hcl hr') hB' hn)
    · intro K a w hy hS hK
      unfold opK
      rw [if_neg (by rw [hts]; simp), if_pos hls]
      exact ⟨hS, o, v, ho, hy, hK⟩
    · intro oj a hap hy u
      obtain ⟨h1, h2, h3⟩ := Oper.apart_spec hap
      exact hy.of_same (execOp_put o (fun cs b => Region.noSelect_spec hs i o cs b ho) a oj.dst u h3) (wanted_put o a oj.dst u h3)
    · intro j oj hj hap a w hy K' hw
      exact wpOp_putIf hj hap (fun cs b => Region.noSelect_spec hs i o cs b ho) (fun cs b => Region.noSelect_spec hs j oj cs b hj) (fun c a w => hQ i o ho c a _ w) hy hw
    · intro listed j hcl hj hil0 w' hk
      refine hk ?_
      obtain ⟨hjun, oj, hoj, hall⟩ := mem_ready.1 hj
      unfold keepB
      refine List.any_eq_true.2 ⟨i, by simpa using hls, ?_⟩
      cases hd : depB md ops i ops.size j with
      | false => rfl
      | true => rw [depB_listed hcl i ops.size j oj hoj hall hd] at hil0; cases hil0
  | .e i kp :: r, listed, a, w, hcl, hB, h => by
    simp only [schedB, Bool.and_eq_true, Bool.not_eq_true', Bool.or_eq_true, beq_iff_eq] at hB
    obtain ⟨⟨⟨⟨hts, hls⟩, hr⟩, hk⟩, hB'⟩ := hB
    have hr' : i ∈ Region.ready md ops listed := by rw [hr]; simp
    refine ⟨fun h0 => (by rw [h0] at hr; cases hr), fun j hj => ?_⟩
    rw [hr] at hj
    obtain rfl : j = i := by simpa using hj
    unfold opK
    rw [if_neg (by rw [hts]; simp), if_neg (by rw [hls]; simp)]
    refine wpOp_mono (fun a' w' h' => ⟨fun hkb => ?_, wpAnyK_of_S2 hs hQ r _ _ _ (closed_set hcl hr') hB' h'.2⟩) h
    rcases hk with hk | hk
    · exact h'.1 hk
    · rw [hk] at hkb; cases hkb
  | .f i j kp :: r, listed, a, w, hcl, hB, h => by
    simp only [schedB, Bool.and_eq_true, Bool.not_eq_true', Bool.or_eq_true, beq_iff_eq] at hB
    obtain ⟨⟨⟨⟨⟨⟨ht1, hl1⟩, ht2⟩, hl2⟩, ⟨⟨hr, hri⟩, hrj⟩⟩, hk⟩, hB'⟩ := hB
    have hi : i ∈ Region.ready md ops listed := by rw [hr]; simp
    have hj : j ∈ Region.ready md ops listed := by rw [hr]; simp
    have hij : j ∈ Region.ready md ops (listed.setIfInBounds i true) := by rw [hri]; simp
    have hji : i ∈ Region.ready md ops (listed.setIfInBounds j true) := by rw [hrj]; simp
    have hne : i ≠ j := by
      intro e
      subst e
      have := (mem_ready.1 hij).1
      obtain ⟨o, ho, _⟩ := (mem_ready.1 hi).2
      have hib : i < listed.size := by
        rcases Nat.lt_or_ge i listed.size with h' | h'
        · exact h'
        · have h0 := (mem_ready.1 hi).1
          simp [Array.getElem?_eq_none h'] at h0
      simp [hib] at this
    have e2 : (listed.setIfInBounds j true).setIfInBounds i true = (listed.setIfInBounds i true).setIfInBounds j true := Array.setIfInBounds_comm _ _ (Ne.symm hne)
    have hki : keepB md ops ls i = true → kp = true := fun h1 => by rcases hk with hk | hk; exact hk; rw [hk.1] at h1; cases h1
    have hkj : keepB md ops ls j = true → kp = true := fun h1 => by rcases hk with hk | hk; exact hk; rw [hk.2] at h1; cases h1
    have key : ∀ a w, wpS P md ops Q S r a w → wpAnyK P md ops Q S ts ls (stepsOf r) ((listed.setIfInBounds i true).setIfInBounds j true) a w := fun a w hh => wpAnyK_of_S2 hs hQ r _ _ _ (closed_set (closed_set hcl hi) hij) hB' hh
    have inner : ∀ (x : Nat) (lx : Array Bool) a w, Region.ready md ops lx = [x] → (lx.setIfInBounds x true) = ((listed.setIfInBounds i true).setIfInBounds j true) → ts.contains x = false → ls.contains x = false → (keepB md ops ls x = true → kp = true) →
        wpOp P ops Q x (fun a' w' => (kp = true → S w') ∧ wpS P md ops Q S r a' w') a w → wpAnyK P md ops Q S ts ls (stepsOf r + 1) lx a w := by
      intro x lx a w hrx hlx htx hlsx hkx hh
      refine ⟨fun h0 => (by rw [h0] at hrx; cases hrx), fun y hy => ?_⟩
      rw [hrx] at hy
      obtain rfl : y = x := by simpa using hy
      unfold opK
      rw [if_neg (by rw [htx]; simp), if_neg (by rw [hlsx]; simp)]
      exact wpOp_mono (fun a' w' h' => ⟨fun hkb => h'.1 (hkx hkb), by rw [hlx]; exact key _ _ h'.2⟩) hh
    refine ⟨fun h0 => (by rw [h0] at hr; cases hr), fun y hy => ?_⟩
    rw [hr] at hy
    rcases List.mem_cons.1 hy with rfl | hy
    · unfold opK
      rw [if_neg (by rw [ht1]; simp), if_neg (by rw [hl1]; simp)]
      exact wpOp_mono (fun a' w' h' => ⟨fun hkb => h'.1 (hki hkb), inner j _ _ _ hri rfl ht2 hl2 hkj h'.2⟩) h.1
    · obtain rfl : y = j := by simpa using hy
      unfold opK
      rw [if_neg (by rw [ht2]; simp), if_neg (by rw [hl2]; simp)]
      exact wpOp_mono (fun a' w' h' => ⟨fun hkb => h'.1 (hkj hkb), inner i _ _ _ hrj e2 ht1 hl1 hki h'.2⟩) h.2
/-- **The beginning, where a panic's meaning looks at one temporary that no operation writes.** -/
theorem wp_region_sched2 {id : Nat} {Q : Exit → Act → World → Prop} {a : Act} {w : World} {l : List Oper} (S : World → Prop) (ms : List Mv) (hm : P.follows .mixedOrders = true)
    (hB : (Region.noSelect l.toArray && decide (stepsOf ms ≤ l.length) && schedB .any l.toArray (tsOf ms) (lsOf ms) ms (Array.replicate l.toArray.size false)) = true)
    (p : Tmp) (hd : (l.all fun o => !(o.dst == some p)) = true)
    (hQ : ∀ c (a a' : Act) w, a.defers = a'.defers → a.tmps.getD p undef = a'.tmps.getD p undef → Q (.panic c) a w → Q (.panic c) a' w)
    (h : wpS P .any l.toArray Q S ms a w.drew) : (Code.region id l.toArray true).wp P Q a w := by
  simp only [Bool.and_eq_true, decide_eq_true_eq] at hB
  refine wp_region_any hm (wpAny_more (stepsOf ms) _ _ _ _ (by simpa using hB.1.2) (wpAny_of_K _ _ _ _ (wpAnyK_of_S2 hB.1.1 ?_ ms _ _ _ (closed_start _ _) hB.2 h)))
  intro i o ho c a v w
  have hm : o ∈ l := by
    have : l[i]? = some o := by simpa using ho
    exact List.mem_of_getElem? this
  have hne : o.dst ≠ some p := by
    have := List.all_eq_true.1 hd o hm
    simpa using this
  refine hQ c _ _ w ?_ ?_
  · cases o.dst <;> rfl
  · cases hdd : o.dst with
    | none => rfl
    | some d =>
      have : d ≠ p := fun e => hne (by rw [hdd, e])
      simp [Act.put, this]
/-- What a function with deferred calls hands back looks at its results' temporaries alone. -/
theorem leaves_same {fn : Func} {t1 t2 : Array Value} {R : Ending → World → Prop} (h : results fn t1 = results fn t2) : ∀ (ds : List Deferred) (u : FrameMode) (w : World), Leaves P fn t1 R ds u w → Leaves P fn t2 R ds u w := by
  intro ds
  induction ds with
  | nil =>
    intro u w hl
    cases u with
    | returning => unfold Leaves at hl ⊢; rw [← h]; exact hl
    | panicking c => exact hl
    | run => exact hl
  | cons d ds ih =>
    intro u w hl
    unfold Leaves at hl ⊢
    obtain ⟨hu, fv, cap, f, args, h1, h2, h3⟩ := hl
    refine ⟨hu, fv, cap, f, args, h1, h2, h3.mono ?_⟩
    intro e u' w' hh
    cases e with
    | returned v => exact ih _ _ hh
    | panicked c => exact ih _ _ hh
    | outgrown => exact hh
end
end Alm
