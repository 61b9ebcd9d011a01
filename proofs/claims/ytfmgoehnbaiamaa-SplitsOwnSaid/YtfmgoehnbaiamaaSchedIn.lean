/-
  Plain: a region that asks the tape for its order, whose last operations come up one behind the other: the first ones walked outside the fence, the last ones inside it.
-/
import Derived.Test.YtfmgoehnbaiamaaSched
import Derived.OrdersIn
open Go
namespace Alm
section
variable {P : Program} {md : Region.Mode} {n : Nat}
/-- What holds where all went well. -/
def onlyN (R : Act → World → Prop) : Exit → Act → World → Prop
  | .normal, a, w => R a w
  | _, _, _ => False
theorem rowsIn_wide {row : String} {args : Array Value} {w : World} {R : Value → World → Prop} (h : Rows P row args w R) : RowsIn Fence.wide n P row args w R :=
  fun c cs _ => let ⟨v, w', r, s⟩ := h c cs; ⟨v, w', r, stepsIn_wide.2 s⟩
theorem wpIn_of_op {o : Oper} {a : Act} {w : World} {K R : Act → World → Prop} {Q : Exit → Act → World → Prop} (h : o.wp P a w K (onlyN R)) : o.wpIn Fence.wide n P a w K Q := by
  refine ⟨fun _ _ => trivial, ?_⟩
  unfold Oper.wp at h
  show o.uponIn Fence.wide n P a K Q ((execOp a.eval o).run P w)
  generalize (execOp a.eval o).run P w = r at *
  cases r with
  | ok x w' =>
    cases x with
    | value v => exact h
    | skip => exact h
    | defer d => exact h
    | enter f args =>
      refine ⟨fun h => (by cases h), callsIn_wide.2 (Calls.mono h fun e w'' he => ?_)⟩
      cases e with
      | returned v => exact he
      | panicked c => exact he.elim
      | outgrown => obtain ⟨a', w3, h3⟩ := he; exact h3.elim
    | row r args => exact ⟨fun h => (by cases h), rowsIn_wide h⟩
    | _ => exact h.elim
  | halt x w' =>
    cases x with
    | panic v => exact h.elim
    | _ => exact h
theorem wpOpIn_of {ops : List Oper} {k i : Nat} {a : Act} {w : World} {K R : Act → World → Prop} {Q : Exit → Act → World → Prop} (hg : ∀ o ∈ ops.take k, o.guard = none) (hi : i < k)
    (h : wpOp P (ops.take k).toArray (onlyN R) i K a w) : wpOpIn Fence.wide n P ops.toArray Q i K a w := by
  have e : (ops.take k).toArray[i]? = ops.toArray[i]? := by
    rw [List.getElem?_toArray, List.getElem?_toArray, List.getElem?_take_of_lt hi]
  unfold wpOp at h
  unfold wpOpIn
  rw [e] at h
  cases ho : ops.toArray[i]? with
  | none => rw [ho] at h; exact h
  | some o =>
    rw [ho] at h
    have hgo : o.guard = none := hg o (by
      rw [List.getElem?_toArray] at ho
      exact List.mem_iff_getElem?.2 ⟨i, by rw [List.getElem?_take_of_lt hi]; exact ho⟩)
    have w1 : ∀ y, Region.wanted o y = true := fun y => by simp [Region.wanted, hgo]
    simp only [w1, if_true] at h ⊢
    rcases h with h | h
    · exact wpIn_of_op h
    · obtain ⟨a', w', h3⟩ := h.2
      exact h3.elim
/-- The last operations, one behind the other. -/
def wpTail (F : Fence) (n : Nat) (P : Program) (ops : Array Oper) (Q : Exit → Act → World → Prop) : Nat → Nat → Act → World → Prop
  | 0, _, a, w => Q .normal a w
  | r + 1, k, a, w => wpOpIn F n P ops Q k (wpTail F n P ops Q r (k + 1)) a w
/-- May the first k be walked apart? -/
def liftB (md : Region.Mode) (ops : List Oper) (k : Nat) : Bool :=
  decide (k ≤ ops.length) && (ops.take k).all (fun o => o.guard.isNone) &&
  (List.range ops.length).all (fun j => ((ops[j]?).map fun o => o.after.all fun e => decide (e.on < j)).getD true) &&
  (List.range ops.length).all (fun j => decide (j < k) || (List.range j).all fun i => depB md ops.toArray i ops.toArray.size j)
structure LiftOk (md : Region.Mode) (ops : List Oper) (k : Nat) : Prop where
  le : k ≤ ops.length
  gd : ∀ o ∈ ops.take k, o.guard = none
  dn : ∀ (j : Nat) (o : Oper), ops[j]? = some o → ∀ e ∈ o.after, e.on < j
  all : ∀ j, k ≤ j → j < ops.length → ∀ i, i < j → depB md ops.toArray i ops.toArray.size j = true
theorem liftB_ok {ops : List Oper} {k : Nat} (h : liftB md ops k = true) : LiftOk md ops k := by
  unfold liftB at h
  simp only [Bool.and_eq_true, decide_eq_true_eq] at h
  obtain ⟨⟨⟨h1, h2⟩, h3⟩, h4⟩ := h
  refine ⟨h1, fun o ho => by simpa using List.all_eq_true.1 h2 o ho, fun j o ho e he => ?_, fun j hk hj i hi => ?_⟩
  · have := List.all_eq_true.1 h3 j (List.mem_range.2 (List.getElem?_eq_some_iff.1 ho).1)
    rw [ho] at this
    simp only [Option.map_some, Option.getD_some] at this
    have := Array.all_eq_true_iff_forall_mem.1 this e he
    exact of_decide_eq_true this
  · have := List.all_eq_true.1 h4 j (List.mem_range.2 hj)
    rw [Bool.or_eq_true] at this
    rcases this with this | this
    · have := of_decide_eq_true this; omega
    · exact List.all_eq_true.1 this i (List.mem_range.2 hi)
variable {ops : List Oper} {k : Nat} {Q : Exit → Act → World → Prop} {F : Fence}
theorem wpAnyIn_end {listed : Array Bool} {a : Act} {w : World} (hr : Region.ready md ops.toArray listed = []) (h : Q .normal a w) : ∀ m, wpAnyIn F n P md ops.toArray Q m listed a w
  | 0 => ⟨hr, h⟩
  | m + 1 => ⟨fun _ => h, fun i hi => by rw [hr] at hi; cases hi⟩
/-- The end: those ahead have come up. -/
theorem wpAnyIn_tail (hO : LiftOk md ops k) : ∀ (r j : Nat) (listed : Array Bool) (a : Act) (w : World) (m : Nat), k ≤ j → j + r = ops.length → listed.size = ops.length → (∀ i, i < ops.length → listed.getD i false = decide (i < j)) →
    wpTail F n P ops.toArray Q r j a w → wpAnyIn F n P md ops.toArray Q (m + r) listed a w
  | 0, j, listed, a, w, m, hkj, hj, hs, hl, h => by
    refine wpAnyIn_end ?_ h m
    cases hr : Region.ready md ops.toArray listed with
    | nil => rfl
    | cons i t =>
      exfalso
      have hi : i ∈ Region.ready md ops.toArray listed := by rw [hr]; exact List.mem_cons_self
      obtain ⟨h0, o, ho, _⟩ := mem_ready.1 hi
      rw [List.getElem?_toArray] at ho
      have hlt := (List.getElem?_eq_some_iff.1 ho).1
      have h1 := hl i hlt
      rw [decide_eq_true (by omega)] at h1
      rw [Array.getD_eq_getD_getElem?, Array.getElem?_eq_getElem (by omega)] at h0 h1
      simp only [Option.getD_some] at h0 h1
      rw [h0] at h1; cases h1
  | r + 1, j, listed, a, w, m, hkj, hj, hs, hl, h => by
    have hjl : j < ops.length := by omega
    have hget : ∀ (d : Bool) i, i < ops.length → listed.getD i d = decide (i < j) := fun d i hi => by
      rw [← hl i hi, Array.getD_eq_getD_getElem?, Array.getD_eq_getD_getElem?, Array.getElem?_eq_getElem (by omega)]
      rfl
    have hcl : closed md ops.toArray listed := fun i oi ho h1 e he _ => by
      rw [List.getElem?_toArray] at ho
      have hlt := (List.getElem?_eq_some_iff.1 ho).1
      have hd := hO.dn i oi ho e he
      rw [hl i hlt] at h1
      have := of_decide_eq_true h1
      rw [hl e.on (by omega)]
      exact decide_eq_true (by omega)
    have hjr : j ∈ Region.ready md ops.toArray listed := mem_ready.2 ⟨by rw [hget true j hjl]; simp, ops[j], by rw [List.getElem?_toArray]; exact List.getElem?_eq_getElem hjl, fun e he _ => by
      have hd := hO.dn j _ (List.getElem?_eq_getElem hjl) e he
      rw [hl e.on (by omega)]
      exact decide_eq_true hd⟩
    refine ⟨fun h0 => (by rw [h0] at hjr; cases hjr), fun i hi => ?_⟩
    have hij : i = j := by
      obtain ⟨h0, o, ho, hall⟩ := mem_ready.1 hi
      have ho' := ho
      rw [List.getElem?_toArray] at ho'
      have hlt := (List.getElem?_eq_some_iff.1 ho').1
      rw [hget true i hlt] at h0
      have h1 := of_decide_eq_false h0
      rcases Nat.lt_or_ge j i with h2 | h2
      · exfalso
        have := depB_listed hcl j ops.toArray.size i o ho hall (hO.all i (by omega) hlt j h2)
        rw [hl j hjl] at this
        have := of_decide_eq_true this
        omega
      · omega
    subst hij
    show wpOpIn F n P ops.toArray Q i _ a w
    refine wpOpIn_mono (fun a' w' h' => wpAnyIn_tail hO r (i + 1) _ a' w' m (by omega) (by omega) (by rw [Array.size_setIfInBounds]; exact hs) (fun x hx => ?_) h') h
    by_cases hx2 : i = x
    · subst hx2
      rw [Array.getD_eq_getD_getElem?, Array.getElem?_setIfInBounds_self_of_lt (by omega)]
      simp
    · rw [getD_set_ne false hx2, hl x hx]
      exact decide_eq_decide.2 (by omega)
theorem getD_pad {L : Array Bool} {r : Nat} (d : Bool) {i : Nat} (hi : i < L.size) : (L ++ Array.replicate r false).getD i d = L.getD i d := by
  rw [Array.getD_eq_getD_getElem?, Array.getD_eq_getD_getElem?, Array.getElem?_append_left hi]
theorem getD_pad_no {L : Array Bool} {r : Nat} {i : Nat} (hi : L.size ≤ i) : (L ++ Array.replicate r false).getD i false = false := by
  rw [Array.getD_eq_getD_getElem?, Array.getElem?_append_right hi, Array.getElem?_replicate]
  split <;> rfl
/-- The first ones, walked apart. -/
theorem wpAnyIn_lift (hO : LiftOk md ops k) : ∀ (fuel : Nat) (L : Array Bool) (a : Act) (w : World), L.size = k → closed md ops.toArray (L ++ Array.replicate (ops.length - k) false) →
    wpAny P md (ops.take k).toArray (onlyN fun a w => wpTail Fence.wide n P ops.toArray Q (ops.length - k) k a w) fuel L a w → wpAnyIn Fence.wide n P md ops.toArray Q (fuel + (ops.length - k)) (L ++ Array.replicate (ops.length - k) false) a w := by
  have hle := hO.le
  -- those of the first ones that may come up are the same
  have same : ∀ (L : Array Bool), L.size = k → ∀ i, i < k → (i ∈ Region.ready md (ops.take k).toArray L ↔ i ∈ Region.ready md ops.toArray (L ++ Array.replicate (ops.length - k) false)) := by
    intro L hL i hi
    rw [mem_ready, mem_ready, getD_pad true (by omega), List.getElem?_toArray, List.getElem?_toArray, List.getElem?_take_of_lt hi]
    constructor
    · rintro ⟨h0, o, ho, hall⟩
      exact ⟨h0, o, ho, fun e he hb => by have := hO.dn i o ho e he; rw [getD_pad false (by omega)]; exact hall e he hb⟩
    · rintro ⟨h0, o, ho, hall⟩
      exact ⟨h0, o, ho, fun e he hb => by have := hO.dn i o ho e he; have h2 := hall e he hb; rwa [getD_pad false (by omega)] at h2⟩
  -- where none of them may, all have
  have full : ∀ (L : Array Bool), L.size = k → Region.ready md (ops.take k).toArray L = [] → ∀ i, i < k → L.getD i false = true := by
    intro L hL hr i
    induction i using Nat.strongRecOn with
    | ind i ih =>
      intro hi
      cases hg : L.getD i false with
      | true => rfl
      | false =>
        exfalso
        have hm : i ∈ Region.ready md (ops.take k).toArray L := mem_ready.2 ⟨by
            rw [Array.getD_eq_getD_getElem?, Array.getElem?_eq_getElem (by omega)] at hg ⊢
            exact hg, ops[i], by rw [List.getElem?_toArray, List.getElem?_take_of_lt hi]; exact List.getElem?_eq_getElem (by omega), fun e he _ => by
          have hd := hO.dn i _ (List.getElem?_eq_getElem (by omega)) e he
          exact ih e.on hd (by omega)⟩
        rw [hr] at hm; cases hm
  have fin : ∀ (fuel : Nat) (L : Array Bool) (a : Act) (w : World), L.size = k → Region.ready md (ops.take k).toArray L = [] → wpTail Fence.wide n P ops.toArray Q (ops.length - k) k a w →
      wpAnyIn Fence.wide n P md ops.toArray Q (fuel + (ops.length - k)) (L ++ Array.replicate (ops.length - k) false) a w := by
    intro fuel L a w hL hr h
    refine wpAnyIn_tail hO (ops.length - k) k _ a w fuel (Nat.le_refl _) (by omega) (by rw [Array.size_append, Array.size_replicate]; omega) (fun i hi => ?_) h
    rcases Nat.lt_or_ge i k with h1 | h1
    · rw [getD_pad false (by omega), full L hL hr i h1]
      exact (decide_eq_true h1).symm
    · rw [getD_pad_no (by omega)]
      exact (decide_eq_false (by omega)).symm
  intro fuel
  induction fuel with
  | zero => intro L a w hL _ h; exact fin 0 L a w hL h.1 h.2
  | succ fuel ih =>
    intro L a w hL hcl h
    by_cases hr : Region.ready md (ops.take k).toArray L = []
    · exact fin (fuel + 1) L a w hL hr (h.1 hr)
    · rw [show fuel + 1 + (ops.length - k) = fuel + (ops.length - k) + 1 by omega]
      obtain ⟨i0, hi0⟩ := List.exists_mem_of_ne_nil _ hr
      have hk0 : i0 < k := by
        obtain ⟨_, o, ho, _⟩ := mem_ready.1 hi0
        have := (Array.getElem?_eq_some_iff.1 ho).1
        simp at this
        omega
      refine ⟨fun h0 => ?_, fun i hi => ?_⟩
      · have := (same L hL i0 hk0).1 hi0
        rw [h0] at this; cases this
      · obtain ⟨h0, o, ho, hall⟩ := mem_ready.1 hi
        have ho' := ho
        rw [List.getElem?_toArray] at ho'
        have hlt := (List.getElem?_eq_some_iff.1 ho').1
        have hik : i < k := by
          rcases Nat.lt_or_ge i k with h1 | h1
          · exact h1
          · exfalso
            have := depB_listed hcl i0 ops.toArray.size i o ho hall (hO.all i h1 hlt i0 (by omega))
            rw [getD_pad false (by omega)] at this
            have h2 := (mem_ready.1 hi0).1
            rw [Array.getD_eq_getD_getElem?, Array.getElem?_eq_getElem (by omega)] at this h2
            simp only [Option.getD_some] at this h2
            rw [this] at h2; cases h2
        have e : (L ++ Array.replicate (ops.length - k) false).setIfInBounds i true = (L.setIfInBounds i true) ++ Array.replicate (ops.length - k) false := by
          rw [Array.setIfInBounds_append_left (by omega)]
        rw [e]
        refine wpOpIn_of hO.gd hik (wpOp_mono (fun a' w' h' => ih _ a' w' (by rw [Array.size_setIfInBounds]; exact hL) (by rw [← e]; exact closed_set hcl hi) h') (h.2 i ((same L hL i hik).2 hi)))
/-- **The beginning.** -/
theorem wpIn_region_lift {id : Nat} {a : Act} {w : World} (k : Nat) (S : World → Prop) (ms : List Mv) (hm : P.follows .mixedOrders = true)
    (hB : (Region.noSelect (ops.take k).toArray && decide (stepsOf ms ≤ (ops.take k).length) && schedB .any (ops.take k).toArray (tsOf ms) (lsOf ms) ms (Array.replicate (ops.take k).toArray.size false)) = true) (hL : liftB .any ops k = true)
    (h : wpS P .any (ops.take k).toArray (onlyN fun a w => wpTail Fence.wide n P ops.toArray Q (ops.length - k) k a w) S ms a w.drew) : (Code.region id ops.toArray true).wpIn Fence.wide n P Q a w := by
  simp only [Bool.and_eq_true, decide_eq_true_eq] at hB
  have hO := liftB_ok hL
  have hlen : (ops.take k).toArray.size = k := by
    rw [List.size_toArray, List.length_take]; have := hO.le; omega
  have h1 := wpAny_more (stepsOf ms) k _ _ _ (by have := hB.1.2; rw [List.length_take] at this; omega) (wpAny_of_K _ _ _ _ (wpAnyK_of_S hB.1.1 (fun c a d v w hx => hx) ms _ _ _ (closed_start _ _) hB.2 h))
  rw [hlen] at h1
  have e : Array.replicate ops.toArray.size false = Array.replicate k false ++ Array.replicate (ops.length - k) false := by
    rw [Array.replicate_append_replicate, List.size_toArray]; congr 1; have := hO.le; omega
  refine wpIn_region_any hm ?_
  have h2 := wpAnyIn_lift hO k (Array.replicate k false) a w.drew (Array.size_replicate) (by rw [← e]; exact closed_start _ _) h1
  rw [← e] at h2
  have e2 : k + (ops.length - k) = ops.toArray.size := by rw [List.size_toArray]; have := hO.le; omega
  rw [e2] at h2
  exact h2
end
end Alm
