/-
  Joined: Quiet, R3.
-/
import Derived.WalkKit
import Derived.Deep.Quiet
import Derived.Deep.MidRow
import Derived.Test.YtfmgoehnbaiamaaGreatDoorZAG
import Derived.Test.YtfmgoehnbaiamaaGreatDoorZAH
-- Plain: a region that asks the tape for its order, whose last operation stores: all others yield their values in every world of a class.
open Go
namespace Alm
section
variable {P : Program} {md : Region.Mode} {C : World → Prop}

/-- The last operation, as one that does nothing. -/
def idle (o : Oper) : Oper := { o with op := .move (.const (.tuple #[])) }

theorem getElem?_last {l : List Oper} {o : Oper} (i : Nat) : (l ++ [o]).toArray[i]? = if i < l.length then l[i]? else if i = l.length then some o else none := by
  simp only [List.getElem?_toArray]
  split
  · rename_i h; exact List.getElem?_append_left h
  · rename_i h
    rw [List.getElem?_append_right (by omega)]
    split
    · rename_i h2; subst h2; simp
    · exact List.getElem?_eq_none (by simp; omega)

theorem ready_idle (l : List Oper) (o : Oper) (listed : Array Bool) : Region.ready md (l ++ [idle o]).toArray listed = Region.ready md (l ++ [o]).toArray listed := by
  unfold Region.ready
  have hs : (l ++ [idle o]).toArray.size = (l ++ [o]).toArray.size := by simp
  rw [hs]
  refine List.filter_congr fun i _ => ?_
  rw [getElem?_last, getElem?_last]
  split
  · rfl
  · split <;> rfl

theorem yielded_idle (l : List Oper) (o : Oper) (t : Array Value) (j : Nat) : yielded (l ++ [idle o]).toArray t j = yielded (l ++ [o]).toArray t j := by
  have h : ((l ++ [idle o]).toArray[j]?).bind (·.dst) = ((l ++ [o]).toArray[j]?).bind (·.dst) := by
    rw [getElem?_last, getElem?_last]
    split
    · rfl
    · split <;> rfl
  unfold yielded
  rw [h]

theorem qOp_idle {l : List Oper} {o : Oper} {i : Nat} (hi : i ≠ l.length) {K : Act → Prop} {a : Act} (h : qOp P (l ++ [idle o]).toArray C i K a) : qOp P (l ++ [o]).toArray C i K a := by
  have he : (l ++ [idle o]).toArray[i]? = (l ++ [o]).toArray[i]? := by rw [getElem?_last, getElem?_last]; simp [hi]
  have hy : yielded (l ++ [idle o]).toArray a.tmps = yielded (l ++ [o]).toArray a.tmps := funext fun j => yielded_idle l o _ j
  unfold qOp at *
  rw [he, hy] at h
  exact h

/-- For each one but the last a later one waits. -/
def waitsAll (md : Region.Mode) (l : List Oper) (o : Oper) : Bool :=
  (List.range l.length).all fun i => (List.range (l.length + 1)).any fun j => decide (i < j) && (((l ++ [o])[j]?).map fun x => x.after.any fun e => Region.binds md e && e.on == i).getD false

/-- What has come up had all that it waits for. -/
def closed (md : Region.Mode) (ops : Array Oper) (listed : Array Bool) : Prop :=
  ∀ i oi, ops[i]? = some oi → listed.getD i false = true → ∀ e ∈ oi.after, Region.binds md e = true → listed.getD e.on false = true

theorem closed_set {ops : Array Oper} {listed : Array Bool} {i : Nat} (h : closed md ops listed) (hr : i ∈ Region.ready md ops listed) : closed md ops (listed.setIfInBounds i true) := by
  intro j oj hj hl e he hb
  by_cases hji : i = j
  · subst hji
    obtain ⟨_, oi, hoi, hall⟩ := mem_ready.1 hr
    rw [hoi] at hj; cases hj
    exact getD_set_true (hall e he hb)
  · rw [getD_set_ne false hji] at hl
    exact getD_set_true (h j oj hj hl e he hb)

theorem all_listed {l : List Oper} {o : Oper} (hw : waitsAll md l o = true) {listed : Array Bool} (hc : closed md (l ++ [o]).toArray listed) (hr : l.length ∈ Region.ready md (l ++ [o]).toArray listed) :
    ∀ j, j < l.length → listed.getD j false = true := by
  have key : ∀ n j, l.length - j ≤ n → j < l.length → listed.getD j false = true := by
    intro n
    induction n with
    | zero => intro j h1 h2; omega
    | succ n ih =>
      intro j h1 h2
      have := List.all_eq_true.1 hw j (by simpa using h2)
      obtain ⟨k, hk, hk2⟩ := List.any_eq_true.1 this
      simp only [Bool.and_eq_true, decide_eq_true_eq] at hk2
      obtain ⟨hjk, hk3⟩ := hk2
      have hk4 : k < l.length + 1 := by simpa using hk
      cases hx : (l ++ [o])[k]? with
      | none => rw [hx] at hk3; cases hk3
      | some x =>
        rw [hx] at hk3
        simp only [Option.map_some, Option.getD_some] at hk3
        rw [← Array.any_toList, List.any_eq_true] at hk3
        obtain ⟨e, he, hbe⟩ := hk3
        rw [Array.mem_toList_iff] at he
        simp only [Bool.and_eq_true, beq_iff_eq] at hbe
        have hxa : (l ++ [o]).toArray[k]? = some x := by rw [List.getElem?_toArray]; exact hx
        by_cases hkl : k = l.length
        · subst hkl
          obtain ⟨_, oi, hoi, hall⟩ := mem_ready.1 hr
          rw [hxa] at hoi; cases hoi
          have := hall e he hbe.1
          rwa [hbe.2] at this
        · have := hc k x hxa (ih k (by omega) (by omega)) e he hbe.1
          rwa [hbe.2] at this
  exact fun j hj => key l.length j (by omega) hj

/-- Each one waits only for those ahead of it. -/
def ahead (md : Region.Mode) (l : List Oper) : Bool := (List.range l.length).all fun i => ((l[i]?).map fun o => o.after.all fun e => !Region.binds md e || decide (e.on < i)).getD true

theorem ready_ne {l : List Oper} (ha : ahead md l = true) {listed : Array Bool} (hs : listed.size = l.length) : ∀ i, i < l.length → listed.getD i true = false → Region.ready md l.toArray listed ≠ [] := by
  intro i
  induction i using Nat.strongRecOn with
  | _ i ih =>
    intro hi hl
    by_cases hall : ((l[i]?).map fun o => o.after.all fun e => !Region.binds md e || listed.getD e.on false).getD false = true
    · intro h0
      have hm : i ∈ Region.ready md l.toArray listed := by
        unfold Region.ready
        rw [List.mem_filter]
        refine ⟨by simpa using hi, ?_⟩
        simp only [hl, Bool.not_false, Bool.true_and]
        simpa using hall
      rw [h0] at hm; cases hm
    · have ho : l[i]? = some l[i] := List.getElem?_eq_getElem hi
      rw [ho] at hall
      simp only [Option.map_some, Option.getD_some] at hall
      rw [Array.all_eq_true_iff_forall_mem] at hall
      have : ∃ e ∈ l[i].after, Region.binds md e = true ∧ listed.getD e.on false = false := by
        refine Classical.byContradiction fun hno => hall fun e he => ?_
        by_cases hb : Region.binds md e = true
        · by_cases hle : listed.getD e.on false = true
          · simp [hle]
          · exact (hno ⟨e, he, hb, by simpa using hle⟩).elim
        · simp [hb]
      obtain ⟨e, he, hb, hle⟩ := this
      have hlt : e.on < i := by
        have := List.all_eq_true.1 ha i (by simpa using hi)
        rw [ho] at this
        simp only [Option.map_some, Option.getD_some] at this
        have := Array.all_eq_true_iff_forall_mem.1 this e he
        simpa [hb] using this
      refine ih e.on hlt (by omega) ?_
      have hlt2 : e.on < listed.size := by omega
      simp [hlt2] at hle ⊢
      exact hle

theorem count_set {listed : Array Bool} {i : Nat} (hi : i < listed.size) (h : listed.getD i true = false) : (listed.setIfInBounds i true).toList.count false + 1 = listed.toList.count false := by
  have hx : listed.toList[i]? = some false := by
    simp [hi] at h; simp [hi, h]
  obtain ⟨l⟩ := listed
  simp only [List.setIfInBounds_toArray] at *
  clear h
  induction l generalizing i with
  | nil => simp at hi
  | cons b r ih =>
    cases i with
    | zero => simp at hx; subst hx; simp
    | succ i =>
      simp only [List.set_cons_succ, List.count_cons]
      have := ih (i := i) (by simpa using hi) (by simpa using hx)
      omega

theorem wpAny_last {l : List Oper} {o : Oper} {Q : Exit → Act → World → Prop} (hd : o.dst = none) (hg : o.guard = none) (hw : waitsAll md l o = true) (ha : ahead md (l ++ [o]) = true) :
    ∀ (fuel : Nat) (listed : Array Bool) (a : Act) (w : World), listed.size = l.length + 1 → listed.toList.count false = fuel → closed md (l ++ [o]).toArray listed → listed.getD l.length true = false → C w →
      wpAnyQ P md (l ++ [idle o]).toArray C (fun a' => ∀ w', C w' → o.wp P a' w' (fun a'' w'' => Q .normal a'' w'') Q) fuel listed a →
      wpAny P md (l ++ [o]).toArray Q fuel listed a w := by
  intro fuel
  induction fuel with
  | zero =>
    intro listed a w hs hc _ hl _ _
    have hi : l.length < listed.size := by omega
    have := count_set hi hl
    omega
  | succ fuel ih =>
    intro listed a w hs hc hcl hl hC h
    have hi : l.length < listed.size := by omega
    refine ⟨fun h0 => (ready_ne (l := l ++ [o]) ha (by simpa using hs) l.length (by simp) hl h0).elim, fun i hr => ?_⟩
    have h1 := h.2 i (by rw [ready_idle]; exact hr)
    obtain ⟨hun, oi, hoi, hall⟩ := mem_ready.1 hr
    have hib : i < listed.size := by
      rcases Nat.lt_or_ge i listed.size with h' | h'
      · exact h'
      · simp [Array.getElem?_eq_none h'] at hun
    have hcs := count_set hib hun
    by_cases hil : i = l.length
    · subst hil
      have hall' := all_listed hw hcl hr
      have hnil : Region.ready md (l ++ [o]).toArray (listed.setIfInBounds l.length true) = [] := by
        rw [List.eq_nil_iff_forall_not_mem]
        intro j hj
        obtain ⟨hjun, oj, hoj, _⟩ := mem_ready.1 hj
        rw [getElem?_last] at hoj
        by_cases hjl : j < l.length
        · have := hall' j hjl
          rw [getD_set_ne true (by omega)] at hjun
          have hjs : j < listed.size := by omega
          simp [hjs] at this hjun
          rw [this] at hjun; cases hjun
        · by_cases hje : j = l.length
          · subst hje
            simp [hi] at hjun
          · simp [hjl, hje] at hoj
      have hop : o.wp P a w (fun a'' w'' => Q .normal a'' w'') Q := by
        have ho : (l ++ [idle o]).toArray[l.length]? = some (idle o) := by rw [getElem?_last]; simp
        unfold qOp at h1
        simp only [ho] at h1
        have hwant : Region.wanted (idle o) (yielded (l ++ [idle o]).toArray a.tmps) = true := by simp [Region.wanted, idle, hg]
        rw [if_pos hwant] at h1
        obtain ⟨v, _, h2⟩ := h1
        have hput : a.put (idle o).dst v = a := by simp [idle, hd, Act.put]
        rw [hput] at h2
        cases fuel with
        | zero => exact h2.2 w hC
        | succ f => exact h2.1 (by rw [ready_idle]; exact hnil) w hC
      have ho : (l ++ [o]).toArray[l.length]? = some o := by rw [getElem?_last]; simp
      unfold wpOp
      simp only [ho]
      rw [if_pos (by simp [Region.wanted, hg])]
      refine .inl (Oper.wp_mono (fun a'' w'' hq => ?_) hop)
      cases fuel with
      | zero => exact ⟨hnil, hq⟩
      | succ f => exact ⟨fun _ => hq, by rw [hnil]; simp⟩
    · refine wpOp_of_qOp hC (fun a' w' hC' hK => ih _ _ _ (by simpa using hs) (by omega) (closed_set hcl hr) ?_ hC' hK) (qOp_idle hil h1)
      rw [getD_set_ne true hil]; exact hl

theorem getD_replicate_false' (n i : Nat) : (Array.replicate n false).getD i false = false := by
  by_cases h : i < n <;> simp [h]

/-- All operations but the last one yield their values in every world of the class; the last one, which waits for all, stores. -/
theorem wp_region_quiet_store {id : Nat} {Q : Exit → Act → World → Prop} {a : Act} {w : World} (l : List Oper) (o : Oper) {L : List Oper} (hL : L = l ++ [o]) (C : World → Prop) (hm : P.follows .mixedOrders = true)
    (hd : o.dst = none) (hg : o.guard = none) (hw : waitsAll .any l o = true) (ha : ahead .any (l ++ [o]) = true) (hB : Region.lexB .any (l ++ [idle o]).toArray = true) (hC : C w.drew)
    (h : wpQuiet P (l ++ [idle o]).toArray C (fun a' => ∀ w', C w' → o.wp P a' w' (fun a'' w'' => Q .normal a'' w'') Q) l a) : (Code.region id L.toArray true).wp P Q a w := by
  subst hL
  simp only [Region.lexB, Bool.and_eq_true] at hB
  refine wp_region_any hm ?_
  have key : wpQuiet P (l ++ [idle o]).toArray C (fun a' => ∀ w', C w' → o.wp P a' w' (fun a'' w'' => Q .normal a'' w'') Q) (l ++ [idle o]) a := by
    have : ∀ (r : List Oper) (a : Act), wpQuiet P (l ++ [idle o]).toArray C (fun a' => ∀ w', C w' → o.wp P a' w' (fun a'' w'' => Q .normal a'' w'') Q) r a →
        wpQuiet P (l ++ [idle o]).toArray C (fun a' => ∀ w', C w' → o.wp P a' w' (fun a'' w'' => Q .normal a'' w'') Q) (r ++ [idle o]) a := by
      intro r
      induction r with
      | nil =>
        intro a h
        show wpQuiet P _ C _ [idle o] a
        unfold wpQuiet
        rw [if_pos (by simp [Region.wanted, idle, hg])]
        refine ⟨.tuple #[], fun w' _ => ?_, ?_⟩
        · unfold Oper.quietAt; exact ⟨rfl, rfl⟩
        · have hput : a.put (idle o).dst (.tuple #[]) = a := by simp [idle, hd, Act.put]
          rw [hput]; exact h
      | cons x r ih =>
        intro a h
        rw [List.cons_append]
        unfold wpQuiet at h ⊢
        split
        · rename_i hx
          rw [if_pos hx] at h
          exact Oper.quiet_mono (fun a' => ih a') h
        · rename_i hx
          rw [if_neg hx] at h
          exact ih _ h
    exact this l a h
  have hq := wpAnyQ_lex (C := C) (md := .any) hB.1 (l ++ [idle o]) 0 (Array.replicate (l ++ [idle o]).toArray.size false) a (by simp) (by simpa using hB.2) key
  have hsz : (l ++ [o]).toArray.size = (l ++ [idle o]).length := by simp
  rw [hsz]
  refine wpAny_last hd hg hw ha _ _ a _ ?_ ?_ ?_ ?_ hC ?_
  · simp
  · simp
  · intro i oi _ h; rw [getD_replicate_false'] at h; cases h
  · simp
  · simpa using hq

/-- The same, for a region that is written out. -/
theorem wp_region_quiet_put {id : Nat} {Q : Exit → Act → World → Prop} {a : Act} {w : World} {L : List Oper} (C : World → Prop) (hm : P.follows .mixedOrders = true) (hne : L ≠ [])
    (hd : (L.getLast hne).dst = none) (hg : (L.getLast hne).guard = none) (hw : waitsAll .any L.dropLast (L.getLast hne) = true) (ha : ahead .any L = true) (hB : Region.lexB .any (L.dropLast ++ [idle (L.getLast hne)]).toArray = true) (hC : C w.drew)
    (h : wpQuiet P (L.dropLast ++ [idle (L.getLast hne)]).toArray C (fun a' => ∀ w', C w' → (L.getLast hne).wp P a' w' (fun a'' w'' => Q .normal a'' w'') Q) L.dropLast a) : (Code.region id L.toArray true).wp P Q a w :=
  wp_region_quiet_store L.dropLast (L.getLast hne) (List.dropLast_concat_getLast hne).symm C hm hd hg hw (by rw [List.dropLast_concat_getLast]; exact ha) hB hC h

/-- One operation of such a walk: its value, in every world of the class. -/
theorem wpQuiet_take {ops : Array Oper} {Q : Act → Prop} {a : Act} {o : Oper} {rest : List Oper} {v : Value} (hg : o.guard = none) (hv : ∀ w, C w → o.quietAt P a C w v) (h : wpQuiet P ops C Q rest (a.put o.dst v)) : wpQuiet P ops C Q (o :: rest) a := by
  unfold wpQuiet
  rw [if_pos (by simp [Region.wanted, hg])]
  exact ⟨v, hv, h⟩
/-- A load of many cells, as one operation of such a walk. -/
theorem quietAt_load_mid {op : Oper} {a : Act} {w : World} (ty : TypeId) (x : Operand) (ho : op.op = .load ty x)
    (b o : Nat) (hx : a.eval x = .pointer (some ⟨b, o, none⟩)) (cs : List Value) (d : TypeDesc) (hc : w.rangeAt b o cs)
    (hu : P.underlying ty = some d) (hd : d.isRow = true) (hi : (P.info? ty).map (·.size) = some cs.length) : op.quietAt P a C w (.agg cs.toArray) := by
  unfold Oper.quietAt execOp
  simp only [ho, hx, Instr.loadAt, Instr.sureAddr, Sem.run_bind, Sem.run_pure, Result.andThen_ok, run_loadVar_mid w b o ty cs d hc hu hd hi]
  exact ⟨rfl, rfl⟩
end
end Alm
-- Walks: the document's sum: r, digit, added, Begin.
open Go Go.RowKit Alm
namespace Go.Proofs.YtfmgoehnbaiamaaGreatDoor
set_option maxHeartbeats 400000 in
theorem refr_any (x : UInt32) (n : Nat) (w : World) (h0 : 1 ≤ n) (h1 : n ≤ 31) :
    Calls Tryz.prog 178 #[.int .u32 (uv x), .int .i64 (n : Int)] w fun e w' => e = .returned (.int .u32 (uv (rotr x n))) ∧ w = w' := by
  obtain ⟨m, hm⟩ : ∃ m, m = 32 - n := ⟨_, rfl⟩
  have hr : uv (rotr x n) = uv ((x >>> UInt32.ofNat n) ||| (x <<< UInt32.ofNat m)) := by rw [hm, or_comm32]; rfl
  have hm2 : m ≤ 31 := by omega
  have s1 := uv_shl x m (by omega)
  have s2 := uv_shr x n (by omega)
  have hsub : (32 : Int) - (n : Int) = (m : Int) := by omega
  have n0 : (n : Int) ≤ 31 := by omega
  have m0 : (m : Int) ≤ 31 := by omega
  have o1 := uv_or (x >>> UInt32.ofNat n) (x <<< UInt32.ofNat m)
  rw [hr]; clear hr hm
  go_enter Tryz.func178, Tryz.ntmps178
  go_wp2_with fail
  exact bodyPost_ret (results_tmp rfl _ _ _) rfl ⟨rfl, rfl⟩
theorem uv_mul (x : UInt32) : IntKind.u32.wrap (16 * uv x) = uv (16 * x) := by
  unfold uv; rw [IntKind.wrap_u32, UInt32.toNat_mul]
  rw [show (16 : UInt32).toNat = 16 from rfl]; omega
/-- A digit to the base 16. -/
def dig (c : UInt8) : UInt32 := if 97 ≤ c.toNat then (c - 97).toUInt32 + 10 else (c - 48).toUInt32
theorem u8_sub (c d : UInt8) : IntKind.u8.wrap ((c.toNat : Int) - (d.toNat : Int)) = (((c - d).toNat : Nat) : Int) := by
  have h1 := c.toNat_lt
  have h2 := d.toNat_lt
  rw [UInt8.toNat_sub]
  simp only [IntKind.wrap, IntKind.bits, IntKind.signed]
  simp only [Bool.false_and, Bool.false_eq_true, if_false]
  omega
theorem digit_any (c : UInt8) (w : World) : Calls Tryz.prog 188 #[.int .u8 ((c.toNat : Nat) : Int)] w fun e w' => e = .returned (.int .u32 (uv (dig c))) ∧ w = w' := by
  have hc := c.toNat_lt
  have s1 := u8_sub c 97
  have s2 := u8_sub c 48
  rw [show ((97 : UInt8).toNat : Int) = 97 from rfl] at s1
  rw [show ((48 : UInt8).toNat : Int) = 48 from rfl] at s2
  have t1 := (c - 97).toNat_lt
  have t2 := (c - 48).toNat_lt
  have a1 := uv_add (c - 97).toUInt32 10
  rw [show uv 10 = 10 from rfl, ← uv_byte] at a1
  by_cases h : 97 ≤ c.toNat
  · have hd : uv (dig c) = uv ((c - 97).toUInt32 + 10) := by unfold dig; rw [if_pos h]
    rw [← hd] at a1
    have h' : (97 : Int) ≤ (c.toNat : Int) := by omega
    generalize (c - 97).toNat = p at *
    generalize uv (dig c) = q at *
    clear h hd s2 t2
    go_enter Tryz.func188, Tryz.ntmps188
    go_wp2_with fail
    exact bodyPost_ret (results_tmp rfl _ _ _) rfl ⟨rfl, rfl⟩
  · have hd : uv (dig c) = (((c - 48).toNat : Nat) : Int) := by unfold dig; rw [if_neg h, ← uv_byte]
    rw [hd]
    have h' : ¬ (97 : Int) ≤ (c.toNat : Int) := by omega
    generalize (c - 48).toNat = p at *
    clear h hd s1 t1 a1
    go_enter Tryz.func188, Tryz.ntmps188
    go_wp2_with fail
    exact bodyPost_ret (results_tmp rfl _ _ _) rfl ⟨rfl, rfl⟩
theorem infoEight : (Tryz.prog.info? 201).map (·.size) = some 8 := by kernel_rfl
set_option maxHeartbeats 400000 in
theorem refbegin_any (w : World) : Calls Tryz.prog 157 #[] w fun e w' => e = .returned (.agg (cells32 begin8).toArray) ∧ Below w.heap.size w w' := by
  go_enter Tryz.func157, Tryz.ntmps157
  go_wp2_with fail
  exact bodyPost_ret (results_mid Tryz.results157 _ _ w.heap.size 0 (cells32 begin8) _ rfl (range_new _ _ _ _ rfl) Tryz.underlying201 rfl infoEight) rfl ⟨rfl, (Below.refl _ _).alloc (Nat.le_refl _) _⟩
/-- What each time adds, to the base 16. -/
def hexs : List UInt8 := [52, 50, 56, 97, 50, 102, 57, 56, 55, 49, 51, 55, 52, 52, 57, 49, 98, 53, 99, 48, 102, 98, 99, 102, 101, 57, 98, 53, 100, 98, 97, 53, 51, 57, 53, 54, 99, 50, 53, 98, 53, 57, 102, 49, 49, 49, 102, 49, 57, 50, 51, 102, 56, 50, 97, 52, 97, 98, 49, 99, 53, 101, 100, 53, 100, 56, 48, 55, 97, 97, 57, 56, 49, 50, 56, 51, 53, 98, 48, 49, 50, 52, 51, 49, 56, 53, 98, 101, 53, 53, 48, 99, 55, 100, 99, 51, 55, 50, 98, 101, 53, 100, 55, 52, 56, 48, 100, 101, 98, 49, 102, 101, 57, 98, 100, 99, 48, 54, 97, 55, 99, 49, 57, 98, 102, 49, 55, 52, 101, 52, 57, 98, 54, 57, 99, 49, 101, 102, 98, 101, 52, 55, 56, 54, 48, 102, 99, 49, 57, 100, 99, 54, 50, 52, 48, 99, 97, 49, 99, 99, 50, 100, 101, 57, 50, 99, 54, 102, 52, 97, 55, 52, 56, 52, 97, 97, 53, 99, 98, 48, 97, 57, 100, 99, 55, 54, 102, 57, 56, 56, 100, 97, 57, 56, 51, 101, 53, 49, 53, 50, 97, 56, 51, 49, 99, 54, 54, 100, 98, 48, 48, 51, 50, 55, 99, 56, 98, 102, 53, 57, 55, 102, 99, 55, 99, 54, 101, 48, 48, 98, 102, 51, 100, 53, 97, 55, 57, 49, 52, 55, 48, 54, 99, 97, 54, 51, 53, 49, 49, 52, 50, 57, 50, 57, 54, 55, 50, 55, 98, 55, 48, 97, 56, 53, 50, 101, 49, 98, 50, 49, 51, 56, 52, 100, 50, 99, 54, 100, 102, 99, 53, 51, 51, 56, 48, 100, 49, 51, 54, 53, 48, 97, 55, 51, 53, 52, 55, 54, 54, 97, 48, 97, 98, 98, 56, 49, 99, 50, 99, 57, 50, 101, 57, 50, 55, 50, 50, 99, 56, 53, 97, 50, 98, 102, 101, 56, 97, 49, 97, 56, 49, 97, 54, 54, 52, 98, 99, 50, 52, 98, 56, 98, 55, 48, 99, 55, 54, 99, 53, 49, 97, 51, 100, 49, 57, 50, 101, 56, 49, 57, 100, 54, 57, 57, 48, 54, 50, 52, 102, 52, 48, 101, 51, 53, 56, 53, 49, 48, 54, 97, 97, 48, 55, 48, 49, 57, 97, 52, 99, 49, 49, 54, 49, 101, 51, 55, 54, 99, 48, 56, 50, 55, 52, 56, 55, 55, 52, 99, 51, 52, 98, 48, 98, 99, 98, 53, 51, 57, 49, 99, 48, 99, 98, 51, 52, 101, 100, 56, 97, 97, 52, 97, 53, 98, 57, 99, 99, 97, 52, 102, 54, 56, 50, 101, 54, 102, 102, 51, 55, 52, 56, 102, 56, 50, 101, 101, 55, 56, 97, 53, 54, 51, 54, 102, 56, 52, 99, 56, 55, 56, 49, 52, 56, 99, 99, 55, 48, 50, 48, 56, 57, 48, 98, 101, 102, 102, 102, 97, 97, 52, 53, 48, 54, 99, 101, 98, 98, 101, 102, 57, 97, 51, 102, 55, 99, 54, 55, 49, 55, 56, 102, 50]
/-- So many of a time's digits. -/
def hexN (t : Nat) : Nat → UInt32
  | 0 => 0
  | j + 1 => 16 * hexN t j + dig (hexs.getD (8 * t + j) 0)
theorem hexN_table : ∀ t : Fin 64, hexN t.val 8 = table.getD t.val 0 := by decide +kernel
theorem hexs_length : hexs.length = 512 := by decide +kernel
theorem wpList_index_str {ops : Array Oper} {rest : List Oper} {op : Oper} {a : Act} {w : World} {Q : Exit → Act → World → Prop} (hgd : op.guard = none) (x y : Operand) (ho : op.op = .index 9 x y)
    (s : ByteArray) (hx : a.eval x = .string s) (k : Nat) (hy : a.eval y = .int .i64 (k : Int)) (c : UInt8) (hk : s.data[k]? = some c) (h : wpList Tryz.prog ops Q rest (a.put op.dst (.int .u8 ((c.toNat : Nat) : Int))) w) : wpList Tryz.prog ops Q (op :: rest) a w :=
  wpList_plain hgd fun K hK => by
    have hks : k < s.size := (Array.getElem?_eq_some_iff.1 hk).1
    have hr := run_index_string (P := Tryz.prog) w 9 s .i64 (k : Int) Tryz.underlying9
    rw [dif_pos ⟨by omega, by omega⟩] at hr
    have hc : s[(k : Int).toNat]'(by omega) = c := (Array.getElem?_eq_some_iff.1 hk).2
    unfold Oper.wp execOp
    simp only [ho, hx, hy, Sem.run_bind, Sem.run_pure, Result.andThen_ok, hr, hc]
    exact hK _ _ h
def hexB : ByteArray := ⟨hexs.toArray⟩
theorem hexB_get {k : Nat} (h : k < 512) : hexB.data[k]? = some (hexs.getD k 0) := by
  show hexs.toArray[k]? = _
  rw [List.getElem?_toArray, List.getD_eq_getElem?_getD, List.getElem?_eq_getElem (by rw [hexs_length]; exact h)]
  rfl
set_option maxRecDepth 100000 in
set_option maxHeartbeats 1000000 in
theorem added_any (t : Nat) (w : World) (ht : t < 64) : Calls Tryz.prog 179 #[.int .i64 (t : Int)] w fun e w' => e = .returned (.int .u32 (uv (table.getD t 0))) ∧ w = w' := by
  have hT := hexN_table ⟨t, ht⟩
  simp only at hT
  rw [← hT]
  obtain ⟨b, hb⟩ : ∃ b, b = 8 * t := ⟨_, rfl⟩
  obtain ⟨e, he⟩ : ∃ e, e = b + 8 := ⟨_, rfl⟩
  have ht' : (t : Int) < 64 := by omega
  have hb1 : 8 * (t : Int) = (b : Int) := by omega
  have he1 : (b : Int) + 8 = (e : Int) := by omega
  have he2 : (e : Int) ≤ 512 := by omega
  have hb2 : (b : Int) ≤ 504 := by omega
  have HB := Lib.hid (And.intro hb (And.intro he ht))
  clear hT hb he ht
  go_enter Tryz.func179, Tryz.ntmps179
  go_wp2_with fail
  go_loopw [3, 4] (fun n i W => ∃ j k : Nat, j ≤ 8 ∧ k = b + j ∧ n = .int .u32 (uv (hexN t j)) ∧ i = .int .i64 (k : Int) ∧ W = w) (fun _ i _ => e - (intOf i).toNat)
  case atStart => exact ⟨0, b, by omega, by omega, rfl, rfl, rfl⟩
  case round =>
    obtain ⟨j, k, hj, hk, rfl, rfl, rfl⟩ := hrel
    by_cases hlt : k < e
    · have hlt' : (k : Int) < (e : Int) := by omega
      have k0 : (0 : Int) ≤ (k : Int) := by omega
      have k1 : (k : Int) < 512 := by omega
      have hst : hexN t (j + 1) = 16 * hexN t j + dig (hexs.getD k 0) := by rw [hexN, hk, HB.out.1]
      have HG := Lib.hid (hexB_get (k := k) (by omega))
      have HJ := Lib.hid (show j < 8 ∧ k = b + j from ⟨by have := HB.out.2.1; omega, hk⟩)
      clear hk hj
      generalize hexs.getD k 0 = c at *
      have m1 := uv_mul (hexN t j)
      have a1 := uv_add (16 * hexN t j) (dig c)
      generalize hexN t j = x at *
      have HST := Lib.hid hst; clear hst
      go_wp2_with (refine wpList_index_str rfl _ _ rfl hexB rfl k rfl c HG.out ?_)
      refine (digit_any c _).mono ?_
      rintro e w1 ⟨rfl, rfl⟩
      go_wp2_with fail
      refine ⟨⟨j + 1, k + 1, by have := HJ.out.1; omega, by have := HJ.out.2; omega, by rw [HST.out], by simp, by trivial⟩, by simp [intOf]; omega⟩
    · obtain rfl : j = 8 := by have := HB.out.2.1; omega
      have hlt' : ¬ (k : Int) < (e : Int) := by omega
      clear hlt hk hj
      go_wp2_with fail
      exact bodyPost_ret (results_tmp rfl _ _ _) rfl ⟨rfl, rfl⟩
end Go.Proofs.YtfmgoehnbaiamaaGreatDoor
