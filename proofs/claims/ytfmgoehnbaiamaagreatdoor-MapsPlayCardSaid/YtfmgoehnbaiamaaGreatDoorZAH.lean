/-
  Joined: W1, W2, Quiet.
-/
import Derived.Test.YtfmgoehnbaiamaaGreatDoorW0
import Derived.Test.YtfmgoehnbaiamaaGreatDoorSha
import Derived.Deep.QuietTactic
import Derived.BigQuiet
import Derived.KernelRfl
import Derived.WalkKit
import Derived.Deep.Quiet
import Derived.Deep.MidRow
-- Walks: bits.RotateLeft32, shas.two, shas.three.
open Go Go.RowKit Alm
namespace Go.Proofs.YtfmgoehnbaiamaaGreatDoor

theorem rot_mask (n : Nat) (h0 : 1 ≤ n) (h1 : n ≤ 31) : bits .and .u64 (IntKind.u64.wrap (-(n : Int))) 31 = ((32 - n : Nat) : Int) := by
  have e : IntKind.u64.wrap (-(n : Int)) = ((18446744073709551616 - n : Nat) : Int) := by
    simp only [IntKind.wrap, IntKind.bits, IntKind.signed]; simp only [Bool.false_and, Bool.false_eq_true, if_false]; omega
  have e31 : (31 : Int) = ((31 : Nat) : Int) := rfl
  rw [e, e31, u64_and_nat _ _ (by omega) (by omega), show (31 : Nat) = 2 ^ 5 - 1 from rfl, Nat.and_two_pow_sub_one_eq_mod]
  omega

set_option maxHeartbeats 400000 in
theorem rot_any (x : UInt32) (n : Nat) (k : Int) (w : World) (hk : k = -(n : Int)) (h0 : 1 ≤ n) (h1 : n ≤ 31) :
    Calls Tryz.prog 194 #[.int .u32 (uv x), .int .i64 k] w fun e w' => e = .returned (.int .u32 (uv (rotr x n))) ∧ w = w' := by
  subst hk
  have e1 := rot_mask n h0 h1
  obtain ⟨m, hm⟩ : ∃ m, m = 32 - n := ⟨_, rfl⟩
  rw [← hm] at e1
  have hr : uv (rotr x n) = uv ((x <<< UInt32.ofNat m) ||| (x >>> UInt32.ofNat n)) := by rw [hm]; rfl
  have hm1 : 1 ≤ m := by omega
  have hm2 : m ≤ 31 := by omega
  have s1 := uv_shl x m (by omega)
  have s2 := uv_shr x n (by omega)
  have hsub : (32 : Int) - (m : Int) = (n : Int) := by omega
  have o1 := uv_or (x <<< UInt32.ofNat m) (x >>> UInt32.ofNat n)
  rw [hr]; clear hr hm
  go_enter Tryz.func194, Tryz.ntmps194
  go_wp2_with fail
  go_ret
  exact ⟨rfl, rfl⟩

set_option maxHeartbeats 800000 in
theorem three_any (x : UInt32) (a b c : Nat) (w : World) (ha : 1 ≤ a) (ha' : a ≤ 31) (hb : 1 ≤ b) (hb' : b ≤ 31) (hc : 1 ≤ c) (hc' : c ≤ 31) :
    Calls Tryz.prog 192 #[.int .u32 (uv x), .int .i64 (a : Int), .int .i64 (b : Int), .int .i64 (c : Int)] w fun e w' => e = .returned (.int .u32 (uv (three x a b c))) ∧ w = w' := by
  have o1 := uv_xor (rotr x a) (rotr x b)
  have o2 := uv_xor (rotr x a ^^^ rotr x b) (rotr x c)
  go_enter Tryz.func192, Tryz.ntmps192
  go_wp2_with (go_at_call 194; first
    | ((with_reducible refine (rot_any x a (-(a : Int)) _ rfl ha ha').mono ?_); rintro e w' ⟨rfl, rfl⟩)
    | ((with_reducible refine (rot_any x b (-(b : Int)) _ rfl hb hb').mono ?_); rintro e w' ⟨rfl, rfl⟩)
    | ((with_reducible refine (rot_any x c (-(c : Int)) _ rfl hc hc').mono ?_); rintro e w' ⟨rfl, rfl⟩))
  go_ret
  exact ⟨rfl, rfl⟩

set_option maxHeartbeats 800000 in
theorem two_any (x : UInt32) (a b c : Nat) (w : World) (ha : 1 ≤ a) (ha' : a ≤ 31) (hb : 1 ≤ b) (hb' : b ≤ 31) (hc' : c ≤ 31) :
    Calls Tryz.prog 191 #[.int .u32 (uv x), .int .i64 (a : Int), .int .i64 (b : Int), .int .i64 (c : Int)] w fun e w' => e = .returned (.int .u32 (uv (two x a b c))) ∧ Below w.heap.size w w' := by
  have o1 := uv_xor (rotr x a) (rotr x b)
  have o2 := uv_xor (rotr x a ^^^ rotr x b) (x >>> UInt32.ofNat c)
  have s2 := uv_shr x c (by omega)
  have wa : IntKind.i64.wrap (-(a : Int)) = -(a : Int) := by rw [IntKind.wrap_i64]; omega
  have wb : IntKind.i64.wrap (-(b : Int)) = -(b : Int) := by rw [IntKind.wrap_i64]; omega
  go_enter Tryz.func191, Tryz.ntmps191
  go_wp2_with fail
  go_region_held3 (fun W => Below w.heap.size w W) (first | assumption | exact (Below.refl _ _).drew)
    ((go_at_call 194; first
    | ((with_reducible refine (rot_any x a (-(a : Int)) _ rfl ha ha').mono ?_); rintro e w' ⟨rfl, rfl⟩)
    | ((with_reducible refine (rot_any x b (-(b : Int)) _ rfl hb hb').mono ?_); rintro e w' ⟨rfl, rfl⟩)))
  go_wp2_with fail
  go_ret
  exact ⟨rfl, by assumption⟩
theorem two_a (x : UInt32) (w : World) : Calls Tryz.prog 191 #[.int .u32 (uv x), .int .i64 7, .int .i64 18, .int .i64 3] w fun e w' => e = .returned (.int .u32 (uv (two x 7 18 3))) ∧ Below w.heap.size w w' :=
  two_any x 7 18 3 w (by decide) (by decide) (by decide) (by decide) (by decide)
theorem two_b (x : UInt32) (w : World) : Calls Tryz.prog 191 #[.int .u32 (uv x), .int .i64 17, .int .i64 19, .int .i64 10] w fun e w' => e = .returned (.int .u32 (uv (two x 17 19 10))) ∧ Below w.heap.size w w' :=
  two_any x 17 19 10 w (by decide) (by decide) (by decide) (by decide) (by decide)
theorem three_a (x : UInt32) (w : World) : Calls Tryz.prog 192 #[.int .u32 (uv x), .int .i64 6, .int .i64 11, .int .i64 25] w fun e w' => e = .returned (.int .u32 (uv (three x 6 11 25))) ∧ w = w' :=
  three_any x 6 11 25 w (by decide) (by decide) (by decide) (by decide) (by decide) (by decide)
theorem three_b (x : UInt32) (w : World) : Calls Tryz.prog 192 #[.int .u32 (uv x), .int .i64 2, .int .i64 13, .int .i64 22] w fun e w' => e = .returned (.int .u32 (uv (three x 2 13 22))) ∧ w = w' :=
  three_any x 2 13 22 w (by decide) (by decide) (by decide) (by decide) (by decide) (by decide)
end Go.Proofs.YtfmgoehnbaiamaaGreatDoor
-- Walks: shas.begin, shas.table.
namespace Go.Proofs.YtfmgoehnbaiamaaGreatDoor
theorem info8 : (Tryz.prog.info? 231).map (·.size) = some 8 := by kernel_rfl
theorem info64 : (Tryz.prog.info? 220).map (·.size) = some 64 := by kernel_rfl
set_option maxHeartbeats 400000 in
theorem begin_any (w : World) : Calls Tryz.prog 185 #[] w fun e w' => e = .returned (.agg (cells32 begin8).toArray) ∧ Below w.heap.size w w' := by
  go_enter Tryz.func185, Tryz.ntmps185
  go_wp2_with fail
  exact bodyPost_ret (results_mid Tryz.results185 _ _ w.heap.size 0 (cells32 begin8) _ rfl (range_new _ _ _ _ rfl) Tryz.underlying231 rfl info8) rfl ⟨rfl, (Below.refl _ _).alloc (Nat.le_refl _) _⟩
set_option maxRecDepth 100000 in
set_option maxHeartbeats 1600000 in
theorem table_any (w : World) : Calls Tryz.prog 190 #[] w fun e w' => e = .returned (.agg (cells32 table).toArray) ∧ Below w.heap.size w w' := by
  have hl : (cells32 table).length = 64 := rfl
  have ho := oneCell_cells32 table
  have hz : (cells32 table).toArray.size = 64 := rfl
  go_enter Tryz.func190, Tryz.ntmps190
  have Hl := Lib.hid hl; clear hl
  have Hz := Lib.hid hz; clear hz
  go_wp2_with (first
    | (refine wpList_build_by rfl _ _ rfl (.agg (cells32 table).toArray) (fun _ => by kernel_rfl) ?_)
    | (refine wpList_store_mid rfl _ _ _ rfl w.heap.size 0 _ rfl rfl (by rw [Hz.out]; exact (Res.start w 64 _ _ rfl).there) (by rw [Hz.out]; exact info64) (all_oneCell_toArray ho) ?_))
  refine bodyPost_ret (results_mid Tryz.results190 _ _ w.heap.size 0 (cells32 table) _ rfl (range_stored _ _ _ _ (by rw [Hl.out]; exact ((Res.start w 64 _ _ rfl).store _).there)) Tryz.underlying220 rfl (by rw [Hl.out]; exact info64)) rfl ⟨rfl, ((Res.start w 64 _ _ rfl).store _).below⟩
end Go.Proofs.YtfmgoehnbaiamaaGreatDoor
-- Plain: a region that asks the tape for its order, whose last operation stores: all others yield their values in every world of a class.
open Go
namespace Alm
section
variable {P : Program} {md : Region.Mode} {C : World → Prop}

/-- The last operation, as one that does nothing. -/
def idle (o : Oper) : Oper := { o with op := .move (.const (.tuple #[])) }

theorem getElem?_last {l : List Oper} {o : Oper} (i : Nat) : (l ++ [o]).toArray[i]? = if i < l.length then l[i]? else if i = l.length then some o else none := by
  simp only [List.getElem?_toArray]
  split
  · rename_i h; exact List.getElem?_append_left h
  · rename_i h
    rw [List.getElem?_append_right (by omega)]
    split
    · rename_i h2; subst h2; simp
    · exact List.getElem?_eq_none (by simp; omega)

theorem ready_idle (l : List Oper) (o : Oper) (listed : Array Bool) : Region.ready md (l ++ [idle o]).toArray listed = Region.ready md (l ++ [o]).toArray listed := by
  unfold Region.ready
  have hs : (l ++ [idle o]).toArray.size = (l ++ [o]).toArray.size := by simp
  rw [hs]
  refine List.filter_congr fun i _ => ?_
  rw [getElem?_last, getElem?_last]
  split
  · rfl
  · split <;> rfl

theorem yielded_idle (l : List Oper) (o : Oper) (t : Array Value) (j : Nat) : yielded (l ++ [idle o]).toArray t j = yielded (l ++ [o]).toArray t j := by
  have h : ((l ++ [idle o]).toArray[j]?).bind (·.dst) = ((l ++ [o]).toArray[j]?).bind (·.dst) := by
    rw [getElem?_last, getElem?_last]
    split
    · rfl
    · split <;> rfl
  unfold yielded
  rw [h]

theorem qOp_idle {l : List Oper} {o : Oper} {i : Nat} (hi : i ≠ l.length) {K : Act → Prop} {a : Act} (h : qOp P (l ++ [idle o]).toArray C i K a) : qOp P (l ++ [o]).toArray C i K a := by
  have he : (l ++ [idle o]).toArray[i]? = (l ++ [o]).toArray[i]? := by rw [getElem?_last, getElem?_last]; simp [hi]
  have hy : yielded (l ++ [idle o]).toArray a.tmps = yielded (l ++ [o]).toArray a.tmps := funext fun j => yielded_idle l o _ j
  unfold qOp at *
  rw [he, hy] at h
  exact h

/-- For each one but the last a later one waits. -/
def waitsAll (md : Region.Mode) (l : List Oper) (o : Oper) : Bool :=
  (List.range l.length).all fun i => (List.range (l.length + 1)).any fun j => decide (i < j) && (((l ++ [o])[j]?).map fun x => x.after.any fun e => Region.binds md e && e.on == i).getD false

/-- What has come up had all that it waits for. -/
def closed (md : Region.Mode) (ops : Array Oper) (listed : Array Bool) : Prop :=
  ∀ i oi, ops[i]? = some oi → listed.getD i false = true → ∀ e ∈ oi.after, Region.binds md e = true → listed.getD e.on false = true

theorem closed_set {ops : Array Oper} {listed : Array Bool} {i : Nat} (h : closed md ops listed) (hr : i ∈ Region.ready md ops listed) : closed md ops (listed.setIfInBounds i true) := by
  intro j oj hj hl e he hb
  by_cases hji : i = j
  · subst hji
    obtain ⟨_, oi, hoi, hall⟩ := mem_ready.1 hr
    rw [hoi] at hj; cases hj
    exact getD_set_true (hall e he hb)
  · rw [getD_set_ne false hji] at hl
    exact getD_set_true (h j oj hj hl e he hb)

theorem all_listed {l : List Oper} {o : Oper} (hw : waitsAll md l o = true) {listed : Array Bool} (hc : closed md (l ++ [o]).toArray listed) (hr : l.length ∈ Region.ready md (l ++ [o]).toArray listed) :
    ∀ j, j < l.length → listed.getD j false = true := by
  have key : ∀ n j, l.length - j ≤ n → j < l.length → listed.getD j false = true := by
    intro n
    induction n with
    | zero => intro j h1 h2; omega
    | succ n ih =>
      intro j h1 h2
      have := List.all_eq_true.1 hw j (by simpa using h2)
      obtain ⟨k, hk, hk2⟩ := List.any_eq_true.1 this
      simp only [Bool.and_eq_true, decide_eq_true_eq] at hk2
      obtain ⟨hjk, hk3⟩ := hk2
      have hk4 : k < l.length + 1 := by simpa using hk
      cases hx : (l ++ [o])[k]? with
      | none => rw [hx] at hk3; cases hk3
      | some x =>
        rw [hx] at hk3
        simp only [Option.map_some, Option.getD_some] at hk3
        rw [← Array.any_toList, List.any_eq_true] at hk3
        obtain ⟨e, he, hbe⟩ := hk3
        rw [Array.mem_toList_iff] at he
        simp only [Bool.and_eq_true, beq_iff_eq] at hbe
        have hxa : (l ++ [o]).toArray[k]? = some x := by rw [List.getElem?_toArray]; exact hx
        by_cases hkl : k = l.length
        · subst hkl
          obtain ⟨_, oi, hoi, hall⟩ := mem_ready.1 hr
          rw [hxa] at hoi; cases hoi
          have := hall e he hbe.1
          rwa [hbe.2] at this
        · have := hc k x hxa (ih k (by omega) (by omega)) e he hbe.1
          rwa [hbe.2] at this
  exact fun j hj => key l.length j (by omega) hj

/-- Each one waits only for those ahead of it. -/
def ahead (md : Region.Mode) (l : List Oper) : Bool := (List.range l.length).all fun i => ((l[i]?).map fun o => o.after.all fun e => !Region.binds md e || decide (e.on < i)).getD true

theorem ready_ne {l : List Oper} (ha : ahead md l = true) {listed : Array Bool} (hs : listed.size = l.length) : ∀ i, i < l.length → listed.getD i true = false → Region.ready md l.toArray listed ≠ [] := by
  intro i
  induction i using Nat.strongRecOn with
  | _ i ih =>
    intro hi hl
    by_cases hall : ((l[i]?).map fun o => o.after.all fun e => !Region.binds md e || listed.getD e.on false).getD false = true
    · intro h0
      have hm : i ∈ Region.ready md l.toArray listed := by
        unfold Region.ready
        rw [List.mem_filter]
        refine ⟨by simpa using hi, ?_⟩
        simp only [hl, Bool.not_false, Bool.true_and]
        simpa using hall
      rw [h0] at hm; cases hm
    · have ho : l[i]? = some l[i] := List.getElem?_eq_getElem hi
      rw [ho] at hall
      simp only [Option.map_some, Option.getD_some] at hall
      rw [Array.all_eq_true_iff_forall_mem] at hall
      have : ∃ e ∈ l[i].after, Region.binds md e = true ∧ listed.getD e.on false = false := by
        refine Classical.byContradiction fun hno => hall fun e he => ?_
        by_cases hb : Region.binds md e = true
        · by_cases hle : listed.getD e.on false = true
          · simp [hle]
          · exact (hno ⟨e, he, hb, by simpa using hle⟩).elim
        · simp [hb]
      obtain ⟨e, he, hb, hle⟩ := this
      have hlt : e.on < i := by
        have := List.all_eq_true.1 ha i (by simpa using hi)
        rw [ho] at this
        simp only [Option.map_some, Option.getD_some] at this
        have := Array.all_eq_true_iff_forall_mem.1 this e he
        simpa [hb] using this
      refine ih e.on hlt (by omega) ?_
      have hlt2 : e.on < listed.size := by omega
      simp [hlt2] at hle ⊢
      exact hle

theorem count_set {listed : Array Bool} {i : Nat} (hi : i < listed.size) (h : listed.getD i true = false) : (listed.setIfInBounds i true).toList.count false + 1 = listed.toList.count false := by
  have hx : listed.toList[i]? = some false := by
    simp [hi] at h; simp [hi, h]
  obtain ⟨l⟩ := listed
  simp only [List.setIfInBounds_toArray] at *
  clear h
  induction l generalizing i with
  | nil => simp at hi
  | cons b r ih =>
    cases i with
    | zero => simp at hx; subst hx; simp
    | succ i =>
      simp only [List.set_cons_succ, List.count_cons]
      have := ih (i := i) (by simpa using hi) (by simpa using hx)
      omega

theorem wpAny_last {l : List Oper} {o : Oper} {Q : Exit → Act → World → Prop} (hd : o.dst = none) (hg : o.guard = none) (hw : waitsAll md l o = true) (ha : ahead md (l ++ [o]) = true) :
    ∀ (fuel : Nat) (listed : Array Bool) (a : Act) (w : World), listed.size = l.length + 1 → listed.toList.count false = fuel → closed md (l ++ [o]).toArray listed → listed.getD l.length true = false → C w →
      wpAnyQ P md (l ++ [idle o]).toArray C (fun a' => ∀ w', C w' → o.wp P a' w' (fun a'' w'' => Q .normal a'' w'') Q) fuel listed a →
      wpAny P md (l ++ [o]).toArray Q fuel listed a w := by
  intro fuel
  induction fuel with
  | zero =>
    intro listed a w hs hc _ hl _ _
    have hi : l.length < listed.size := by omega
    have := count_set hi hl
    omega
  | succ fuel ih =>
    intro listed a w hs hc hcl hl hC h
    have hi : l.length < listed.size := by omega
    refine ⟨fun h0 => (ready_ne (l := l ++ [o]) ha (by simpa using hs) l.length (by simp) hl h0).elim, fun i hr => ?_⟩
    have h1 := h.2 i (by rw [ready_idle]; exact hr)
    obtain ⟨hun, oi, hoi, hall⟩ := mem_ready.1 hr
    have hib : i < listed.size := by
      rcases Nat.lt_or_ge i listed.size with h' | h'
      · exact h'
      · simp [Array.getElem?_eq_none h'] at hun
    have hcs := count_set hib hun
    by_cases hil : i = l.length
    · subst hil
      have hall' := all_listed hw hcl hr
      have hnil : Region.ready md (l ++ [o]).toArray (listed.setIfInBounds l.length true) = [] := by
        rw [List.eq_nil_iff_forall_not_mem]
        intro j hj
        obtain ⟨hjun, oj, hoj, _⟩ := mem_ready.1 hj
        rw [getElem?_last] at hoj
        by_cases hjl : j < l.length
        · have := hall' j hjl
          rw [getD_set_ne true (by omega)] at hjun
          have hjs : j < listed.size := by omega
          simp [hjs] at this hjun
          rw [this] at hjun; cases hjun
        · by_cases hje : j = l.length
          · subst hje
            simp [hi] at hjun
          · simp [hjl, hje] at hoj
      have hop : o.wp P a w (fun a'' w'' => Q .normal a'' w'') Q := by
        have ho : (l ++ [idle o]).toArray[l.length]? = some (idle o) := by rw [getElem?_last]; simp
        unfold qOp at h1
        simp only [ho] at h1
        have hwant : Region.wanted (idle o) (yielded (l ++ [idle o]).toArray a.tmps) = true := by simp [Region.wanted, idle, hg]
        rw [if_pos hwant] at h1
        obtain ⟨v, _, h2⟩ := h1
        have hput : a.put (idle o).dst v = a := by simp [idle, hd, Act.put]
        rw [hput] at h2
        cases fuel with
        | zero => exact h2.2 w hC
        | succ f => exact h2.1 (by rw [ready_idle]; exact hnil) w hC
      have ho : (l ++ [o]).toArray[l.length]? = some o := by rw [getElem?_last]; simp
      unfold wpOp
      simp only [ho]
      rw [if_pos (by simp [Region.wanted, hg])]
      refine .inl (Oper.wp_mono (fun a'' w'' hq => ?_) hop)
      cases fuel with
      | zero => exact ⟨hnil, hq⟩
      | succ f => exact ⟨fun _ => hq, by rw [hnil]; simp⟩
    · refine wpOp_of_qOp hC (fun a' w' hC' hK => ih _ _ _ (by simpa using hs) (by omega) (closed_set hcl hr) ?_ hC' hK) (qOp_idle hil h1)
      rw [getD_set_ne true hil]; exact hl

theorem getD_replicate_false' (n i : Nat) : (Array.replicate n false).getD i false = false := by
  by_cases h : i < n <;> simp [h]

/-- All operations but the last one yield their values in every world of the class; the last one, which waits for all, stores. -/
theorem wp_region_quiet_store {id : Nat} {Q : Exit → Act → World → Prop} {a : Act} {w : World} (l : List Oper) (o : Oper) {L : List Oper} (hL : L = l ++ [o]) (C : World → Prop) (hm : P.follows .mixedOrders = true)
    (hd : o.dst = none) (hg : o.guard = none) (hw : waitsAll .any l o = true) (ha : ahead .any (l ++ [o]) = true) (hB : Region.lexB .any (l ++ [idle o]).toArray = true) (hC : C w.drew)
    (h : wpQuiet P (l ++ [idle o]).toArray C (fun a' => ∀ w', C w' → o.wp P a' w' (fun a'' w'' => Q .normal a'' w'') Q) l a) : (Code.region id L.toArray true).wp P Q a w := by
  subst hL
  simp only [Region.lexB, Bool.and_eq_true] at hB
  refine wp_region_any hm ?_
  have key : wpQuiet P (l ++ [idle o]).toArray C (fun a' => ∀ w', C w' → o.wp P a' w' (fun a'' w'' => Q .normal a'' w'') Q) (l ++ [idle o]) a := by
    have : ∀ (r : List Oper) (a : Act), wpQuiet P (l ++ [idle o]).toArray C (fun a' => ∀ w', C w' → o.wp P a' w' (fun a'' w'' => Q .normal a'' w'') Q) r a →
        wpQuiet P (l ++ [idle o]).toArray C (fun a' => ∀ w', C w' → o.wp P a' w' (fun a'' w'' => Q .normal a'' w'') Q) (r ++ [idle o]) a := by
      intro r
      induction r with
      | nil =>
        intro a h
        show wpQuiet P _ C _ [idle o] a
        unfold wpQuiet
        rw [if_pos (by simp [Region.wanted, idle, hg])]
        refine ⟨.tuple #[], fun w' _ => ?_, ?_⟩
        · unfold Oper.quietAt; exact ⟨rfl, rfl⟩
        · have hput : a.put (idle o).dst (.tuple #[]) = a := by simp [idle, hd, Act.put]
          rw [hput]; exact h
      | cons x r ih =>
        intro a h
        rw [List.cons_append]
        unfold wpQuiet at h ⊢
        split
        · rename_i hx
          rw [if_pos hx] at h
          exact Oper.quiet_mono (fun a' => ih a') h
        · rename_i hx
          rw [if_neg hx] at h
          exact ih _ h
    exact this l a h
  have hq := wpAnyQ_lex (C := C) (md := .any) hB.1 (l ++ [idle o]) 0 (Array.replicate (l ++ [idle o]).toArray.size false) a (by simp) (by simpa using hB.2) key
  have hsz : (l ++ [o]).toArray.size = (l ++ [idle o]).length := by simp
  rw [hsz]
  refine wpAny_last hd hg hw ha _ _ a _ ?_ ?_ ?_ ?_ hC ?_
  · simp
  · simp
  · intro i oi _ h; rw [getD_replicate_false'] at h; cases h
  · simp
  · simpa using hq

/-- The same, for a region that is written out. -/
theorem wp_region_quiet_put {id : Nat} {Q : Exit → Act → World → Prop} {a : Act} {w : World} {L : List Oper} (C : World → Prop) (hm : P.follows .mixedOrders = true) (hne : L ≠ [])
    (hd : (L.getLast hne).dst = none) (hg : (L.getLast hne).guard = none) (hw : waitsAll .any L.dropLast (L.getLast hne) = true) (ha : ahead .any L = true) (hB : Region.lexB .any (L.dropLast ++ [idle (L.getLast hne)]).toArray = true) (hC : C w.drew)
    (h : wpQuiet P (L.dropLast ++ [idle (L.getLast hne)]).toArray C (fun a' => ∀ w', C w' → (L.getLast hne).wp P a' w' (fun a'' w'' => Q .normal a'' w'') Q) L.dropLast a) : (Code.region id L.toArray true).wp P Q a w :=
  wp_region_quiet_store L.dropLast (L.getLast hne) (List.dropLast_concat_getLast hne).symm C hm hd hg hw (by rw [List.dropLast_concat_getLast]; exact ha) hB hC h

/-- One operation of such a walk: its value, in every world of the class. -/
theorem wpQuiet_take {ops : Array Oper} {Q : Act → Prop} {a : Act} {o : Oper} {rest : List Oper} {v : Value} (hg : o.guard = none) (hv : ∀ w, C w → o.quietAt P a C w v) (h : wpQuiet P ops C Q rest (a.put o.dst v)) : wpQuiet P ops C Q (o :: rest) a := by
  unfold wpQuiet
  rw [if_pos (by simp [Region.wanted, hg])]
  exact ⟨v, hv, h⟩
/-- A load of many cells, as one operation of such a walk. -/
theorem quietAt_load_mid {op : Oper} {a : Act} {w : World} (ty : TypeId) (x : Operand) (ho : op.op = .load ty x)
    (b o : Nat) (hx : a.eval x = .pointer (some ⟨b, o, none⟩)) (cs : List Value) (d : TypeDesc) (hc : w.rangeAt b o cs)
    (hu : P.underlying ty = some d) (hd : d.isRow = true) (hi : (P.info? ty).map (·.size) = some cs.length) : op.quietAt P a C w (.agg cs.toArray) := by
  unfold Oper.quietAt execOp
  simp only [ho, hx, Instr.loadAt, Instr.sureAddr, Sem.run_bind, Sem.run_pure, Result.andThen_ok, run_loadVar_mid w b o ty cs d hc hu hd hi]
  exact ⟨rfl, rfl⟩
end
end Alm
