/-
  Joined: BL8, BY3.
-/
import Derived.Test.YtdkcndgehgmadaaGreatDoorBL6
import Derived.Test.YtdkcndgehgmadaaGreatDoorBL7
import Derived.Test.YtdkcndgehgmadaaGreatDoorZAX
import Derived.Test.YtdkcndgehgmadaaGreatDoorSched
import Derived.Deep.AppendLies
import Derived.WalkMore
import Derived.Great.BuildSlice
-- Walks: a Book of sums alone: made, told a list, and whether its lists lie apart.
open Go Go.RowKit Alm
namespace Go.Proofs.YtdkcndgehgmadaaGreatDoor
/-- A Book that holds lists of sums alone. -/
structure SBook (W : World) (base q : Nat) (F : Nat → Value) (H : List Held) (S : Nat → List (List Value)) : Prop where
  bk : Book W q H.length F
  nul : ∀ j, 1 ≤ j → j < 10 → j ≠ 5 → F j = .slice none 0 0
  row : Row3 W 161 base q (F 5) H
  lies : Lies W base 32 H S
  ap : ApartH H q (F 5)
  nums : ∀ i, i < H.length → num H i = i + 1
  lngs : ∀ i, i < H.length → lng H i = .slice none 0 0
  lens : ∀ i, i < H.length → (S i).length < 900000
  bq : base ≤ q
theorem SBook.bs {W : World} {base q : Nat} {F : Nat → Value} {H : List Held} {S : Nat → List (List Value)} (h : SBook W base q F H S) : base ≤ W.heap.size := Nat.le_of_lt (Nat.lt_of_le_of_lt h.bq h.bk.lt)
theorem SBook.keep {X : Nat → Prop} {W W' : World} {base q : Nat} {F : Nat → Value} {H : List Held} {S : Nat → List (List Value)} (h : SBook W base q F H S) (hk : Keeps X W W') (hq : ¬ X q) (hr : ∀ k, (F 5).ownBlock = some k → ¬ X k) (hi : ∀ k, InH H k → ¬ X k) : SBook W' base q F H S :=
  ⟨h.bk.keep hk hq, h.nul, h.row.keep hk hr, h.lies.keep hk hi, h.ap, h.nums, h.lngs, h.lens, h.bq⟩
theorem SBook.below {W W' : World} {base q : Nat} {F : Nat → Value} {H : List Held} {S : Nat → List (List Value)} (h : SBook W base q F H S) (hb : Below W.heap.size W W') : SBook W' base q F H S :=
  h.keep (Keeps.of_below (X := fun _ => False) hb) (fun h => h) (fun _ _ h => h) (fun _ _ h => h)
/-- A block is one of the Book's. -/
def OfBook (q : Nat) (F : Nat → Value) (H : List Held) (k : Nat) : Prop := k = q ∨ (F 5).ownBlock = some k ∨ InH H k
theorem SBook.lt {W : World} {base q : Nat} {F : Nat → Value} {H : List Held} {S : Nat → List (List Value)} (h : SBook W base q F H S) {k : Nat} (hk : OfBook q F H k) : base ≤ k ∧ k < W.heap.size := by
  rcases hk with rfl | hk | ⟨i, hi, hk⟩
  · exact ⟨h.bq, h.bk.lt⟩
  · exact h.row.1.lt k hk
  · exact (h.lies i hi).lt k hk
theorem SBook.keep' {X : Nat → Prop} {W W' : World} {base q : Nat} {F : Nat → Value} {H : List Held} {S : Nat → List (List Value)} (h : SBook W base q F H S) (hk : Keeps X W W') (hx : ∀ k, OfBook q F H k → ¬ X k) : SBook W' base q F H S :=
  h.keep hk (hx q (.inl rfl)) (fun k h => hx k (.inr (.inl h))) (fun k h => hx k (.inr (.inr h)))
theorem hd_append (H : List Held) (x : Held) (i : Nat) : hd (H ++ [x]) i = if i < H.length then hd H i else if i = H.length then x else (.slice none 0 0, .slice none 0 0, 0) := by
  unfold hd
  rw [List.getD_eq_getElem?_getD]
  by_cases h : i < H.length
  · rw [if_pos h, List.getElem?_append_left h, ← List.getD_eq_getElem?_getD]
  · rw [if_neg h, List.getElem?_append_right (by omega)]
    by_cases e : i = H.length
    · rw [if_pos e, e, Nat.sub_self]; rfl
    · rw [if_neg e, List.getElem?_eq_none (by simp; omega)]; rfl
/-- What the lists hold, one more told. -/
def more (H : List Held) (S : Nat → List (List Value)) (xs : List (List Value)) : Nat → List (List Value) := fun i => if i < H.length then S i else xs
theorem sums_tell (va : Option Addr) (vn vc : Nat) (xs : List (List Value)) (base q : Nat) (F : Nat → Value) (H : List Held) (S : Nat → List (List Value)) (w : World) (hb : SBook w base q F H S) (hv : Lie w base 32 (.slice va vn vc) xs) (hx : ∀ k, (Value.slice va vn vc).ownBlock = some k → ¬ OfBook q F H k) (hH : H.length < 90000) (hl : xs.length < 900000) :
    Calls Tryz.prog 15 #[.pointer (some ⟨q, 0, none⟩), .slice va vn vc] w fun e w' => e = .returned (.tuple #[]) ∧ ∃ F', SBook w' base q F' (H ++ [(.slice va vn vc, .slice none 0 0, H.length + 1)]) (more H S xs) ∧ (∀ k, (F' 5).ownBlock = some k → (F 5).ownBlock = some k ∨ w.heap.size ≤ k) ∧ Keeps (fun i => i = q ∨ (F 5).ownBlock = some i) w w' := by
  have hc := keepSum_any va vn vc (F 5) base q H.length F H w hb.bk rfl hb.row hb.bs (by omega) (by omega)
  have HC := Lib.hid hc
  have HB := Lib.hid (And.intro hb (And.intro hv (And.intro hx hl)))
  clear hc hb hv hx hH hl
  go_enter Tryz.func15, Tryz.ntmps15
  go_wp2_with (go_at_call 71; refine HC.out.mono ?_; rintro e w2 ⟨rfl, hv', hbk, hrow, hblk, hk⟩)
  have hb := HB.out.1
  refine bodyPost_end (results_none rfl _ _ _) rfl ⟨rfl, put F 5 hv', ⟨?_, ?_, ?_, ?_, ?_, ?_, ?_, ?_, hb.bq⟩, ?_, hk⟩
  · rw [List.length_append]; exact hbk
  · intro j h1 h2 h3
    rw [put_other _ _ h3]
    exact hb.nul j h1 h2 h3
  · rw [put_self]; exact hrow
  · intro i hi
    have hin : ∀ k, InH H k → ¬ (k = q ∨ (F 5).ownBlock = some k) := fun k ⟨j, hj, hk2⟩ e => by
      rcases e with e | e
      · exact (hb.ap j hj k hk2).1 e
      · exact (hb.ap j hj k hk2).2.1 e
    unfold lst more
    rw [hd_append]
    by_cases h : i < H.length
    · rw [if_pos h, if_pos h]
      exact (hb.lies i h).keep hk (fun k hk2 => hin k ⟨i, h, hk2⟩)
    · rw [if_neg h, if_pos (by rw [List.length_append, List.length_singleton] at hi; omega), if_neg h]
      exact HB.out.2.1.keep hk (fun k hk2 e => HB.out.2.2.1 k hk2 (by
        rcases e with e | e
        · exact .inl e
        · exact .inr (.inl e)))
  · intro i hi g hg
    rw [put_self]
    unfold lst at hg ⊢
    rw [hd_append] at hg
    have hx := HB.out.2.2.1
    have hq : g ≠ q ∧ g < w.heap.size ∧ (F 5).ownBlock ≠ some g := by
      by_cases h : i < H.length
      · rw [if_pos h] at hg
        exact ⟨(hb.ap i h g hg).1, ((hb.lies i h).lt g hg).2, (hb.ap i h g hg).2.1⟩
      · rw [if_neg h, if_pos (by rw [List.length_append, List.length_singleton] at hi; omega)] at hg
        exact ⟨fun e => hx g hg (.inl e), (HB.out.2.1.lt g hg).2, fun e => hx g hg (.inr (.inl e))⟩
    refine ⟨hq.1, fun e => ?_, fun j hj hne => ?_⟩
    · rcases hblk g e with h | h
      · exact hq.2.2 h
      · have := hq.2.1; omega
    · rw [hd_append]
      by_cases h : i < H.length
      · rw [if_pos h] at hg
        by_cases h2 : j < H.length
        · rw [if_pos h2]; exact (hb.ap i h g hg).2.2 j h2 hne
        · rw [if_neg h2, if_pos (by rw [List.length_append, List.length_singleton] at hj; omega)]
          intro e
          exact hx g e (.inr (.inr ⟨i, h, hg⟩))
      · rw [if_neg h, if_pos (by rw [List.length_append, List.length_singleton] at hi; omega)] at hg
        by_cases h2 : j < H.length
        · rw [if_pos h2]
          intro e
          exact hx g hg (.inr (.inr ⟨j, h2, e⟩))
        · rw [List.length_append, List.length_singleton] at hi hj; omega
  · intro i hi
    unfold Alm.num
    rw [hd_append]
    by_cases h : i < H.length
    · rw [if_pos h]; exact hb.nums i h
    · rw [List.length_append, List.length_singleton] at hi
      rw [if_neg h, if_pos (by omega)]
      show H.length + 1 = i + 1
      omega
  · intro i hi
    unfold Alm.lng
    rw [hd_append]
    by_cases h : i < H.length
    · rw [if_pos h]; exact hb.lngs i h
    · rw [List.length_append, List.length_singleton] at hi
      rw [if_neg h, if_pos (by omega)]
  · intro i hi
    unfold more
    by_cases h : i < H.length
    · rw [if_pos h]; exact hb.lens i h
    · rw [if_neg h]; exact HB.out.2.2.2
  · rw [put_self]; exact hblk
/-- A new Book. -/
theorem sbook_new (w : World) (base : Nat) (hb : base ≤ w.heap.size) : SBook (w.alloc (.cells #[.int .i64 0, .slice none 0 0, .slice none 0 0, .slice none 0 0, .slice none 0 0, .slice none 0 0, .slice none 0 0, .slice none 0 0, .slice none 0 0, .slice none 0 0] 44)) base w.heap.size (fun _ => .slice none 0 0) [] (fun _ => []) := by
  have hr := range_new w #[.int .i64 0, .slice none 0 0, .slice none 0 0, .slice none 0 0, .slice none 0 0, .slice none 0 0, .slice none 0 0, .slice none 0 0, .slice none 0 0, .slice none 0 0] 44 _ rfl
  have ht := there_new w #[.int .i64 0, .slice none 0 0, .slice none 0 0, .slice none 0 0, .slice none 0 0, .slice none 0 0, .slice none 0 0, .slice none 0 0, .slice none 0 0, .slice none 0 0] 44
  refine ⟨⟨ht, hr 0 _ rfl, fun j h1 h2 => ?_⟩, fun _ _ _ _ => rfl, ⟨World.ownsRow_nil _ _ _ _, by simp [Value.ownBlock]⟩, fun i hi => by simp at hi, fun i hi => by simp at hi, fun i hi => by simp at hi, fun i hi => by simp at hi, fun i hi => by simp at hi, hb⟩
  have := hr j (.slice none 0 0) (by
    match j, h1, h2 with
    | 1, _, _ | 2, _, _ | 3, _, _ | 4, _, _ | 5, _, _ | 6, _, _ | 7, _, _ | 8, _, _ | 9, _, _ => rfl)
  rwa [Nat.zero_add] at this
set_option maxRecDepth 100000 in
theorem apart_sums (base q : Nat) (F : Nat → Value) (H : List Held) (S : Nat → List (List Value)) (w : World) (hb : SBook w base q F H S) (hH : H.length < 255) :
    Calls Tryz.prog 16 #[.pointer (some ⟨q, 0, none⟩)] w fun e w' => e = .returned (.bool true) ∧ Keeps (OfBook q F H) w w' := by
  have HB := Lib.hid hb
  have hN : ∀ i, i < H.length → num H i < 256 := fun i hi => by rw [hb.nums i hi]; omega
  have HN := Lib.hid (And.intro hN hH)
  have H1 := Lib.hid (fillSum_any base q H.length (F 5) F H S w hb.bk rfl hb.row hb.lies hb.ap hN (fun i hi => Nat.lt_trans (hb.lens i hi) (by decide)) (by omega) hb.lngs)
  have b0 := HB.out.bk
  clear hb hN hH
  have HB0 := Lib.hid b0
  clear b0
  go_enter Tryz.func16, Tryz.ntmps16
  go_wp2_with (first
    | (go_at_call 72; refine (fillByte_nil q _ F _ HB0.out (HB.out.nul 1 (by omega) (by omega) (by omega))).mono ?_; rintro e w1 ⟨rfl, rfl⟩)
    | (go_at_call 73; refine (fillInt_nil q _ F _ HB0.out (HB.out.nul 2 (by omega) (by omega) (by omega))).mono ?_; rintro e w1 ⟨rfl, rfl⟩)
    | (go_at_call 74; refine (fillText_nil q _ F _ HB0.out (HB.out.nul 3 (by omega) (by omega) (by omega))).mono ?_; rintro e w1 ⟨rfl, rfl⟩)
    | (go_at_call 75; refine (fillByteList_nil q _ F _ HB0.out (HB.out.nul 4 (by omega) (by omega) (by omega))).mono ?_; rintro e w1 ⟨rfl, rfl⟩)
    | (go_at_call 76; refine H1.out.mono ?_; rintro e w1 ⟨rfl, hl1, hk1⟩; refine Hid.out ?_))
  refine Lib.hid ?_
  have HB1 := Lib.hid (HB.out.bk.keep hk1 (not_in HB.out.ap))
  have hr1 := HB.out.row.keep hk1 (not_row HB.out.ap)
  have H2 := Lib.hid (growSum_any base q H.length (F 5) F H (filled mkC H S) w1 HB1.out rfl hr1 hl1 HB.out.ap HN.out.1 (fun i hi => by rw [filled_len]; exact HB.out.lens i hi) (by have := HN.out.2; omega) HB.out.lngs (Nat.le_trans HB.out.bs hk1.size))
  have HK1 := Lib.hid hk1
  clear hk1 hr1 hl1 H1
  go_wp2_with (first
    | (go_at_call 77; refine (fillPair_nil q _ F _ HB1.out (HB.out.nul 6 (by omega) (by omega) (by omega))).mono ?_; rintro e w2 ⟨rfl, rfl⟩)
    | (go_at_call 78; refine (fillTenant_nil q _ F _ HB1.out (HB.out.nul 7 (by omega) (by omega) (by omega))).mono ?_; rintro e w2 ⟨rfl, rfl⟩)
    | (go_at_call 79; refine (fillLease_nil q _ F _ HB1.out (HB.out.nul 8 (by omega) (by omega) (by omega))).mono ?_; rintro e w2 ⟨rfl, rfl⟩)
    | (go_at_call 80; refine (fillEvent_nil q _ F _ HB1.out (HB.out.nul 9 (by omega) (by omega) (by omega))).mono ?_; rintro e w2 ⟨rfl, rfl⟩)
    | (go_at_call 81; refine (growByte_nil q _ F _ HB1.out (HB.out.nul 1 (by omega) (by omega) (by omega))).mono ?_; rintro e w2 ⟨rfl, rfl⟩)
    | (go_at_call 82; refine (growInt_nil q _ F _ HB1.out (HB.out.nul 2 (by omega) (by omega) (by omega))).mono ?_; rintro e w2 ⟨rfl, rfl⟩)
    | (go_at_call 83; refine (growText_nil q _ F _ HB1.out (HB.out.nul 3 (by omega) (by omega) (by omega))).mono ?_; rintro e w2 ⟨rfl, rfl⟩)
    | (go_at_call 84; refine (growByteList_nil q _ F _ HB1.out (HB.out.nul 4 (by omega) (by omega) (by omega))).mono ?_; rintro e w2 ⟨rfl, rfl⟩)
    | (go_at_call 85; refine H2.out.mono ?_; rintro e w2 ⟨rfl, L, hG⟩; refine Hid.out ?_))
  refine Lib.hid ?_
  have HB2 := Lib.hid hG.book
  have hlk : ∀ i, i < H.length → lst (longTo H L H.length) i = lst H i ∧ lng (longTo H L H.length) i = L i ∧ num (longTo H L H.length) i = num H i := fun i hi => by
    unfold lst lng num
    rw [hd_longTo H L _ i hi, if_pos hi]
    exact ⟨rfl, rfl, rfl⟩
  have hll := length_longTo H L H.length
  have H3 := Lib.hid (lookSum_any base q H.length (F 5) F (longTo H L H.length) (fun i => (S i).length) w2 HB2.out rfl hG.row (fun i hi => by
      rw [hll] at hi
      rw [(hlk i hi).1, (hlk i hi).2.2]
      exact hG.lies i hi) (fun i hi => by
      rw [hll] at hi
      rw [(hlk i hi).2.1, (hlk i hi).2.2]
      have := (hG.long i hi hi).1
      rwa [filled, List.replicate_append_replicate] at this) (fun i hi => by
      rw [hll] at hi
      rw [(hlk i hi).2.2]
      exact HN.out.1 i hi) (fun i hi => by
      rw [hll] at hi
      exact HB.out.lens i hi) (by rw [hll]; have := HN.out.2; omega))
  have HK2 := Lib.hid hG.keep
  clear hG hlk hll H2
  go_wp2_with (first
    | (go_at_call 86; refine (growPair_nil q _ F _ HB2.out (HB.out.nul 6 (by omega) (by omega) (by omega))).mono ?_; rintro e w3 ⟨rfl, rfl⟩)
    | (go_at_call 87; refine (growTenant_nil q _ F _ HB2.out (HB.out.nul 7 (by omega) (by omega) (by omega))).mono ?_; rintro e w3 ⟨rfl, rfl⟩)
    | (go_at_call 88; refine (growLease_nil q _ F _ HB2.out (HB.out.nul 8 (by omega) (by omega) (by omega))).mono ?_; rintro e w3 ⟨rfl, rfl⟩)
    | (go_at_call 89; refine (growEvent_nil q _ F _ HB2.out (HB.out.nul 9 (by omega) (by omega) (by omega))).mono ?_; rintro e w3 ⟨rfl, rfl⟩)
    | (go_at_call 90; refine (lookByte_nil q _ F _ HB2.out (HB.out.nul 1 (by omega) (by omega) (by omega))).mono ?_; rintro e w3 ⟨rfl, rfl⟩)
    | (go_at_call 91; refine (lookInt_nil q _ F _ HB2.out (HB.out.nul 2 (by omega) (by omega) (by omega))).mono ?_; rintro e w3 ⟨rfl, rfl⟩)
    | (go_at_call 92; refine (lookText_nil q _ F _ HB2.out (HB.out.nul 3 (by omega) (by omega) (by omega))).mono ?_; rintro e w3 ⟨rfl, rfl⟩)
    | (go_at_call 93; refine (lookByteList_nil q _ F _ HB2.out (HB.out.nul 4 (by omega) (by omega) (by omega))).mono ?_; rintro e w3 ⟨rfl, rfl⟩)
    | (go_at_call 94; refine H3.out.mono ?_; rintro e w3 ⟨rfl, hb3⟩; refine Hid.out ?_))
  refine Lib.hid ?_
  have HB3 := Lib.hid (HB2.out.below hb3)
  have HK3 := Lib.hid ((HK1.out.mono (Y := OfBook q F H) fun k h => .inr (.inr h)).trans ((HK2.out.mono (Y := OfBook q F H) fun k h => by
    rcases h with h | h
    · exact .inr (.inr h)
    · exact .inr (.inl h)).trans (Keeps.of_below hb3)))
  clear hb3 H3
  go_wp2_with (first
    | (go_at_call 95; refine (lookPair_nil q _ F _ HB3.out (HB.out.nul 6 (by omega) (by omega) (by omega))).mono ?_; rintro e w4 ⟨rfl, rfl⟩)
    | (go_at_call 96; refine (lookTenant_nil q _ F _ HB3.out (HB.out.nul 7 (by omega) (by omega) (by omega))).mono ?_; rintro e w4 ⟨rfl, rfl⟩)
    | (go_at_call 97; refine (lookLease_nil q _ F _ HB3.out (HB.out.nul 8 (by omega) (by omega) (by omega))).mono ?_; rintro e w4 ⟨rfl, rfl⟩)
    | (go_at_call 98; refine (lookEvent_nil q _ F _ HB3.out (HB.out.nul 9 (by omega) (by omega) (by omega))).mono ?_; rintro e w4 ⟨rfl, rfl⟩))
  exact bodyPost_ret (results_tmp rfl _ _ _) rfl ⟨rfl, HK3.out⟩
end Go.Proofs.YtdkcndgehgmadaaGreatDoor
-- Walk: a Book keeps a list of bytes (keepByte).
open Go Go.RowKit Alm
namespace Go.Proofs.YtdkcndgehgmadaaGreatDoor
theorem info_heldB : ∃ i z, Tryz.prog.info? 163 = some i ∧ i.zero = some z ∧ i.size = 3 ∧ i.bytes = 56 ∧ z.cells.size = 3 := by
  have h : (Tryz.prog.info? 163).map (fun i => (i.zero.map fun z => z.cells.size, i.size, i.bytes)) = some (some 3, 3, 56) := by kernel_rfl
  obtain ⟨i, hi, h2⟩ := Option.map_eq_some_iff.1 h
  simp only [Prod.mk.injEq] at h2
  obtain ⟨z, hz, hz2⟩ := Option.map_eq_some_iff.1 h2.1
  exact ⟨i, z, hi, hz, h2.2.1, h2.2.2, hz2⟩
theorem wp_lit_heldB {w : World} {o : Oper} {a : Act} {K : Act → World → Prop} {Q : Exit → Act → World → Prop} (x : Operand) (ho : o.op = .buildSlice 34 1 #[(0, x)]) (s : Held) (hx : a.eval x = .agg (cellsH s).toArray)
    (h : K (a.put o.dst (.slice (some ⟨w.heap.size, 0, none⟩) 1 1)) (w.alloc (.cells (cellsH s).toArray 163))) : o.wp Tryz.prog a w K Q := by
  obtain ⟨i, z, hi, hz, hs, hb, hzs⟩ := info_heldB
  refine wp_buildSlice _ 163 1 _ ho (cellsH s).toArray i z Tryz.underlying34 hi hz (by rw [hs]; omega) (by rw [hs]; omega) ?_ h
  have hp : ((#[(0, x)] : Array (Nat × Operand)).toList.map fun (i, x) => (i, a.eval x)) = (([(.agg (cellsH s).toArray : Value)]).zipIdx 0).map fun x => (x.2, x.1) := by simp [hx]
  rw [Array.toList_map, hp, hs, Great.fill_whole (s := 3) (by omega) [(.agg (cellsH s).toArray : Value)] _ (fun v hv => by rw [List.mem_singleton.1 hv]; simp [Value.cells, length_cellsH]) (by simp)]
  simp [Value.cells]
theorem wp_append_heldB {w : World} {o : Oper} {a : Act} {K : Act → World → Prop} {Q : Exit → Act → World → Prop} (s x : Operand)
    (ho : o.op = .call { callee := .builtin .append, args := #[s, x], argTypes := #[34, 34] })
    (base : Nat) (v : Value) (l : List Held) (n : Nat) (hn : l.length = n) (hs : a.eval s = v) (hown : w.ownsRow base 163 3 v n (cellsHs l))
    (b off c : Nat) (y : Held) (hy1 : y.1.oneCell' = true) (hy2 : y.2.1.oneCell' = true) (hx : a.eval x = .slice (some ⟨b, off, none⟩) 1 c) (hr : w.rangeAt b off (cellsH y)) (hl : n < 1000000) (hB : base ≤ w.heap.size)
    (h : ∀ g cap w', w'.ownsRow base 163 3 (.slice (some ⟨g, 0, none⟩) (n + 1) cap) (n + 1) (cellsHs (l ++ [y])) → w.grownBy w' v.ownBlock → (v.ownBlock = some g ∨ g = w.heap.size) → g < w'.heap.size → K (a.put o.dst (.slice (some ⟨g, 0, none⟩) (n + 1) cap)) w') : o.wp Tryz.prog a w K Q := by
  obtain ⟨i, z, hi, hz, h1, h2, h3⟩ := info_heldB
  refine wp_append_lies w s x _ ho base _ i z 3 56 Tryz.underlying34 hi hz h1 h2 h3 (by omega) v n (cellsHs l) hs hown ⟨b, off, none⟩ 1 c (cellsH y) hx (by rw [length_cellsH]) (fun j u hj => by rw [Addr.add_mid]; exact hr j u hj) (fun u hu => by
    unfold cellsH at hu
    simp only [List.mem_cons, List.not_mem_nil, or_false] at hu
    rcases hu with rfl | rfl | rfl
    · exact hy1
    · exact hy2
    · rfl) (by omega) (by unfold maxLen; omega) (by omega) hB w.heap.size rfl ?_
  intro g cap w' ho' hg hat hlt
  refine h g cap w' ?_ hg hat hlt
  rw [cellsHs_append, cellsHs_one]; exact ho'
set_option maxRecDepth 100000 in
set_option maxHeartbeats 1000000 in
theorem keepByte_any (va : Option Addr) (vn vc : Nat) (hv : Value) (base q n : Nat) (F : Nat → Value) (H : List Held) (w : World) (hb : Book w q n F) (hF : F 1 = hv) (hr : Row3 w 163 base q hv H) (hbs : base ≤ w.heap.size) (hn : n < 100000) (hH : H.length < 100000) :
    Calls Tryz.prog 118 #[.pointer (some ⟨q, 0, none⟩), .slice va vn vc] w fun e w' => e = .returned (.tuple #[]) ∧ ∃ hv', Book w' q (n + 1) (put F 1 hv') ∧ Row3 w' 163 base q hv' (H ++ [(.slice va vn vc, .slice none 0 0, n + 1)]) ∧ (∀ k, hv'.ownBlock = some k → hv.ownBlock = some k ∨ w.heap.size ≤ k) ∧ Keeps (fun i => i = q ∨ hv.ownBlock = some i) w w' := by
  have g1 := hb.cn
  have hf : w.frozen? ⟨q, 0, none⟩ = false := (hb.th 0 (by omega)).2
  obtain ⟨m, hm⟩ : ∃ m : Int, m = ((n + 1 : Nat) : Int) := ⟨_, rfl⟩
  have hw : wrap64 m = m := by rw [hm]; unfold wrap64; omega
  have hw2 : (n : Int) + 1 = m := by rw [hm]; rfl
  have hb1 := hb.count (n + 1)
  have hk1 := keepsC q [.int .i64 ((n + 1 : Nat) : Int)] 0 w
  rw [← hm] at hb1 hk1
  change Keeps _ _ (w.setCell ⟨q, 0, none⟩ (.int .i64 m)) at hk1
  have hr1 : Row3 (w.setCell ⟨q, 0, none⟩ (.int .i64 m)) 163 base q hv H := hr.keep hk1 (fun k hk e => hr.2 (by rw [hk, e]))
  have H1 := Lib.hid (And.intro hb1 (And.intro (hk1.mono (Y := fun i => i = q ∨ hv.ownBlock = some i) fun k h => .inl h) (And.intro hr1 (Nat.le_trans hbs hk1.size))))
  have HM := Lib.hid hm
  have HV := Lib.hid (And.intro hH (And.intro hr.2 hF))
  have HW0 := Lib.hid hk1.size
  clear hb hb1 hk1 hm hH hn hr hr1 hF hbs
  go_enter Tryz.func118, Tryz.ntmps118
  go_wp2_with fail
  generalize w.setCell ⟨q, 0, none⟩ (.int .i64 m) = w1 at *
  clear g1 hf hw hw2
  have hd := (Below.refl w1.heap.size w1).drew
  have H2 := Lib.hid (And.intro (H1.out.1.below hd) (And.intro (H1.out.2.1.trans (Keeps.of_below hd)) (And.intro (H1.out.2.2.1.below hd) (And.intro H1.out.2.2.2 HW0.out))))
  clear hd H1 HW0
  refine wp_region_sched (fun V => Below w1.drew.heap.size w1.drew V) [.t 0, .t 1, .t 2, .t 3, .t 5, .t 6, .t 7, .t 8, .s 4, .e 9 true, .t 10, .e 11 true, .e 12 false, .t 13, .t 14, .e 15 false] (by kernel_rfl) (by kernel_rfl) (by intro c a d v w h; cases d <;> exact h) ?_
  change wpS _ _ _ _ _ _ _ w1.drew
  have hsz : w1.drew.heap.size = w1.heap.size := rfl
  rw [← hsz] at H2
  clear hsz
  generalize w1.drew = V at *
  iterate 8
    refine wpS_t rfl (v := ?_) (by rfl) (fun W => ?_) ?_
    rotate_left
    · go_simp
      try rfl
    try simp only [Act.put, List.setIfInBounds_toArray, List.set_cons_zero, List.set_cons_succ]
  refine wpS_s (Below.refl _ _) rfl (v := hv) (by rfl) (fun W hW => ?_) ?_
  · have g : W.cell? ⟨q, 1, none⟩ = some hv := by rw [← HV.out.2.2]; exact (Keeps.of_below (X := fun _ => False) hW).cell (H2.out.1.cs 1 (by omega) (by omega)) (fun h => h)
    go_simp
  try simp only [Act.put, List.setIfInBounds_toArray, List.set_cons_zero, List.set_cons_succ]
  refine wpS_k rfl (by rfl) (fun K hK => ?_)
  have g := H2.out.1.cn
  rw [← HM.out] at g
  go_simp
  refine hK _ _ ⟨Below.refl _ _, ?_⟩; clear hK K
  try simp only [Act.put, List.setIfInBounds_toArray, List.set_cons_zero, List.set_cons_succ]
  clear g
  iterate 1
    refine wpS_t rfl (v := ?_) (by rfl) (fun W => ?_) ?_
    rotate_left
    · go_simp
      try rfl
    try simp only [Act.put, List.setIfInBounds_toArray, List.set_cons_zero, List.set_cons_succ]
  refine wpS_k rfl (by rfl) (fun K hK => ?_)
  refine wp_lit_heldB _ rfl (.slice va vn vc, .slice none 0 0, n + 1) (by rw [cellsH, ← HM.out]; rfl) ?_
  have hb3 := al (Below.refl V.heap.size V) (.cells (cellsH (.slice va vn vc, .slice none 0 0, n + 1)).toArray 163)
  have hr3 := range_new V (cellsH (.slice va vn vc, .slice none 0 0, n + 1)).toArray 163 _ rfl
  have H3 := Lib.hid (And.intro hb3 hr3)
  clear hb3 hr3
  refine hK _ _ ⟨by exact H3.out.1, ?_⟩; clear hK K
  try simp only [Act.put, List.setIfInBounds_toArray, List.set_cons_zero, List.set_cons_succ]
  generalize V.alloc (.cells (cellsH (.slice va vn vc, .slice none 0 0, n + 1)).toArray 163) = V3 at *
  refine wpS_e rfl (by rfl) (fun K hK => ?_)
  have hown3 : V3.ownsRow base 163 3 hv H.length (cellsHs H) := (H2.out.2.2.1.below H3.out.1).1
  refine wp_append_heldB _ _ (by rfl) base hv H H.length rfl (by rfl) hown3 V.heap.size 0 1 (.slice va vn vc, .slice none 0 0, n + 1) rfl rfl (by rfl) H3.out.2 (by have := HV.out.1; omega) (Nat.le_trans (Nat.le_trans H2.out.2.2.2.1 (Nat.le_refl _)) H3.out.1.size) ?_
  intro g cap W4 ho hg hat hlt
  have hq3 : q < V.heap.size := H2.out.1.lt
  have hk4 : Keeps (fun i => hv.ownBlock = some i) V3 W4 := Keeps.of_grown hg (fun k hk => hk)
  have hgq : g ≠ q := by
    intro e
    rcases hat with h | h
    · exact HV.out.2.1 (by rw [h, e])
    · have := H3.out.1.size
      omega
  have hgB : hv.ownBlock = some g ∨ V.heap.size ≤ g := by
    rcases hat with h | h
    · exact .inl h
    · exact .inr (by rw [h]; exact H3.out.1.size)
  have hkV : Keeps (fun i => hv.ownBlock = some i) V W4 := (Keeps.of_below H3.out.1).trans hk4
  have hbk4 : Book W4 q (n + 1) F := H2.out.1.keep hkV (fun h => HV.out.2.1 h)
  have H4 := Lib.hid (And.intro ho (And.intro hgq (And.intro hbk4 (And.intro hgB hkV))))
  clear hown3 hg hat hlt hq3 hk4 hgq hkV hbk4 hgB ho
  refine hK _ _ ?_; clear hK K
  try simp only [Act.put, List.setIfInBounds_toArray, List.set_cons_zero, List.set_cons_succ]
  iterate 2
    refine wpS_t rfl (v := ?_) (by rfl) (fun W => ?_) ?_
    rotate_left
    · go_simp
      try rfl
    try simp only [Act.put, List.setIfInBounds_toArray, List.set_cons_zero, List.set_cons_succ]
  refine wpS_e rfl (by rfl) (fun K hK => ?_)
  have hf : W4.frozen? ⟨q, 1, none⟩ = false := (H4.out.2.2.1.th 1 (by omega)).2
  have hu5 := H4.out.2.2.1.cs 1 (by omega) (by omega)
  go_simp
  refine hK _ _ ?_; clear hK K
  try simp only [Act.put, List.setIfInBounds_toArray, List.set_cons_zero, List.set_cons_succ]
  clear hf hu5
  refine wpS_done ?_
  go_wp2_with fail
  have hbk := H4.out.2.2.1.list (k := 1) (by omega) (by omega) (.slice (some ⟨g, 0, none⟩) (H.length + 1) cap)
  have hk5 := (H4.out.2.2.2.2.mono (Y := fun i => i = q ∨ hv.ownBlock = some i) fun k h => .inr h).trans ((keepsC q [.slice (some ⟨g, 0, none⟩) (H.length + 1) cap] 1 W4).mono fun k h => .inl h)
  have hkq := keepsC q [.slice (some ⟨g, 0, none⟩) (H.length + 1) cap] 1 W4
  refine bodyPost_end (results_none rfl _ _ _) rfl ⟨rfl, _, hbk, ⟨?_, fun h => H4.out.2.1 (by simpa [Value.ownBlock] using h)⟩, fun k hk => ?_, H2.out.2.1.trans hk5⟩
  · have ho5 := hkq.owns H4.out.1 (fun k hk e => H4.out.2.1 (by rw [← e]; simpa [Value.ownBlock] using hk))
    rw [List.length_append]
    exact ho5
  · obtain rfl : g = k := by simpa [Value.ownBlock] using hk
    rcases H4.out.2.2.2.1 with h | h
    · exact .inl h
    · exact .inr (Nat.le_trans H2.out.2.2.2.2 h)
end Go.Proofs.YtdkcndgehgmadaaGreatDoor
