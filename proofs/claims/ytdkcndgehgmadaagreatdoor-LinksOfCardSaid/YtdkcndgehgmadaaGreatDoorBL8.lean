/-
  Walks: a Book of sums alone: made, told a list, and whether its lists lie apart.
-/
import Derived.Test.YtdkcndgehgmadaaGreatDoorBL6
import Derived.Test.YtdkcndgehgmadaaGreatDoorBL7
open Go Go.RowKit Alm
namespace Go.Proofs.YtdkcndgehgmadaaGreatDoor
/-- A Book that holds lists of sums alone. -/
structure SBook (W : World) (base q : Nat) (F : Nat → Value) (H : List Held) (S : Nat → List (List Value)) : Prop where
  bk : Book W q H.length F
  nul : ∀ j, 1 ≤ j → j < 10 → j ≠ 5 → F j = .slice none 0 0
  row : Row3 W 161 base q (F 5) H
  lies : Lies W base 32 H S
  ap : ApartH H q (F 5)
  nums : ∀ i, i < H.length → num H i = i + 1
  lngs : ∀ i, i < H.length → lng H i = .slice none 0 0
  lens : ∀ i, i < H.length → (S i).length < 900000
  bq : base ≤ q
theorem SBook.bs {W : World} {base q : Nat} {F : Nat → Value} {H : List Held} {S : Nat → List (List Value)} (h : SBook W base q F H S) : base ≤ W.heap.size := Nat.le_of_lt (Nat.lt_of_le_of_lt h.bq h.bk.lt)
theorem SBook.keep {X : Nat → Prop} {W W' : World} {base q : Nat} {F : Nat → Value} {H : List Held} {S : Nat → List (List Value)} (h : SBook W base q F H S) (hk : Keeps X W W') (hq : ¬ X q) (hr : ∀ k, (F 5).ownBlock = some k → ¬ X k) (hi : ∀ k, InH H k → ¬ X k) : SBook W' base q F H S :=
  ⟨h.bk.keep hk hq, h.nul, h.row.keep hk hr, h.lies.keep hk hi, h.ap, h.nums, h.lngs, h.lens, h.bq⟩
theorem SBook.below {W W' : World} {base q : Nat} {F : Nat → Value} {H : List Held} {S : Nat → List (List Value)} (h : SBook W base q F H S) (hb : Below W.heap.size W W') : SBook W' base q F H S :=
  h.keep (Keeps.of_below (X := fun _ => False) hb) (fun h => h) (fun _ _ h => h) (fun _ _ h => h)
/-- A block is one of the Book's. -/
def OfBook (q : Nat) (F : Nat → Value) (H : List Held) (k : Nat) : Prop := k = q ∨ (F 5).ownBlock = some k ∨ InH H k
theorem SBook.lt {W : World} {base q : Nat} {F : Nat → Value} {H : List Held} {S : Nat → List (List Value)} (h : SBook W base q F H S) {k : Nat} (hk : OfBook q F H k) : base ≤ k ∧ k < W.heap.size := by
  rcases hk with rfl | hk | ⟨i, hi, hk⟩
  · exact ⟨h.bq, h.bk.lt⟩
  · exact h.row.1.lt k hk
  · exact (h.lies i hi).lt k hk
theorem SBook.keep' {X : Nat → Prop} {W W' : World} {base q : Nat} {F : Nat → Value} {H : List Held} {S : Nat → List (List Value)} (h : SBook W base q F H S) (hk : Keeps X W W') (hx : ∀ k, OfBook q F H k → ¬ X k) : SBook W' base q F H S :=
  h.keep hk (hx q (.inl rfl)) (fun k h => hx k (.inr (.inl h))) (fun k h => hx k (.inr (.inr h)))
theorem hd_append (H : List Held) (x : Held) (i : Nat) : hd (H ++ [x]) i = if i < H.length then hd H i else if i = H.length then x else (.slice none 0 0, .slice none 0 0, 0) := by
  unfold hd
  rw [List.getD_eq_getElem?_getD]
  by_cases h : i < H.length
  · rw [if_pos h, List.getElem?_append_left h, ← List.getD_eq_getElem?_getD]
  · rw [if_neg h, List.getElem?_append_right (by omega)]
    by_cases e : i = H.length
    · rw [if_pos e, e, Nat.sub_self]; rfl
    · rw [if_neg e, List.getElem?_eq_none (by simp; omega)]; rfl
/-- What the lists hold, one more told. -/
def more (H : List Held) (S : Nat → List (List Value)) (xs : List (List Value)) : Nat → List (List Value) := fun i => if i < H.length then S i else xs
theorem sums_tell (va : Option Addr) (vn vc : Nat) (xs : List (List Value)) (base q : Nat) (F : Nat → Value) (H : List Held) (S : Nat → List (List Value)) (w : World) (hb : SBook w base q F H S) (hv : Lie w base 32 (.slice va vn vc) xs) (hx : ∀ k, (Value.slice va vn vc).ownBlock = some k → ¬ OfBook q F H k) (hH : H.length < 90000) (hl : xs.length < 900000) :
    Calls Tryz.prog 15 #[.pointer (some ⟨q, 0, none⟩), .slice va vn vc] w fun e w' => e = .returned (.tuple #[]) ∧ ∃ F', SBook w' base q F' (H ++ [(.slice va vn vc, .slice none 0 0, H.length + 1)]) (more H S xs) ∧ (∀ k, (F' 5).ownBlock = some k → (F 5).ownBlock = some k ∨ w.heap.size ≤ k) ∧ Keeps (fun i => i = q ∨ (F 5).ownBlock = some i) w w' := by
  have hc := keepSum_any va vn vc (F 5) base q H.length F H w hb.bk rfl hb.row hb.bs (by omega) (by omega)
  have HC := Lib.hid hc
  have HB := Lib.hid (And.intro hb (And.intro hv (And.intro hx hl)))
  clear hc hb hv hx hH hl
  go_enter Tryz.func15, Tryz.ntmps15
  go_wp2_with (go_at_call 71; refine HC.out.mono ?_; rintro e w2 ⟨rfl, hv', hbk, hrow, hblk, hk⟩)
  have hb := HB.out.1
  refine bodyPost_end (results_none rfl _ _ _) rfl ⟨rfl, put F 5 hv', ⟨?_, ?_, ?_, ?_, ?_, ?_, ?_, ?_, hb.bq⟩, ?_, hk⟩
  · rw [List.length_append]; exact hbk
  · intro j h1 h2 h3
    rw [put_other _ _ h3]
    exact hb.nul j h1 h2 h3
  · rw [put_self]; exact hrow
  · intro i hi
    have hin : ∀ k, InH H k → ¬ (k = q ∨ (F 5).ownBlock = some k) := fun k ⟨j, hj, hk2⟩ e => by
      rcases e with e | e
      · exact (hb.ap j hj k hk2).1 e
      · exact (hb.ap j hj k hk2).2.1 e
    unfold lst more
    rw [hd_append]
    by_cases h : i < H.length
    · rw [if_pos h, if_pos h]
      exact (hb.lies i h).keep hk (fun k hk2 => hin k ⟨i, h, hk2⟩)
    · rw [if_neg h, if_pos (by rw [List.length_append, List.length_singleton] at hi; omega), if_neg h]
      exact HB.out.2.1.keep hk (fun k hk2 e => HB.out.2.2.1 k hk2 (by
        rcases e with e | e
        · exact .inl e
        · exact .inr (.inl e)))
  · intro i hi g hg
    rw [put_self]
    unfold lst at hg ⊢
    rw [hd_append] at hg
    have hx := HB.out.2.2.1
    have hq : g ≠ q ∧ g < w.heap.size ∧ (F 5).ownBlock ≠ some g := by
      by_cases h : i < H.length
      · rw [if_pos h] at hg
        exact ⟨(hb.ap i h g hg).1, ((hb.lies i h).lt g hg).2, (hb.ap i h g hg).2.1⟩
      · rw [if_neg h, if_pos (by rw [List.length_append, List.length_singleton] at hi; omega)] at hg
        exact ⟨fun e => hx g hg (.inl e), (HB.out.2.1.lt g hg).2, fun e => hx g hg (.inr (.inl e))⟩
    refine ⟨hq.1, fun e => ?_, fun j hj hne => ?_⟩
    · rcases hblk g e with h | h
      · exact hq.2.2 h
      · have := hq.2.1; omega
    · rw [hd_append]
      by_cases h : i < H.length
      · rw [if_pos h] at hg
        by_cases h2 : j < H.length
        · rw [if_pos h2]; exact (hb.ap i h g hg).2.2 j h2 hne
        · rw [if_neg h2, if_pos (by rw [List.length_append, List.length_singleton] at hj; omega)]
          intro e
          exact hx g e (.inr (.inr ⟨i, h, hg⟩))
      · rw [if_neg h, if_pos (by rw [List.length_append, List.length_singleton] at hi; omega)] at hg
        by_cases h2 : j < H.length
        · rw [if_pos h2]
          intro e
          exact hx g hg (.inr (.inr ⟨j, h2, e⟩))
        · rw [List.length_append, List.length_singleton] at hi hj; omega
  · intro i hi
    unfold Alm.num
    rw [hd_append]
    by_cases h : i < H.length
    · rw [if_pos h]; exact hb.nums i h
    · rw [List.length_append, List.length_singleton] at hi
      rw [if_neg h, if_pos (by omega)]
      show H.length + 1 = i + 1
      omega
  · intro i hi
    unfold Alm.lng
    rw [hd_append]
    by_cases h : i < H.length
    · rw [if_pos h]; exact hb.lngs i h
    · rw [List.length_append, List.length_singleton] at hi
      rw [if_neg h, if_pos (by omega)]
  · intro i hi
    unfold more
    by_cases h : i < H.length
    · rw [if_pos h]; exact hb.lens i h
    · rw [if_neg h]; exact HB.out.2.2.2
  · rw [put_self]; exact hblk
/-- A new Book. -/
theorem sbook_new (w : World) (base : Nat) (hb : base ≤ w.heap.size) : SBook (w.alloc (.cells #[.int .i64 0, .slice none 0 0, .slice none 0 0, .slice none 0 0, .slice none 0 0, .slice none 0 0, .slice none 0 0, .slice none 0 0, .slice none 0 0, .slice none 0 0] 44)) base w.heap.size (fun _ => .slice none 0 0) [] (fun _ => []) := by
  have hr := range_new w #[.int .i64 0, .slice none 0 0, .slice none 0 0, .slice none 0 0, .slice none 0 0, .slice none 0 0, .slice none 0 0, .slice none 0 0, .slice none 0 0, .slice none 0 0] 44 _ rfl
  have ht := there_new w #[.int .i64 0, .slice none 0 0, .slice none 0 0, .slice none 0 0, .slice none 0 0, .slice none 0 0, .slice none 0 0, .slice none 0 0, .slice none 0 0, .slice none 0 0] 44
  refine ⟨⟨ht, hr 0 _ rfl, fun j h1 h2 => ?_⟩, fun _ _ _ _ => rfl, ⟨World.ownsRow_nil _ _ _ _, by simp [Value.ownBlock]⟩, fun i hi => by simp at hi, fun i hi => by simp at hi, fun i hi => by simp at hi, fun i hi => by simp at hi, fun i hi => by simp at hi, hb⟩
  have := hr j (.slice none 0 0) (by
    match j, h1, h2 with
    | 1, _, _ | 2, _, _ | 3, _, _ | 4, _, _ | 5, _, _ | 6, _, _ | 7, _, _ | 8, _, _ | 9, _, _ => rfl)
  rwa [Nat.zero_add] at this
set_option maxRecDepth 100000 in
theorem apart_sums (base q : Nat) (F : Nat → Value) (H : List Held) (S : Nat → List (List Value)) (w : World) (hb : SBook w base q F H S) (hH : H.length < 255) :
    Calls Tryz.prog 16 #[.pointer (some ⟨q, 0, none⟩)] w fun e w' => e = .returned (.bool true) ∧ Keeps (OfBook q F H) w w' := by
  have HB := Lib.hid hb
  have hN : ∀ i, i < H.length → num H i < 256 := fun i hi => by rw [hb.nums i hi]; omega
  have HN := Lib.hid (And.intro hN hH)
  have H1 := Lib.hid (fillSum_any base q H.length (F 5) F H S w hb.bk rfl hb.row hb.lies hb.ap hN (fun i hi => Nat.lt_trans (hb.lens i hi) (by decide)) (by omega) hb.lngs)
  have b0 := HB.out.bk
  clear hb hN hH
  have HB0 := Lib.hid b0
  clear b0
  go_enter Tryz.func16, Tryz.ntmps16
  go_wp2_with (first
    | (go_at_call 72; refine (fillByte_nil q _ F _ HB0.out (HB.out.nul 1 (by omega) (by omega) (by omega))).mono ?_; rintro e w1 ⟨rfl, rfl⟩)
    | (go_at_call 73; refine (fillInt_nil q _ F _ HB0.out (HB.out.nul 2 (by omega) (by omega) (by omega))).mono ?_; rintro e w1 ⟨rfl, rfl⟩)
    | (go_at_call 74; refine (fillText_nil q _ F _ HB0.out (HB.out.nul 3 (by omega) (by omega) (by omega))).mono ?_; rintro e w1 ⟨rfl, rfl⟩)
    | (go_at_call 75; refine (fillByteList_nil q _ F _ HB0.out (HB.out.nul 4 (by omega) (by omega) (by omega))).mono ?_; rintro e w1 ⟨rfl, rfl⟩)
    | (go_at_call 76; refine H1.out.mono ?_; rintro e w1 ⟨rfl, hl1, hk1⟩; refine Hid.out ?_))
  refine Lib.hid ?_
  have HB1 := Lib.hid (HB.out.bk.keep hk1 (not_in HB.out.ap))
  have hr1 := HB.out.row.keep hk1 (not_row HB.out.ap)
  have H2 := Lib.hid (growSum_any base q H.length (F 5) F H (filled mkC H S) w1 HB1.out rfl hr1 hl1 HB.out.ap HN.out.1 (fun i hi => by rw [filled_len]; exact HB.out.lens i hi) (by have := HN.out.2; omega) HB.out.lngs (Nat.le_trans HB.out.bs hk1.size))
  have HK1 := Lib.hid hk1
  clear hk1 hr1 hl1 H1
  go_wp2_with (first
    | (go_at_call 77; refine (fillPair_nil q _ F _ HB1.out (HB.out.nul 6 (by omega) (by omega) (by omega))).mono ?_; rintro e w2 ⟨rfl, rfl⟩)
    | (go_at_call 78; refine (fillTenant_nil q _ F _ HB1.out (HB.out.nul 7 (by omega) (by omega) (by omega))).mono ?_; rintro e w2 ⟨rfl, rfl⟩)
    | (go_at_call 79; refine (fillLease_nil q _ F _ HB1.out (HB.out.nul 8 (by omega) (by omega) (by omega))).mono ?_; rintro e w2 ⟨rfl, rfl⟩)
    | (go_at_call 80; refine (fillEvent_nil q _ F _ HB1.out (HB.out.nul 9 (by omega) (by omega) (by omega))).mono ?_; rintro e w2 ⟨rfl, rfl⟩)
    | (go_at_call 81; refine (growByte_nil q _ F _ HB1.out (HB.out.nul 1 (by omega) (by omega) (by omega))).mono ?_; rintro e w2 ⟨rfl, rfl⟩)
    | (go_at_call 82; refine (growInt_nil q _ F _ HB1.out (HB.out.nul 2 (by omega) (by omega) (by omega))).mono ?_; rintro e w2 ⟨rfl, rfl⟩)
    | (go_at_call 83; refine (growText_nil q _ F _ HB1.out (HB.out.nul 3 (by omega) (by omega) (by omega))).mono ?_; rintro e w2 ⟨rfl, rfl⟩)
    | (go_at_call 84; refine (growByteList_nil q _ F _ HB1.out (HB.out.nul 4 (by omega) (by omega) (by omega))).mono ?_; rintro e w2 ⟨rfl, rfl⟩)
    | (go_at_call 85; refine H2.out.mono ?_; rintro e w2 ⟨rfl, L, hG⟩; refine Hid.out ?_))
  refine Lib.hid ?_
  have HB2 := Lib.hid hG.book
  have hlk : ∀ i, i < H.length → lst (longTo H L H.length) i = lst H i ∧ lng (longTo H L H.length) i = L i ∧ num (longTo H L H.length) i = num H i := fun i hi => by
    unfold lst lng num
    rw [hd_longTo H L _ i hi, if_pos hi]
    exact ⟨rfl, rfl, rfl⟩
  have hll := length_longTo H L H.length
  have H3 := Lib.hid (lookSum_any base q H.length (F 5) F (longTo H L H.length) (fun i => (S i).length) w2 HB2.out rfl hG.row (fun i hi => by
      rw [hll] at hi
      rw [(hlk i hi).1, (hlk i hi).2.2]
      exact hG.lies i hi) (fun i hi => by
      rw [hll] at hi
      rw [(hlk i hi).2.1, (hlk i hi).2.2]
      have := (hG.long i hi hi).1
      rwa [filled, List.replicate_append_replicate] at this) (fun i hi => by
      rw [hll] at hi
      rw [(hlk i hi).2.2]
      exact HN.out.1 i hi) (fun i hi => by
      rw [hll] at hi
      exact HB.out.lens i hi) (by rw [hll]; have := HN.out.2; omega))
  have HK2 := Lib.hid hG.keep
  clear hG hlk hll H2
  go_wp2_with (first
    | (go_at_call 86; refine (growPair_nil q _ F _ HB2.out (HB.out.nul 6 (by omega) (by omega) (by omega))).mono ?_; rintro e w3 ⟨rfl, rfl⟩)
    | (go_at_call 87; refine (growTenant_nil q _ F _ HB2.out (HB.out.nul 7 (by omega) (by omega) (by omega))).mono ?_; rintro e w3 ⟨rfl, rfl⟩)
    | (go_at_call 88; refine (growLease_nil q _ F _ HB2.out (HB.out.nul 8 (by omega) (by omega) (by omega))).mono ?_; rintro e w3 ⟨rfl, rfl⟩)
    | (go_at_call 89; refine (growEvent_nil q _ F _ HB2.out (HB.out.nul 9 (by omega) (by omega) (by omega))).mono ?_; rintro e w3 ⟨rfl, rfl⟩)
    | (go_at_call 90; refine (lookByte_nil q _ F _ HB2.out (HB.out.nul 1 (by omega) (by omega) (by omega))).mono ?_; rintro e w3 ⟨rfl, rfl⟩)
    | (go_at_call 91; refine (lookInt_nil q _ F _ HB2.out (HB.out.nul 2 (by omega) (by omega) (by omega))).mono ?_; rintro e w3 ⟨rfl, rfl⟩)
    | (go_at_call 92; refine (lookText_nil q _ F _ HB2.out (HB.out.nul 3 (by omega) (by omega) (by omega))).mono ?_; rintro e w3 ⟨rfl, rfl⟩)
    | (go_at_call 93; refine (lookByteList_nil q _ F _ HB2.out (HB.out.nul 4 (by omega) (by omega) (by omega))).mono ?_; rintro e w3 ⟨rfl, rfl⟩)
    | (go_at_call 94; refine H3.out.mono ?_; rintro e w3 ⟨rfl, hb3⟩; refine Hid.out ?_))
  refine Lib.hid ?_
  have HB3 := Lib.hid (HB2.out.below hb3)
  have HK3 := Lib.hid ((HK1.out.mono (Y := OfBook q F H) fun k h => .inr (.inr h)).trans ((HK2.out.mono (Y := OfBook q F H) fun k h => by
    rcases h with h | h
    · exact .inr (.inr h)
    · exact .inr (.inl h)).trans (Keeps.of_below hb3)))
  clear hb3 H3
  go_wp2_with (first
    | (go_at_call 95; refine (lookPair_nil q _ F _ HB3.out (HB.out.nul 6 (by omega) (by omega) (by omega))).mono ?_; rintro e w4 ⟨rfl, rfl⟩)
    | (go_at_call 96; refine (lookTenant_nil q _ F _ HB3.out (HB.out.nul 7 (by omega) (by omega) (by omega))).mono ?_; rintro e w4 ⟨rfl, rfl⟩)
    | (go_at_call 97; refine (lookLease_nil q _ F _ HB3.out (HB.out.nul 8 (by omega) (by omega) (by omega))).mono ?_; rintro e w4 ⟨rfl, rfl⟩)
    | (go_at_call 98; refine (lookEvent_nil q _ F _ HB3.out (HB.out.nul 9 (by omega) (by omega) (by omega))).mono ?_; rintro e w4 ⟨rfl, rfl⟩))
  exact bodyPost_ret (results_tmp rfl _ _ _) rfl ⟨rfl, HK3.out⟩
end Go.Proofs.YtdkcndgehgmadaaGreatDoor
