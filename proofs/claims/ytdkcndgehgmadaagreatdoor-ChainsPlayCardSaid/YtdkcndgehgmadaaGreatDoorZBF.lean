/-
  Joined: BM3, BM4, BM5, CP0.
-/
import Derived.Test.YtdkcndgehgmadaaGreatDoorZBE
import Derived.Test.YtdkcndgehgmadaaGreatDoorZAV
import Derived.Deep.Slices
import Derived.Deep.AppendLies
import Derived.Great.BuildSlice
-- Walks: a Book of bytes and sums: made, told.
open Go Go.RowKit Alm
namespace Go.Proofs.YtdkcndgehgmadaaGreatDoor
/-- A Book that holds lists of bytes and of sums. -/
structure MBook (W : World) (base q n : Nat) (F : Nat → Value) (HB : List Held) (SB : Nat → List (List Value)) (HS : List Held) (SS : Nat → List (List Value)) : Prop where
  bk : Book W q n F
  nul : ∀ j, 1 ≤ j → j < 10 → j ≠ 1 → j ≠ 5 → F j = .slice none 0 0
  b : KB W 163 1 base q n (F 1) HB SB
  s : KB W 161 32 base q n (F 5) HS SS
  x : ∀ k, OfKind (F 1) HB k → ¬ OfKind (F 5) HS k
  bq : base ≤ q
def OfM (q : Nat) (F : Nat → Value) (HB HS : List Held) (k : Nat) : Prop := k = q ∨ OfKind (F 1) HB k ∨ OfKind (F 5) HS k
theorem MBook.bs {W : World} {base q n : Nat} {F : Nat → Value} {HB HS : List Held} {SB SS : Nat → List (List Value)} (h : MBook W base q n F HB SB HS SS) : base ≤ W.heap.size := Nat.le_of_lt (Nat.lt_of_le_of_lt h.bq h.bk.lt)
theorem MBook.lt {W : World} {base q n : Nat} {F : Nat → Value} {HB HS : List Held} {SB SS : Nat → List (List Value)} (h : MBook W base q n F HB SB HS SS) {k : Nat} (hk : OfM q F HB HS k) : base ≤ k ∧ k < W.heap.size := by
  rcases hk with rfl | hk | hk
  · exact ⟨h.bq, h.bk.lt⟩
  · exact h.b.lt hk
  · exact h.s.lt hk
theorem MBook.keep {X : Nat → Prop} {W W' : World} {base q n : Nat} {F : Nat → Value} {HB HS : List Held} {SB SS : Nat → List (List Value)} (h : MBook W base q n F HB SB HS SS) (hk : Keeps X W W') (hx : ∀ k, OfM q F HB HS k → ¬ X k) : MBook W' base q n F HB SB HS SS :=
  ⟨h.bk.keep hk (hx q (.inl rfl)), h.nul, h.b.keep hk (fun k h => hx k (.inr (.inl h))), h.s.keep hk (fun k h => hx k (.inr (.inr h))), h.x, h.bq⟩
theorem MBook.below {W W' : World} {base q n : Nat} {F : Nat → Value} {HB HS : List Held} {SB SS : Nat → List (List Value)} (h : MBook W base q n F HB SB HS SS) (hb : Below W.heap.size W W') : MBook W' base q n F HB SB HS SS := h.keep (Keeps.of_below (X := fun _ => False) hb) (fun _ _ h => h)
theorem mbook_new (w : World) (base : Nat) (hb : base ≤ w.heap.size) : MBook (w.alloc (.cells #[.int .i64 0, .slice none 0 0, .slice none 0 0, .slice none 0 0, .slice none 0 0, .slice none 0 0, .slice none 0 0, .slice none 0 0, .slice none 0 0, .slice none 0 0] 44)) base w.heap.size 0 (fun _ => .slice none 0 0) [] (fun _ => []) [] (fun _ => []) := by
  have h := sbook_new w base hb
  refine ⟨h.bk, fun _ _ _ _ _ => rfl, KB.start _ _ _ _ _ _, KB.start _ _ _ _ _ _, fun k hk => ?_, hb⟩
  rcases hk with e | ⟨i, hi, _⟩
  · cases e
  · simp at hi
/-- Of what a kind is, one list more told. -/
theorem kind_told {v v' x : Value} {H : List Held} {n N k : Nat} (h : OfKind v' (H ++ [(x, .slice none 0 0, n)]) k) (hb : ∀ k, v'.ownBlock = some k → v.ownBlock = some k ∨ N ≤ k) : OfKind v H k ∨ N ≤ k ∨ x.ownBlock = some k := by
  rcases h with e | ⟨i, hi, e⟩
  · rcases hb k e with e | e
    · exact .inl (.inl e)
    · exact .inr (.inl e)
  · unfold lst at e
    rw [hd_append] at e
    by_cases h1 : i < H.length
    · rw [if_pos h1] at e
      exact .inl (.inr ⟨i, h1, e⟩)
    · rw [if_neg h1, if_pos (by rw [List.length_append, List.length_singleton] at hi; omega)] at e
      exact .inr (.inr e)
set_option maxRecDepth 100000 in
theorem tell_bytes (va : Option Addr) (vn vc : Nat) (xs : List (List Value)) (base q n : Nat) (F : Nat → Value) (HB HS : List Held) (SB SS : Nat → List (List Value)) (w : World) (hb : MBook w base q n F HB SB HS SS) (hv : Lie w base 1 (.slice va vn vc) xs) (hx : ∀ k, (Value.slice va vn vc).ownBlock = some k → ¬ OfM q F HB HS k) (hn : n < 90000) (hH : HB.length < 90000) (hl : xs.length < 900000) :
    Calls Tryz.prog 33 #[.pointer (some ⟨q, 0, none⟩), .slice va vn vc] w fun e w' => e = .returned (.tuple #[]) ∧ ∃ v', MBook w' base q (n + 1) (put F 1 v') (HB ++ [(.slice va vn vc, .slice none 0 0, n + 1)]) (more HB SB xs) HS SS ∧ (∀ k, v'.ownBlock = some k → (F 1).ownBlock = some k ∨ w.heap.size ≤ k) ∧ Keeps (fun i => i = q ∨ (F 1).ownBlock = some i) w w' := by
  have hc := keepByte_any va vn vc (F 1) base q n F HB w hb.bk rfl hb.b.row hb.bs (by omega) (by omega)
  have HC := Lib.hid hc
  have HM := Lib.hid (And.intro hb (And.intro hv (And.intro hx hl)))
  clear hc hb hv hx hH hl hn
  go_enter Tryz.func33, Tryz.ntmps33
  go_wp2_with (go_at_call 118; refine HC.out.mono ?_; rintro e w2 ⟨rfl, hv', hbk, hrow, hblk, hk⟩)
  have hb := HM.out.1
  have hx := HM.out.2.2.1
  refine bodyPost_end (results_none rfl _ _ _) rfl ⟨rfl, hv', ⟨hbk, fun j h1 h2 h3 h4 => ?_, ?_, ?_, fun k h1 h2 => ?_, hb.bq⟩, hblk, hk⟩
  · rw [put_other _ _ h3]; exact hb.nul j h1 h2 h3 h4
  · rw [put_self]
    exact hb.b.tell hrow hblk hk HM.out.2.1 (fun k hk2 => ⟨fun e => hx k hk2 (.inl e), fun e => hx k hk2 (.inr (.inl e))⟩) HM.out.2.2.2
  · rw [put_other _ _ (by decide : (5 : Nat) ≠ 1)]
    exact (hb.s.keep hk (fun k hk2 e => by
      rcases e with e | e
      · exact hb.s.ne hk2 e
      · exact hb.x k (.inl e) hk2)).up (Nat.le_succ n)
  · rw [put_self] at h1
    rw [put_other _ _ (by decide : (5 : Nat) ≠ 1)] at h2
    rcases kind_told h1 hblk with e | e | e
    · exact hb.x k e h2
    · have := (hb.s.lt h2).2; omega
    · exact hx k e (.inr (.inr h2))
set_option maxRecDepth 100000 in
theorem tell_sums (va : Option Addr) (vn vc : Nat) (xs : List (List Value)) (base q n : Nat) (F : Nat → Value) (HB HS : List Held) (SB SS : Nat → List (List Value)) (w : World) (hb : MBook w base q n F HB SB HS SS) (hv : Lie w base 32 (.slice va vn vc) xs) (hx : ∀ k, (Value.slice va vn vc).ownBlock = some k → ¬ OfM q F HB HS k) (hn : n < 90000) (hH : HS.length < 90000) (hl : xs.length < 900000) :
    Calls Tryz.prog 15 #[.pointer (some ⟨q, 0, none⟩), .slice va vn vc] w fun e w' => e = .returned (.tuple #[]) ∧ ∃ v', MBook w' base q (n + 1) (put F 5 v') HB SB (HS ++ [(.slice va vn vc, .slice none 0 0, n + 1)]) (more HS SS xs) ∧ (∀ k, v'.ownBlock = some k → (F 5).ownBlock = some k ∨ w.heap.size ≤ k) ∧ Keeps (fun i => i = q ∨ (F 5).ownBlock = some i) w w' := by
  have hc := keepSum_any va vn vc (F 5) base q n F HS w hb.bk rfl hb.s.row hb.bs (by omega) (by omega)
  have HC := Lib.hid hc
  have HM := Lib.hid (And.intro hb (And.intro hv (And.intro hx hl)))
  clear hc hb hv hx hH hl hn
  go_enter Tryz.func15, Tryz.ntmps15
  go_wp2_with (go_at_call 71; refine HC.out.mono ?_; rintro e w2 ⟨rfl, hv', hbk, hrow, hblk, hk⟩)
  have hb := HM.out.1
  have hx := HM.out.2.2.1
  refine bodyPost_end (results_none rfl _ _ _) rfl ⟨rfl, hv', ⟨hbk, fun j h1 h2 h3 h4 => ?_, ?_, ?_, fun k h1 h2 => ?_, hb.bq⟩, hblk, hk⟩
  · rw [put_other _ _ h4]; exact hb.nul j h1 h2 h3 h4
  · rw [put_other _ _ (by decide : (1 : Nat) ≠ 5)]
    exact (hb.b.keep hk (fun k hk2 e => by
      rcases e with e | e
      · exact hb.b.ne hk2 e
      · exact hb.x k hk2 (.inl e))).up (Nat.le_succ n)
  · rw [put_self]
    exact hb.s.tell hrow hblk hk HM.out.2.1 (fun k hk2 => ⟨fun e => hx k hk2 (.inl e), fun e => hx k hk2 (.inr (.inr e))⟩) HM.out.2.2.2
  · rw [put_self] at h2
    rw [put_other _ _ (by decide : (1 : Nat) ≠ 5)] at h1
    rcases kind_told h2 hblk with e | e | e
    · exact hb.x k h1 e
    · have := (hb.b.lt h1).2; omega
    · exact hx k e (.inr (.inl h1))
end Go.Proofs.YtdkcndgehgmadaaGreatDoor
-- A kind's part of a Book when it has been written over, and when it has grown: kept while the other kinds go on.
open Go Go.RowKit Alm
namespace Go.Proofs.YtdkcndgehgmadaaGreatDoor
theorem KB.fill {W W' : World} {t : TypeId} {size base q n : Nat} {v : Value} {H : List Held} {S : Nat → List (List Value)} {mk : Nat → List Value} (h : KB W t size base q n v H S) (hl : Lies W' base size H (filled mk H S)) (hk : Keeps (InH H) W W') : KB W' t size base q n v H (filled mk H S) :=
  ⟨h.row.keep hk (not_row h.ap), hl, h.ap, h.nums, h.lngs, fun i hi => by rw [filled_len]; exact h.lens i hi⟩
/-- A kind that has grown. -/
structure KG (W : World) (t : TypeId) (size base q : Nat) (v : Value) (mk : Nat → List Value) (H : List Held) (a : Nat → Nat) (L : Nat → Value) : Prop where
  row : Row3 W t base q v (longTo H L H.length)
  lies : ∀ i, i < H.length → Lie W base size (lst H i) (List.replicate (a i) (mk (num H i)))
  long : ∀ i, i < H.length → Lie W base size (L i) (List.replicate (a i + 40) (mk (num H i)))
theorem KG.of_grow {mk : Nat → List Value} {size off : Nat} {t : TypeId} {w W : World} {base q n : Nat} {F : Nat → Value} {v : Value} {H : List Held} {S : Nat → List (List Value)} {L : Nat → Value} (h : GrowI mk size off t w W base q n F v H (filled mk H S) H.length L) : KG W t size base q v mk H (fun i => (S i).length) L :=
  ⟨h.row, fun i hi => h.lies i hi, fun i hi => by
    have := (h.long i hi hi).1
    rwa [filled, List.replicate_append_replicate] at this⟩
/-- The blocks of a kind that has grown. -/
def OfGrown (v : Value) (H : List Held) (L : Nat → Value) (k : Nat) : Prop := OfKind v H k ∨ ∃ i, i < H.length ∧ (L i).ownBlock = some k
theorem KG.keep {X : Nat → Prop} {W W' : World} {t : TypeId} {size base q : Nat} {v : Value} {mk : Nat → List Value} {H : List Held} {a : Nat → Nat} {L : Nat → Value} (h : KG W t size base q v mk H a L) (hk : Keeps X W W') (hx : ∀ k, OfGrown v H L k → ¬ X k) : KG W' t size base q v mk H a L :=
  ⟨h.row.keep hk (fun k h => hx k (.inl (.inl h))), fun i hi => (h.lies i hi).keep hk (fun k h => hx k (.inl (.inr ⟨i, hi, h⟩))), fun i hi => (h.long i hi).keep hk (fun k h => hx k (.inr ⟨i, hi, h⟩))⟩
theorem KG.below {W W' : World} {t : TypeId} {size base q : Nat} {v : Value} {mk : Nat → List Value} {H : List Held} {a : Nat → Nat} {L : Nat → Value} (h : KG W t size base q v mk H a L) (hb : Below W.heap.size W W') : KG W' t size base q v mk H a L := h.keep (Keeps.of_below (X := fun _ => False) hb) (fun _ _ h => h)
/-- Where the blocks of a kind that grew are: its own, or new. -/
theorem grown_of {mk : Nat → List Value} {size off : Nat} {t : TypeId} {w W : World} {base q n : Nat} {F : Nat → Value} {v : Value} {H : List Held} {S : Nat → List (List Value)} {L : Nat → Value} (h : GrowI mk size off t w W base q n F v H S H.length L) {k : Nat} (hk : OfGrown v H L k) : OfKind v H k ∨ w.heap.size ≤ k := by
  rcases hk with hk | ⟨i, hi, hk⟩
  · exact .inl hk
  · rcases (h.long i hi hi).2 k hk with e | e
    · exact .inl (.inr ⟨i, hi, e⟩)
    · exact .inr e
/-- What the look asks of the row. -/
theorem long_told (H : List Held) (L : Nat → Value) (i : Nat) (hi : i < H.length) : lst (longTo H L H.length) i = lst H i ∧ lng (longTo H L H.length) i = L i ∧ num (longTo H L H.length) i = num H i := by
  unfold lst lng num
  rw [hd_longTo H L _ i hi, if_pos hi]
  exact ⟨rfl, rfl, rfl⟩
/-- The looks of both kinds, of kinds that have grown. -/
theorem look_bytes (base q n : Nat) (F : Nat → Value) (H : List Held) (a : Nat → Nat) (L : Nat → Value) (w : World) (hb : Book w q n F) (h : KG w 163 1 base q (F 1) mkB H a L) (hN : ∀ i, i < H.length → num H i < 256) (hA : ∀ i, i < H.length → a i < 900000) (hH : H.length < 100000) : Calls Tryz.prog 90 #[.pointer (some ⟨q, 0, none⟩)] w fun e w' => e = .returned (.bool true) ∧ Below w.heap.size w w' := by
  have hll := length_longTo H L H.length
  refine lookByte_any base q n (F 1) F (longTo H L H.length) a w hb rfl h.row (fun i hi => ?_) (fun i hi => ?_) (fun i hi => ?_) (fun i hi => ?_) (by rw [hll]; exact hH)
  · rw [hll] at hi
    rw [(long_told H L i hi).1, (long_told H L i hi).2.2]
    exact h.lies i hi
  · rw [hll] at hi
    rw [(long_told H L i hi).2.1, (long_told H L i hi).2.2]
    exact h.long i hi
  · rw [hll] at hi
    rw [(long_told H L i hi).2.2]
    exact hN i hi
  · rw [hll] at hi
    exact hA i hi
theorem look_sums (base q n : Nat) (F : Nat → Value) (H : List Held) (a : Nat → Nat) (L : Nat → Value) (w : World) (hb : Book w q n F) (h : KG w 161 32 base q (F 5) mkC H a L) (hN : ∀ i, i < H.length → num H i < 256) (hA : ∀ i, i < H.length → a i < 900000) (hH : H.length < 100000) : Calls Tryz.prog 94 #[.pointer (some ⟨q, 0, none⟩)] w fun e w' => e = .returned (.bool true) ∧ Below w.heap.size w w' := by
  have hll := length_longTo H L H.length
  refine lookSum_any base q n (F 5) F (longTo H L H.length) a w hb rfl h.row (fun i hi => ?_) (fun i hi => ?_) (fun i hi => ?_) (fun i hi => ?_) (by rw [hll]; exact hH)
  · rw [hll] at hi
    rw [(long_told H L i hi).1, (long_told H L i hi).2.2]
    exact h.lies i hi
  · rw [hll] at hi
    rw [(long_told H L i hi).2.1, (long_told H L i hi).2.2]
    exact h.long i hi
  · rw [hll] at hi
    rw [(long_told H L i hi).2.2]
    exact hN i hi
  · rw [hll] at hi
    exact hA i hi
end Go.Proofs.YtdkcndgehgmadaaGreatDoor
-- Walk: whether the lists of a Book of bytes and sums lie apart.
open Go Go.RowKit Alm
namespace Go.Proofs.YtdkcndgehgmadaaGreatDoor
set_option maxRecDepth 100000 in
set_option maxHeartbeats 1000000 in
theorem apart_both (base q n : Nat) (F : Nat → Value) (HB HS : List Held) (SB SS : Nat → List (List Value)) (w : World) (hb : MBook w base q n F HB SB HS SS) (hn : n < 256) (hHB : HB.length < 90000) (hHS : HS.length < 90000) :
    Calls Tryz.prog 16 #[.pointer (some ⟨q, 0, none⟩)] w fun e w' => e = .returned (.bool true) ∧ Keeps (OfM q F HB HS) w w' := by
  have HM := Lib.hid hb
  have hNB : ∀ i, i < HB.length → num HB i < 256 := fun i hi => Nat.lt_of_le_of_lt (hb.b.nums i hi) hn
  have hNS : ∀ i, i < HS.length → num HS i < 256 := fun i hi => Nat.lt_of_le_of_lt (hb.s.nums i hi) hn
  have HN := Lib.hid (And.intro hNB (And.intro hNS (And.intro hHB hHS)))
  have H1 := Lib.hid (fillByte_any base q n (F 1) F HB SB w hb.bk rfl hb.b.row hb.b.lies hb.b.ap hNB (fun i hi => Nat.lt_trans (hb.b.lens i hi) (by decide)) (by omega) hb.b.lngs)
  clear hb hNB hNS hn hHB hHS
  go_enter Tryz.func16, Tryz.ntmps16
  go_wp2_with (go_at_call 72; refine H1.out.mono ?_; rintro e w1 ⟨rfl, hl1, hk1⟩; refine Hid.out ?_)
  refine Lib.hid ?_
  have HB1 := Lib.hid (HM.out.bk.keep hk1 (not_in HM.out.b.ap))
  have HKB1 := Lib.hid (HM.out.b.fill hl1 hk1)
  have HKS1 := Lib.hid (HM.out.s.keep hk1 (fun k hk e => HM.out.x k (.inr e) hk))
  have HK1 := Lib.hid hk1
  clear hl1 hk1 H1
  have H2 := Lib.hid (fillSum_any base q n (F 5) F HS SS w1 HB1.out rfl HKS1.out.row HKS1.out.lies HKS1.out.ap HN.out.2.1 (fun i hi => Nat.lt_trans (HKS1.out.lens i hi) (by decide)) (by have := HN.out.2.2.2; omega) HKS1.out.lngs)
  go_wp2_with (first
    | (go_at_call 73; refine (fillInt_nil q _ F _ HB1.out (HM.out.nul 2 (by omega) (by omega) (by omega) (by omega))).mono ?_; rintro e w2 ⟨rfl, rfl⟩)
    | (go_at_call 74; refine (fillText_nil q _ F _ HB1.out (HM.out.nul 3 (by omega) (by omega) (by omega) (by omega))).mono ?_; rintro e w2 ⟨rfl, rfl⟩)
    | (go_at_call 75; refine (fillByteList_nil q _ F _ HB1.out (HM.out.nul 4 (by omega) (by omega) (by omega) (by omega))).mono ?_; rintro e w2 ⟨rfl, rfl⟩)
    | (go_at_call 76; refine H2.out.mono ?_; rintro e w2 ⟨rfl, hl2, hk2⟩; refine Hid.out ?_))
  refine Lib.hid ?_
  have HB2 := Lib.hid (HB1.out.keep hk2 (not_in HM.out.s.ap))
  have HKB2 := Lib.hid (HKB1.out.keep hk2 (fun k hk e => HM.out.x k hk (.inr e)))
  have HKS2 := Lib.hid (HKS1.out.fill hl2 hk2)
  have HK2 := Lib.hid hk2
  have hbs2 : base ≤ w2.heap.size := Nat.le_trans HM.out.bs (Nat.le_trans HK1.out.size hk2.size)
  have HBS2 := Lib.hid hbs2
  clear hl2 hk2 H2 hbs2
  have H3 := Lib.hid (growByte_any base q n (F 1) F HB (filled mkB HB SB) w2 HB2.out rfl HKB2.out.row HKB2.out.lies HKB2.out.ap HN.out.1 HKB2.out.lens (by have := HN.out.2.2.1; omega) HKB2.out.lngs HBS2.out)
  go_wp2_with (first
    | (go_at_call 77; refine (fillPair_nil q _ F _ HB2.out (HM.out.nul 6 (by omega) (by omega) (by omega) (by omega))).mono ?_; rintro e w3 ⟨rfl, rfl⟩)
    | (go_at_call 78; refine (fillTenant_nil q _ F _ HB2.out (HM.out.nul 7 (by omega) (by omega) (by omega) (by omega))).mono ?_; rintro e w3 ⟨rfl, rfl⟩)
    | (go_at_call 79; refine (fillLease_nil q _ F _ HB2.out (HM.out.nul 8 (by omega) (by omega) (by omega) (by omega))).mono ?_; rintro e w3 ⟨rfl, rfl⟩)
    | (go_at_call 80; refine (fillEvent_nil q _ F _ HB2.out (HM.out.nul 9 (by omega) (by omega) (by omega) (by omega))).mono ?_; rintro e w3 ⟨rfl, rfl⟩)
    | (go_at_call 81; refine H3.out.mono ?_; rintro e w3 ⟨rfl, L, hG⟩; refine Hid.out ?_))
  refine Lib.hid ?_
  have HB3 := Lib.hid hG.book
  have HG3 := Lib.hid hG
  have HKG3 := Lib.hid (KG.of_grow hG)
  have HKS3 := Lib.hid (HKS2.out.keep hG.keep (fun k hk e => HM.out.x k (by
    rcases e with e | e
    · exact .inr e
    · exact .inl e) hk))
  clear hG H3
  have H4 := Lib.hid (growSum_any base q n (F 5) F HS (filled mkC HS SS) w3 HB3.out rfl HKS3.out.row HKS3.out.lies HKS3.out.ap HN.out.2.1 HKS3.out.lens (by have := HN.out.2.2.2; omega) HKS3.out.lngs (Nat.le_trans HBS2.out HG3.out.keep.size))
  go_wp2_with (first
    | (go_at_call 82; refine (growInt_nil q _ F _ HB3.out (HM.out.nul 2 (by omega) (by omega) (by omega) (by omega))).mono ?_; rintro e w4 ⟨rfl, rfl⟩)
    | (go_at_call 83; refine (growText_nil q _ F _ HB3.out (HM.out.nul 3 (by omega) (by omega) (by omega) (by omega))).mono ?_; rintro e w4 ⟨rfl, rfl⟩)
    | (go_at_call 84; refine (growByteList_nil q _ F _ HB3.out (HM.out.nul 4 (by omega) (by omega) (by omega) (by omega))).mono ?_; rintro e w4 ⟨rfl, rfl⟩)
    | (go_at_call 85; refine H4.out.mono ?_; rintro e w4 ⟨rfl, L2, hG2⟩; refine Hid.out ?_))
  refine Lib.hid ?_
  have HB4 := Lib.hid hG2.book
  have HKGS4 := Lib.hid (KG.of_grow hG2)
  have hxs : ∀ k, OfKind (F 5) HS k → ¬ OfGrown (F 1) HB L k := fun k hk e => by
    rcases grown_of HG3.out e with e | e
    · exact HM.out.x k e hk
    · have := (HKS2.out.lt hk).2; omega
  have HKGB4 := Lib.hid (HKG3.out.keep hG2.keep (fun k hk e => hxs k (by
    rcases e with e | e
    · exact .inr e
    · exact .inl e) hk))
  have HK4 := Lib.hid hG2.keep
  clear hG2 hxs H4
  have H5 := Lib.hid (look_bytes base q n F HB _ L w4 HB4.out HKGB4.out HN.out.1 (fun i hi => HM.out.b.lens i hi) (by have := HN.out.2.2.1; omega))
  go_wp2_with (first
    | (go_at_call 86; refine (growPair_nil q _ F _ HB4.out (HM.out.nul 6 (by omega) (by omega) (by omega) (by omega))).mono ?_; rintro e w5 ⟨rfl, rfl⟩)
    | (go_at_call 87; refine (growTenant_nil q _ F _ HB4.out (HM.out.nul 7 (by omega) (by omega) (by omega) (by omega))).mono ?_; rintro e w5 ⟨rfl, rfl⟩)
    | (go_at_call 88; refine (growLease_nil q _ F _ HB4.out (HM.out.nul 8 (by omega) (by omega) (by omega) (by omega))).mono ?_; rintro e w5 ⟨rfl, rfl⟩)
    | (go_at_call 89; refine (growEvent_nil q _ F _ HB4.out (HM.out.nul 9 (by omega) (by omega) (by omega) (by omega))).mono ?_; rintro e w5 ⟨rfl, rfl⟩)
    | (go_at_call 90; refine H5.out.mono ?_; rintro e w5 ⟨rfl, hb5⟩; refine Hid.out ?_))
  refine Lib.hid ?_
  have HB5 := Lib.hid (HB4.out.below hb5)
  have HKGS5 := Lib.hid (HKGS4.out.below hb5)
  have HW5 := Lib.hid hb5
  clear hb5 H5
  have H6 := Lib.hid (look_sums base q n F HS _ L2 w5 HB5.out HKGS5.out HN.out.2.1 (fun i hi => HM.out.s.lens i hi) (by have := HN.out.2.2.2; omega))
  go_wp2_with (first
    | (go_at_call 91; refine (lookInt_nil q _ F _ HB5.out (HM.out.nul 2 (by omega) (by omega) (by omega) (by omega))).mono ?_; rintro e w6 ⟨rfl, rfl⟩)
    | (go_at_call 92; refine (lookText_nil q _ F _ HB5.out (HM.out.nul 3 (by omega) (by omega) (by omega) (by omega))).mono ?_; rintro e w6 ⟨rfl, rfl⟩)
    | (go_at_call 93; refine (lookByteList_nil q _ F _ HB5.out (HM.out.nul 4 (by omega) (by omega) (by omega) (by omega))).mono ?_; rintro e w6 ⟨rfl, rfl⟩)
    | (go_at_call 94; refine H6.out.mono ?_; rintro e w6 ⟨rfl, hb6⟩; refine Hid.out ?_))
  refine Lib.hid ?_
  have HB6 := Lib.hid (HB5.out.below hb6)
  have k1 := HK1.out.mono (Y := OfM q F HB HS) fun k h => .inr (.inl (.inr h))
  have k2 := HK2.out.mono (Y := OfM q F HB HS) fun k h => .inr (.inr (.inr h))
  have k3 := HG3.out.keep.mono (Y := OfM q F HB HS) fun k h => by
    rcases h with h | h
    · exact .inr (.inl (.inr h))
    · exact .inr (.inl (.inl h))
  have k4 := HK4.out.mono (Y := OfM q F HB HS) fun k h => by
    rcases h with h | h
    · exact .inr (.inr (.inr h))
    · exact .inr (.inr (.inl h))
  have HKF := Lib.hid (((((k1.trans k2).trans k3).trans k4).trans (Keeps.of_below HW5.out)).trans (Keeps.of_below hb6))
  clear hb6 H6 k1 k2 k3 k4
  go_wp2_with (first
    | (go_at_call 95; refine (lookPair_nil q _ F _ HB6.out (HM.out.nul 6 (by omega) (by omega) (by omega) (by omega))).mono ?_; rintro e w7 ⟨rfl, rfl⟩)
    | (go_at_call 96; refine (lookTenant_nil q _ F _ HB6.out (HM.out.nul 7 (by omega) (by omega) (by omega) (by omega))).mono ?_; rintro e w7 ⟨rfl, rfl⟩)
    | (go_at_call 97; refine (lookLease_nil q _ F _ HB6.out (HM.out.nul 8 (by omega) (by omega) (by omega) (by omega))).mono ?_; rintro e w7 ⟨rfl, rfl⟩)
    | (go_at_call 98; refine (lookEvent_nil q _ F _ HB6.out (HM.out.nul 9 (by omega) (by omega) (by omega) (by omega))).mono ?_; rintro e w7 ⟨rfl, rfl⟩))
  exact bodyPost_ret (results_tmp rfl _ _ _) rfl ⟨rfl, HKF.out⟩
end Go.Proofs.YtdkcndgehgmadaaGreatDoor
-- Walks: append of one list of bytes to a list of them.
open Go Go.RowKit Alm
namespace Go.Proofs.YtdkcndgehgmadaaGreatDoor
/-- Slices, and the bytes that each one leads to. -/
def Each (W : World) (cs : List Value) (ls : List (List UInt8)) : Prop := cs.length = ls.length ∧ (∀ (j : Nat) (u : Value) (b : List UInt8), cs[j]? = some u → ls[j]? = some b → BytesAt W u b) ∧ ∀ u ∈ cs, u.oneCell' = true
theorem Each.nil (W : World) : Each W [] [] := ⟨rfl, by simp, by simp⟩
theorem Each.append {W : World} {cs ds : List Value} {ls ms : List (List UInt8)} (h : Each W cs ls) (k : Each W ds ms) : Each W (cs ++ ds) (ls ++ ms) := by
  refine ⟨by rw [List.length_append, List.length_append, h.1, k.1], fun j u b hu hb => ?_, fun u hu => ?_⟩
  · by_cases hj : j < cs.length
    · rw [List.getElem?_append_left hj] at hu
      rw [List.getElem?_append_left (by rw [← h.1]; exact hj)] at hb
      exact h.2.1 j u b hu hb
    · rw [List.getElem?_append_right (by omega)] at hu
      rw [List.getElem?_append_right (by rw [← h.1]; omega)] at hb
      rw [← h.1] at hb
      exact k.2.1 _ u b hu hb
  · rcases List.mem_append.1 hu with hu | hu
    · exact h.2.2 u hu
    · exact k.2.2 u hu
theorem ListsAt.each {w : World} {v : Value} {ls : List (List UInt8)} (h : ListsAt w v ls) (h0 : ls ≠ []) : ∃ b o cap cs, v = .slice (some ⟨b, o, none⟩) ls.length cap ∧ w.rangeAt b o cs ∧ Each w cs ls := by
  obtain ⟨a, cap, rfl, h1, h2, h3⟩ := h
  obtain ⟨b, o, rfl, h4⟩ := h3.resolve_left h0
  have one : ∀ i, i < ls.length → ∃ u, w.cell? ⟨b, o + i, none⟩ = some u ∧ ∃ hh : i < ls.length, BytesAt w u ls[i] := fun i hi => by
    obtain ⟨u, hu, hb⟩ := h4 i hi
    exact ⟨u, hu, hi, hb⟩
  obtain ⟨f, hf⟩ := Deep.choose_lt one
  have hget : ∀ j u, ((List.range ls.length).map f)[j]? = some u → j < ls.length ∧ u = f j := fun j u hj => by
    have hjl : j < ((List.range ls.length).map f).length := (List.getElem?_eq_some_iff.1 hj).1
    rw [List.length_map, List.length_range] at hjl
    refine ⟨hjl, ?_⟩
    simp [hjl] at hj
    exact hj.symm
  refine ⟨b, o, cap, (List.range ls.length).map f, rfl, fun j u hj => ?_, by simp, fun j u c hu hc => ?_, fun u hu => ?_⟩
  · obtain ⟨hj1, rfl⟩ := hget j u hj
    exact (hf j hj1).1
  · obtain ⟨hj1, rfl⟩ := hget j u hu
    obtain ⟨_, _, h5⟩ := hf j hj1
    rw [List.getElem?_eq_getElem hj1, Option.some.injEq] at hc
    rw [← hc]; exact h5
  · obtain ⟨i, hi, rfl⟩ := List.mem_map.1 hu
    obtain ⟨_, _, h5⟩ := hf i (List.mem_range.1 hi)
    obtain ⟨a9, c9, e9, _⟩ := h5
    rw [e9]; rfl
theorem lists_own {W0 W : World} {base : Nat} {v : Value} {cs : List Value} {ls : List (List UInt8)} (ho : W.ownsRow base 65 1 v ls.length cs) (hE : Each W0 cs ls) (hb : Below W0.heap.size W0 W) : ListsAt W v ls := by
  by_cases h0 : ls = []
  · subst h0
    rcases ho.2 with ⟨rfl, _⟩ | ⟨g, cap, cur, rfl, _, _, hnc, hcm, _⟩
    · exact ⟨none, 0, rfl, Nat.le_refl _, by decide, .inl rfl⟩
    · exact ⟨_, cap, rfl, hnc, hcm, .inl rfl⟩
  · obtain ⟨g, cap, rfl, h1, h2, _, hr⟩ := own_range ho (List.length_pos_iff.2 h0)
    refine ⟨_, cap, rfl, h1, h2, .inr ⟨g, 0, rfl, fun j hj => ?_⟩⟩
    have hjc : j < cs.length := by rw [hE.1]; exact hj
    refine ⟨cs[j], hr j _ (List.getElem?_eq_getElem hjc), ?_⟩
    exact bytes_below (hE.2.1 j _ _ (List.getElem?_eq_getElem hjc) (List.getElem?_eq_getElem hj)) hb (Nat.le_refl _)
theorem infoSliceZ : (Tryz.prog.info? 65).map (fun i => (i.zero, i.size, i.bytes)) = some (some (.slice none 0 0), 1, 24) := by kernel_rfl
theorem info_slice : ∃ i, Tryz.prog.info? 65 = some i ∧ i.zero = some (.slice none 0 0) ∧ i.size = 1 ∧ i.bytes = 24 := by
  obtain ⟨i0, hi0, hz0⟩ := Option.map_eq_some_iff.1 infoSliceZ
  simp only [Prod.mk.injEq] at hz0
  exact ⟨i0, hi0, hz0.1, hz0.2.1, hz0.2.2⟩
theorem wp_lit_list {w : World} {o : Oper} {a : Act} {K : Act → World → Prop} {Q : Exit → Act → World → Prop} (x : Operand) (ho : o.op = .buildSlice 60 1 #[(0, x)]) (ua : Option Addr) (un uc : Nat) (hx : a.eval x = .slice ua un uc)
    (h : K (a.put o.dst (.slice (some ⟨w.heap.size, 0, none⟩) 1 1)) (w.alloc (.cells #[.slice ua un uc] 65))) : o.wp Tryz.prog a w K Q := by
  obtain ⟨i, hi, hz, hs, hb⟩ := info_slice
  refine wp_buildSlice _ 65 1 _ ho #[.slice ua un uc] i (.slice none 0 0) Tryz.underlying60 hi hz (by rw [hs]; omega) (by rw [hs]; omega) ?_ h
  have hp : ((#[(0, x)] : Array (Nat × Operand)).toList.map fun (i, x) => (i, a.eval x)) = (([(.slice ua un uc : Value)]).zipIdx 0).map fun x => (x.2, x.1) := by simp [hx]
  rw [Array.toList_map, hp, hs, Great.fill_whole (s := 1) (by omega) [(.slice ua un uc : Value)] _ (fun v hv => by rw [List.mem_singleton.1 hv]; rfl) (by simp)]
  simp [Value.cells]
theorem wp_append_list {W0 w : World} {o : Oper} {a : Act} {K : Act → World → Prop} {Q : Exit → Act → World → Prop} (s x : Operand)
    (ho : o.op = .call { callee := .builtin .append, args := #[s, x], argTypes := #[60, 60] })
    (base : Nat) (hB : base ≤ w.heap.size) (v : Value) (cs : List Value) (ls : List (List UInt8)) (n : Nat) (hn : ls.length = n) (hs : a.eval s = v) (hown : w.ownsRow base 65 1 v n cs) (hE : Each W0 cs ls)
    (g c : Nat) (ua : Option Addr) (un uc : Nat) (b : List UInt8) (hx : a.eval x = .slice (some ⟨g, 0, none⟩) 1 c) (hr : w.rangeAt g 0 [.slice ua un uc]) (hu : BytesAt W0 (.slice ua un uc) b) (hlen : n < 1000000)
    (h : ∀ g' c' w', w'.ownsRow base 65 1 (.slice (some ⟨g', 0, none⟩) (n + 1) c') (n + 1) (cs ++ [.slice ua un uc]) → Each W0 (cs ++ [.slice ua un uc]) (ls ++ [b]) → w.grownBy w' v.ownBlock → (v.ownBlock = some g' ∨ g' = w.heap.size) → K (a.put o.dst (.slice (some ⟨g', 0, none⟩) (n + 1) c')) w') : o.wp Tryz.prog a w K Q := by
  obtain ⟨i, hi, hz, h1, h2⟩ := info_slice
  refine wp_append_lies w s x _ ho base _ i (.slice none 0 0) 1 24 Tryz.underlying60 hi hz h1 h2 rfl (by omega) v n cs hs hown ⟨g, 0, none⟩ 1 c [.slice ua un uc] hx rfl (fun j u hj => by rw [Addr.add_mid]; exact hr j u hj) (by intro u hu; rw [List.mem_singleton.1 hu]; rfl) (by omega) (by unfold maxLen; omega) (by omega) hB w.heap.size rfl ?_
  intro g' cap' w' ho' hg hat hlt
  refine h g' cap' w' ho' (hE.append ⟨rfl, fun j u b' hu' hb' => ?_, fun u hu' => ?_⟩) hg hat
  · match j with
    | 0 =>
      simp only [List.getElem?_cons_zero, Option.some.injEq] at hu' hb'
      rw [← hu', ← hb']; exact hu
    | j + 1 => simp at hu'
  · rw [List.mem_singleton.1 hu']; rfl
end Go.Proofs.YtdkcndgehgmadaaGreatDoor
