/-
  Joined: BM2, BM3, BM4, BM5, SO13, S13.
-/
import Derived.Test.YtfmgoehnbaiamaaGreatDoorZBU
import Derived.Test.YtfmgoehnbaiamaaGreatDoorZBS
import Derived.Test.YtfmgoehnbaiamaaGreatDoorZBN
-- A kind's part of a Book: its row, its lists; kept, and one list more told. For Books that hold lists of several kinds.
open Go Go.RowKit Alm
namespace Go.Proofs.YtfmgoehnbaiamaaGreatDoor
/-- A kind's part of a Book that holds n lists in all. -/
structure KB (W : World) (t : TypeId) (size base q n : Nat) (v : Value) (H : List Held) (S : Nat → List (List Value)) : Prop where
  row : Row3 W t base q v H
  lies : Lies W base size H S
  ap : ApartH H q v
  nums : ∀ i, i < H.length → num H i ≤ n
  lngs : ∀ i, i < H.length → lng H i = .slice none 0 0
  lens : ∀ i, i < H.length → (S i).length < 900000
/-- The blocks of a kind. -/
def OfKind (v : Value) (H : List Held) (k : Nat) : Prop := v.ownBlock = some k ∨ InH H k
theorem KB.lt {W : World} {t : TypeId} {size base q n : Nat} {v : Value} {H : List Held} {S : Nat → List (List Value)} (h : KB W t size base q n v H S) {k : Nat} (hk : OfKind v H k) : base ≤ k ∧ k < W.heap.size := by
  rcases hk with hk | ⟨i, hi, hk⟩
  · exact h.row.1.lt k hk
  · exact (h.lies i hi).lt k hk
theorem KB.ne {W : World} {t : TypeId} {size base q n : Nat} {v : Value} {H : List Held} {S : Nat → List (List Value)} (h : KB W t size base q n v H S) {k : Nat} (hk : OfKind v H k) : k ≠ q := by
  rcases hk with hk | ⟨i, hi, hk⟩
  · intro e; subst e; exact h.row.2 hk
  · exact (h.ap i hi k hk).1
theorem KB.keep {X : Nat → Prop} {W W' : World} {t : TypeId} {size base q n : Nat} {v : Value} {H : List Held} {S : Nat → List (List Value)} (h : KB W t size base q n v H S) (hk : Keeps X W W') (hx : ∀ k, OfKind v H k → ¬ X k) : KB W' t size base q n v H S :=
  ⟨h.row.keep hk (fun k h => hx k (.inl h)), fun i hi => (h.lies i hi).keep hk (fun k h => hx k (.inr ⟨i, hi, h⟩)), h.ap, h.nums, h.lngs, h.lens⟩
theorem KB.below {W W' : World} {t : TypeId} {size base q n : Nat} {v : Value} {H : List Held} {S : Nat → List (List Value)} (h : KB W t size base q n v H S) (hb : Below W.heap.size W W') : KB W' t size base q n v H S := h.keep (Keeps.of_below (X := fun _ => False) hb) (fun _ _ h => h)
theorem KB.up {W : World} {t : TypeId} {size base q n m : Nat} {v : Value} {H : List Held} {S : Nat → List (List Value)} (h : KB W t size base q n v H S) (hm : n ≤ m) : KB W t size base q m v H S :=
  ⟨h.row, h.lies, h.ap, fun i hi => Nat.le_trans (h.nums i hi) hm, h.lngs, h.lens⟩
theorem KB.start (W : World) (t : TypeId) (size base q n : Nat) : KB W t size base q n (.slice none 0 0) [] (fun _ => []) :=
  ⟨⟨World.ownsRow_nil _ _ _ _, by simp [Value.ownBlock]⟩, fun i hi => by simp at hi, fun i hi => by simp at hi, fun i hi => by simp at hi, fun i hi => by simp at hi, fun i hi => by simp at hi⟩
/-- One list more is told. -/
theorem KB.tell {W W' : World} {t : TypeId} {size base q n : Nat} {v v' x : Value} {H : List Held} {S : Nat → List (List Value)} {xs : List (List Value)} (h : KB W t size base q n v H S)
    (hrow : Row3 W' t base q v' (H ++ [(x, .slice none 0 0, n + 1)])) (hblk : ∀ k, v'.ownBlock = some k → v.ownBlock = some k ∨ W.heap.size ≤ k) (hk : Keeps (fun i => i = q ∨ v.ownBlock = some i) W W')
    (hl : Lie W base size x xs) (hx : ∀ k, x.ownBlock = some k → k ≠ q ∧ ¬ OfKind v H k) (hn : xs.length < 900000) : KB W' t size base q (n + 1) v' (H ++ [(x, .slice none 0 0, n + 1)]) (more H S xs) := by
  refine ⟨hrow, ?_, ?_, ?_, ?_, ?_⟩
  · intro i hi
    have hin : ∀ k, InH H k → ¬ (k = q ∨ v.ownBlock = some k) := fun k ⟨j, hj, hk2⟩ e => by
      rcases e with e | e
      · exact (h.ap j hj k hk2).1 e
      · exact (h.ap j hj k hk2).2.1 e
    unfold lst more
    rw [hd_append]
    by_cases h1 : i < H.length
    · rw [if_pos h1, if_pos h1]
      exact (h.lies i h1).keep hk (fun k hk2 => hin k ⟨i, h1, hk2⟩)
    · rw [if_neg h1, if_pos (by rw [List.length_append, List.length_singleton] at hi; omega), if_neg h1]
      exact hl.keep hk (fun k hk2 e => by
        rcases e with e | e
        · exact (hx k hk2).1 e
        · exact (hx k hk2).2 (.inl e))
  · intro i hi g hg
    unfold lst at hg ⊢
    rw [hd_append] at hg
    have hq : g ≠ q ∧ g < W.heap.size ∧ v.ownBlock ≠ some g := by
      by_cases h1 : i < H.length
      · rw [if_pos h1] at hg
        exact ⟨(h.ap i h1 g hg).1, ((h.lies i h1).lt g hg).2, (h.ap i h1 g hg).2.1⟩
      · rw [if_neg h1, if_pos (by rw [List.length_append, List.length_singleton] at hi; omega)] at hg
        exact ⟨(hx g hg).1, (hl.lt g hg).2, fun e => (hx g hg).2 (.inl e)⟩
    refine ⟨hq.1, fun e => ?_, fun j hj hne => ?_⟩
    · rcases hblk g e with h1 | h1
      · exact hq.2.2 h1
      · have := hq.2.1; omega
    · rw [hd_append]
      by_cases h1 : i < H.length
      · rw [if_pos h1] at hg
        by_cases h2 : j < H.length
        · rw [if_pos h2]; exact (h.ap i h1 g hg).2.2 j h2 hne
        · rw [if_neg h2, if_pos (by rw [List.length_append, List.length_singleton] at hj; omega)]
          intro e
          exact (hx g e).2 (.inr ⟨i, h1, hg⟩)
      · rw [if_neg h1, if_pos (by rw [List.length_append, List.length_singleton] at hi; omega)] at hg
        by_cases h2 : j < H.length
        · rw [if_pos h2]
          intro e
          exact (hx g hg).2 (.inr ⟨j, h2, e⟩)
        · rw [List.length_append, List.length_singleton] at hi hj; omega
  · intro i hi
    unfold Alm.num
    rw [hd_append]
    by_cases h1 : i < H.length
    · rw [if_pos h1]; exact Nat.le_succ_of_le (h.nums i h1)
    · rw [List.length_append, List.length_singleton] at hi
      rw [if_neg h1, if_pos (by omega)]
      exact Nat.le_refl _
  · intro i hi
    unfold Alm.lng
    rw [hd_append]
    by_cases h1 : i < H.length
    · rw [if_pos h1]; exact h.lngs i h1
    · rw [List.length_append, List.length_singleton] at hi
      rw [if_neg h1, if_pos (by omega)]
  · intro i hi
    unfold more
    by_cases h1 : i < H.length
    · rw [if_pos h1]; exact h.lens i h1
    · rw [if_neg h1]; exact hn
end Go.Proofs.YtfmgoehnbaiamaaGreatDoor
-- Walks: a Book of bytes and sums: made, told.
namespace Go.Proofs.YtfmgoehnbaiamaaGreatDoor
/-- A Book that holds lists of bytes and of sums. -/
structure MBook (W : World) (base q n : Nat) (F : Nat → Value) (HB : List Held) (SB : Nat → List (List Value)) (HS : List Held) (SS : Nat → List (List Value)) : Prop where
  bk : Book W q n F
  nul : ∀ j, 1 ≤ j → j < 10 → j ≠ 1 → j ≠ 5 → F j = .slice none 0 0
  b : KB W 136 1 base q n (F 1) HB SB
  s : KB W 155 32 base q n (F 5) HS SS
  x : ∀ k, OfKind (F 1) HB k → ¬ OfKind (F 5) HS k
  bq : base ≤ q
def OfM (q : Nat) (F : Nat → Value) (HB HS : List Held) (k : Nat) : Prop := k = q ∨ OfKind (F 1) HB k ∨ OfKind (F 5) HS k
theorem MBook.bs {W : World} {base q n : Nat} {F : Nat → Value} {HB HS : List Held} {SB SS : Nat → List (List Value)} (h : MBook W base q n F HB SB HS SS) : base ≤ W.heap.size := Nat.le_of_lt (Nat.lt_of_le_of_lt h.bq h.bk.lt)
theorem MBook.lt {W : World} {base q n : Nat} {F : Nat → Value} {HB HS : List Held} {SB SS : Nat → List (List Value)} (h : MBook W base q n F HB SB HS SS) {k : Nat} (hk : OfM q F HB HS k) : base ≤ k ∧ k < W.heap.size := by
  rcases hk with rfl | hk | hk
  · exact ⟨h.bq, h.bk.lt⟩
  · exact h.b.lt hk
  · exact h.s.lt hk
theorem MBook.keep {X : Nat → Prop} {W W' : World} {base q n : Nat} {F : Nat → Value} {HB HS : List Held} {SB SS : Nat → List (List Value)} (h : MBook W base q n F HB SB HS SS) (hk : Keeps X W W') (hx : ∀ k, OfM q F HB HS k → ¬ X k) : MBook W' base q n F HB SB HS SS :=
  ⟨h.bk.keep hk (hx q (.inl rfl)), h.nul, h.b.keep hk (fun k h => hx k (.inr (.inl h))), h.s.keep hk (fun k h => hx k (.inr (.inr h))), h.x, h.bq⟩
theorem MBook.below {W W' : World} {base q n : Nat} {F : Nat → Value} {HB HS : List Held} {SB SS : Nat → List (List Value)} (h : MBook W base q n F HB SB HS SS) (hb : Below W.heap.size W W') : MBook W' base q n F HB SB HS SS := h.keep (Keeps.of_below (X := fun _ => False) hb) (fun _ _ h => h)
theorem mbook_new (w : World) (base : Nat) (hb : base ≤ w.heap.size) : MBook (w.alloc (.cells #[.int .i64 0, .slice none 0 0, .slice none 0 0, .slice none 0 0, .slice none 0 0, .slice none 0 0, .slice none 0 0, .slice none 0 0, .slice none 0 0, .slice none 0 0] 38)) base w.heap.size 0 (fun _ => .slice none 0 0) [] (fun _ => []) [] (fun _ => []) := by
  have h := sbook_new w base hb
  refine ⟨h.bk, fun _ _ _ _ _ => rfl, KB.start _ _ _ _ _ _, KB.start _ _ _ _ _ _, fun k hk => ?_, hb⟩
  rcases hk with e | ⟨i, hi, _⟩
  · cases e
  · simp at hi
/-- Of what a kind is, one list more told. -/
theorem kind_told {v v' x : Value} {H : List Held} {n N k : Nat} (h : OfKind v' (H ++ [(x, .slice none 0 0, n)]) k) (hb : ∀ k, v'.ownBlock = some k → v.ownBlock = some k ∨ N ≤ k) : OfKind v H k ∨ N ≤ k ∨ x.ownBlock = some k := by
  rcases h with e | ⟨i, hi, e⟩
  · rcases hb k e with e | e
    · exact .inl (.inl e)
    · exact .inr (.inl e)
  · unfold lst at e
    rw [hd_append] at e
    by_cases h1 : i < H.length
    · rw [if_pos h1] at e
      exact .inl (.inr ⟨i, h1, e⟩)
    · rw [if_neg h1, if_pos (by rw [List.length_append, List.length_singleton] at hi; omega)] at e
      exact .inr (.inr e)
set_option maxRecDepth 100000 in
theorem tell_bytes (va : Option Addr) (vn vc : Nat) (xs : List (List Value)) (base q n : Nat) (F : Nat → Value) (HB HS : List Held) (SB SS : Nat → List (List Value)) (w : World) (hb : MBook w base q n F HB SB HS SS) (hv : Lie w base 1 (.slice va vn vc) xs) (hx : ∀ k, (Value.slice va vn vc).ownBlock = some k → ¬ OfM q F HB HS k) (hn : n < 90000) (hH : HB.length < 90000) (hl : xs.length < 900000) :
    Calls Tryz.prog 12 #[.pointer (some ⟨q, 0, none⟩), .slice va vn vc] w fun e w' => e = .returned (.tuple #[]) ∧ ∃ v', MBook w' base q (n + 1) (put F 1 v') (HB ++ [(.slice va vn vc, .slice none 0 0, n + 1)]) (more HB SB xs) HS SS ∧ (∀ k, v'.ownBlock = some k → (F 1).ownBlock = some k ∨ w.heap.size ≤ k) ∧ Keeps (fun i => i = q ∨ (F 1).ownBlock = some i) w w' := by
  have hc := keepByte_any va vn vc (F 1) base q n F HB w hb.bk rfl hb.b.row hb.bs (by omega) (by omega)
  have HC := Lib.hid hc
  have HM := Lib.hid (And.intro hb (And.intro hv (And.intro hx hl)))
  clear hc hb hv hx hH hl hn
  go_enter Tryz.func12, Tryz.ntmps12
  go_wp2_with (go_at_call 51; refine HC.out.mono ?_; rintro e w2 ⟨rfl, hv', hbk, hrow, hblk, hk⟩)
  have hb := HM.out.1
  have hx := HM.out.2.2.1
  refine bodyPost_end (results_none rfl _ _ _) rfl ⟨rfl, hv', ⟨hbk, fun j h1 h2 h3 h4 => ?_, ?_, ?_, fun k h1 h2 => ?_, hb.bq⟩, hblk, hk⟩
  · rw [put_other _ _ h3]; exact hb.nul j h1 h2 h3 h4
  · rw [put_self]
    exact hb.b.tell hrow hblk hk HM.out.2.1 (fun k hk2 => ⟨fun e => hx k hk2 (.inl e), fun e => hx k hk2 (.inr (.inl e))⟩) HM.out.2.2.2
  · rw [put_other _ _ (by decide : (5 : Nat) ≠ 1)]
    exact (hb.s.keep hk (fun k hk2 e => by
      rcases e with e | e
      · exact hb.s.ne hk2 e
      · exact hb.x k (.inl e) hk2)).up (Nat.le_succ n)
  · rw [put_self] at h1
    rw [put_other _ _ (by decide : (5 : Nat) ≠ 1)] at h2
    rcases kind_told h1 hblk with e | e | e
    · exact hb.x k e h2
    · have := (hb.s.lt h2).2; omega
    · exact hx k e (.inr (.inr h2))
set_option maxRecDepth 100000 in
theorem tell_sums (va : Option Addr) (vn vc : Nat) (xs : List (List Value)) (base q n : Nat) (F : Nat → Value) (HB HS : List Held) (SB SS : Nat → List (List Value)) (w : World) (hb : MBook w base q n F HB SB HS SS) (hv : Lie w base 32 (.slice va vn vc) xs) (hx : ∀ k, (Value.slice va vn vc).ownBlock = some k → ¬ OfM q F HB HS k) (hn : n < 90000) (hH : HS.length < 90000) (hl : xs.length < 900000) :
    Calls Tryz.prog 105 #[.pointer (some ⟨q, 0, none⟩), .slice va vn vc] w fun e w' => e = .returned (.tuple #[]) ∧ ∃ v', MBook w' base q (n + 1) (put F 5 v') HB SB (HS ++ [(.slice va vn vc, .slice none 0 0, n + 1)]) (more HS SS xs) ∧ (∀ k, v'.ownBlock = some k → (F 5).ownBlock = some k ∨ w.heap.size ≤ k) ∧ Keeps (fun i => i = q ∨ (F 5).ownBlock = some i) w w' := by
  have hc := keepSum_any va vn vc (F 5) base q n F HS w hb.bk rfl hb.s.row hb.bs (by omega) (by omega)
  have HC := Lib.hid hc
  have HM := Lib.hid (And.intro hb (And.intro hv (And.intro hx hl)))
  clear hc hb hv hx hH hl hn
  go_enter Tryz.func105, Tryz.ntmps105
  go_wp2_with (go_at_call 147; refine HC.out.mono ?_; rintro e w2 ⟨rfl, hv', hbk, hrow, hblk, hk⟩)
  have hb := HM.out.1
  have hx := HM.out.2.2.1
  refine bodyPost_end (results_none rfl _ _ _) rfl ⟨rfl, hv', ⟨hbk, fun j h1 h2 h3 h4 => ?_, ?_, ?_, fun k h1 h2 => ?_, hb.bq⟩, hblk, hk⟩
  · rw [put_other _ _ h4]; exact hb.nul j h1 h2 h3 h4
  · rw [put_other _ _ (by decide : (1 : Nat) ≠ 5)]
    exact (hb.b.keep hk (fun k hk2 e => by
      rcases e with e | e
      · exact hb.b.ne hk2 e
      · exact hb.x k hk2 (.inl e))).up (Nat.le_succ n)
  · rw [put_self]
    exact hb.s.tell hrow hblk hk HM.out.2.1 (fun k hk2 => ⟨fun e => hx k hk2 (.inl e), fun e => hx k hk2 (.inr (.inr e))⟩) HM.out.2.2.2
  · rw [put_self] at h2
    rw [put_other _ _ (by decide : (1 : Nat) ≠ 5)] at h1
    rcases kind_told h2 hblk with e | e | e
    · exact hb.x k h1 e
    · have := (hb.b.lt h1).2; omega
    · exact hx k e (.inr (.inl h1))
end Go.Proofs.YtfmgoehnbaiamaaGreatDoor
-- A kind's part of a Book when it has been written over, and when it has grown: kept while the other kinds go on.
namespace Go.Proofs.YtfmgoehnbaiamaaGreatDoor
theorem KB.fill {W W' : World} {t : TypeId} {size base q n : Nat} {v : Value} {H : List Held} {S : Nat → List (List Value)} {mk : Nat → List Value} (h : KB W t size base q n v H S) (hl : Lies W' base size H (filled mk H S)) (hk : Keeps (InH H) W W') : KB W' t size base q n v H (filled mk H S) :=
  ⟨h.row.keep hk (not_row h.ap), hl, h.ap, h.nums, h.lngs, fun i hi => by rw [filled_len]; exact h.lens i hi⟩
/-- A kind that has grown. -/
structure KG (W : World) (t : TypeId) (size base q : Nat) (v : Value) (mk : Nat → List Value) (H : List Held) (a : Nat → Nat) (L : Nat → Value) : Prop where
  row : Row3 W t base q v (longTo H L H.length)
  lies : ∀ i, i < H.length → Lie W base size (lst H i) (List.replicate (a i) (mk (num H i)))
  long : ∀ i, i < H.length → Lie W base size (L i) (List.replicate (a i + 40) (mk (num H i)))
theorem KG.of_grow {mk : Nat → List Value} {size off : Nat} {t : TypeId} {w W : World} {base q n : Nat} {F : Nat → Value} {v : Value} {H : List Held} {S : Nat → List (List Value)} {L : Nat → Value} (h : GrowI mk size off t w W base q n F v H (filled mk H S) H.length L) : KG W t size base q v mk H (fun i => (S i).length) L :=
  ⟨h.row, fun i hi => h.lies i hi, fun i hi => by
    have := (h.long i hi hi).1
    rwa [filled, List.replicate_append_replicate] at this⟩
/-- The blocks of a kind that has grown. -/
def OfGrown (v : Value) (H : List Held) (L : Nat → Value) (k : Nat) : Prop := OfKind v H k ∨ ∃ i, i < H.length ∧ (L i).ownBlock = some k
theorem KG.keep {X : Nat → Prop} {W W' : World} {t : TypeId} {size base q : Nat} {v : Value} {mk : Nat → List Value} {H : List Held} {a : Nat → Nat} {L : Nat → Value} (h : KG W t size base q v mk H a L) (hk : Keeps X W W') (hx : ∀ k, OfGrown v H L k → ¬ X k) : KG W' t size base q v mk H a L :=
  ⟨h.row.keep hk (fun k h => hx k (.inl (.inl h))), fun i hi => (h.lies i hi).keep hk (fun k h => hx k (.inl (.inr ⟨i, hi, h⟩))), fun i hi => (h.long i hi).keep hk (fun k h => hx k (.inr ⟨i, hi, h⟩))⟩
theorem KG.below {W W' : World} {t : TypeId} {size base q : Nat} {v : Value} {mk : Nat → List Value} {H : List Held} {a : Nat → Nat} {L : Nat → Value} (h : KG W t size base q v mk H a L) (hb : Below W.heap.size W W') : KG W' t size base q v mk H a L := h.keep (Keeps.of_below (X := fun _ => False) hb) (fun _ _ h => h)
/-- Where the blocks of a kind that grew are: its own, or new. -/
theorem grown_of {mk : Nat → List Value} {size off : Nat} {t : TypeId} {w W : World} {base q n : Nat} {F : Nat → Value} {v : Value} {H : List Held} {S : Nat → List (List Value)} {L : Nat → Value} (h : GrowI mk size off t w W base q n F v H S H.length L) {k : Nat} (hk : OfGrown v H L k) : OfKind v H k ∨ w.heap.size ≤ k := by
  rcases hk with hk | ⟨i, hi, hk⟩
  · exact .inl hk
  · rcases (h.long i hi hi).2 k hk with e | e
    · exact .inl (.inr ⟨i, hi, e⟩)
    · exact .inr e
/-- What the look asks of the row. -/
theorem long_told (H : List Held) (L : Nat → Value) (i : Nat) (hi : i < H.length) : lst (longTo H L H.length) i = lst H i ∧ lng (longTo H L H.length) i = L i ∧ num (longTo H L H.length) i = num H i := by
  unfold lst lng num
  rw [hd_longTo H L _ i hi, if_pos hi]
  exact ⟨rfl, rfl, rfl⟩
/-- The looks of both kinds, of kinds that have grown. -/
theorem look_bytes (base q n : Nat) (F : Nat → Value) (H : List Held) (a : Nat → Nat) (L : Nat → Value) (w : World) (hb : Book w q n F) (h : KG w 136 1 base q (F 1) mkB H a L) (hN : ∀ i, i < H.length → num H i < 256) (hA : ∀ i, i < H.length → a i < 900000) (hH : H.length < 100000) : Calls Tryz.prog 85 #[.pointer (some ⟨q, 0, none⟩)] w fun e w' => e = .returned (.bool true) ∧ Below w.heap.size w w' := by
  have hll := length_longTo H L H.length
  refine lookByte_any base q n (F 1) F (longTo H L H.length) a w hb rfl h.row (fun i hi => ?_) (fun i hi => ?_) (fun i hi => ?_) (fun i hi => ?_) (by rw [hll]; exact hH)
  · rw [hll] at hi
    rw [(long_told H L i hi).1, (long_told H L i hi).2.2]
    exact h.lies i hi
  · rw [hll] at hi
    rw [(long_told H L i hi).2.1, (long_told H L i hi).2.2]
    exact h.long i hi
  · rw [hll] at hi
    rw [(long_told H L i hi).2.2]
    exact hN i hi
  · rw [hll] at hi
    exact hA i hi
theorem look_sums (base q n : Nat) (F : Nat → Value) (H : List Held) (a : Nat → Nat) (L : Nat → Value) (w : World) (hb : Book w q n F) (h : KG w 155 32 base q (F 5) mkC H a L) (hN : ∀ i, i < H.length → num H i < 256) (hA : ∀ i, i < H.length → a i < 900000) (hH : H.length < 100000) : Calls Tryz.prog 89 #[.pointer (some ⟨q, 0, none⟩)] w fun e w' => e = .returned (.bool true) ∧ Below w.heap.size w w' := by
  have hll := length_longTo H L H.length
  refine lookSum_any base q n (F 5) F (longTo H L H.length) a w hb rfl h.row (fun i hi => ?_) (fun i hi => ?_) (fun i hi => ?_) (fun i hi => ?_) (by rw [hll]; exact hH)
  · rw [hll] at hi
    rw [(long_told H L i hi).1, (long_told H L i hi).2.2]
    exact h.lies i hi
  · rw [hll] at hi
    rw [(long_told H L i hi).2.1, (long_told H L i hi).2.2]
    exact h.long i hi
  · rw [hll] at hi
    rw [(long_told H L i hi).2.2]
    exact hN i hi
  · rw [hll] at hi
    exact hA i hi
end Go.Proofs.YtfmgoehnbaiamaaGreatDoor
-- Walk: whether the lists of a Book of bytes and sums lie apart.
namespace Go.Proofs.YtfmgoehnbaiamaaGreatDoor
set_option maxRecDepth 100000 in
set_option maxHeartbeats 1000000 in
theorem apart_both (base q n : Nat) (F : Nat → Value) (HB HS : List Held) (SB SS : Nat → List (List Value)) (w : World) (hb : MBook w base q n F HB SB HS SS) (hn : n < 256) (hHB : HB.length < 90000) (hHS : HS.length < 90000) :
    Calls Tryz.prog 22 #[.pointer (some ⟨q, 0, none⟩)] w fun e w' => e = .returned (.bool true) ∧ Keeps (OfM q F HB HS) w w' := by
  have HM := Lib.hid hb
  have hNB : ∀ i, i < HB.length → num HB i < 256 := fun i hi => Nat.lt_of_le_of_lt (hb.b.nums i hi) hn
  have hNS : ∀ i, i < HS.length → num HS i < 256 := fun i hi => Nat.lt_of_le_of_lt (hb.s.nums i hi) hn
  have HN := Lib.hid (And.intro hNB (And.intro hNS (And.intro hHB hHS)))
  have H1 := Lib.hid (fillByte_any base q n (F 1) F HB SB w hb.bk rfl hb.b.row hb.b.lies hb.b.ap hNB (fun i hi => Nat.lt_trans (hb.b.lens i hi) (by decide)) (by omega) hb.b.lngs)
  clear hb hNB hNS hn hHB hHS
  go_enter Tryz.func22, Tryz.ntmps22
  go_wp2_with (go_at_call 67; refine H1.out.mono ?_; rintro e w1 ⟨rfl, hl1, hk1⟩; refine Hid.out ?_)
  refine Lib.hid ?_
  have HB1 := Lib.hid (HM.out.bk.keep hk1 (not_in HM.out.b.ap))
  have HKB1 := Lib.hid (HM.out.b.fill hl1 hk1)
  have HKS1 := Lib.hid (HM.out.s.keep hk1 (fun k hk e => HM.out.x k (.inr e) hk))
  have HK1 := Lib.hid hk1
  clear hl1 hk1 H1
  have H2 := Lib.hid (fillSum_any base q n (F 5) F HS SS w1 HB1.out rfl HKS1.out.row HKS1.out.lies HKS1.out.ap HN.out.2.1 (fun i hi => Nat.lt_trans (HKS1.out.lens i hi) (by decide)) (by have := HN.out.2.2.2; omega) HKS1.out.lngs)
  go_wp2_with (first
    | (go_at_call 68; refine (fillInt_nil q _ F _ HB1.out (HM.out.nul 2 (by omega) (by omega) (by omega) (by omega))).mono ?_; rintro e w2 ⟨rfl, rfl⟩)
    | (go_at_call 69; refine (fillText_nil q _ F _ HB1.out (HM.out.nul 3 (by omega) (by omega) (by omega) (by omega))).mono ?_; rintro e w2 ⟨rfl, rfl⟩)
    | (go_at_call 70; refine (fillByteList_nil q _ F _ HB1.out (HM.out.nul 4 (by omega) (by omega) (by omega) (by omega))).mono ?_; rintro e w2 ⟨rfl, rfl⟩)
    | (go_at_call 71; refine H2.out.mono ?_; rintro e w2 ⟨rfl, hl2, hk2⟩; refine Hid.out ?_))
  refine Lib.hid ?_
  have HB2 := Lib.hid (HB1.out.keep hk2 (not_in HM.out.s.ap))
  have HKB2 := Lib.hid (HKB1.out.keep hk2 (fun k hk e => HM.out.x k hk (.inr e)))
  have HKS2 := Lib.hid (HKS1.out.fill hl2 hk2)
  have HK2 := Lib.hid hk2
  have hbs2 : base ≤ w2.heap.size := Nat.le_trans HM.out.bs (Nat.le_trans HK1.out.size hk2.size)
  have HBS2 := Lib.hid hbs2
  clear hl2 hk2 H2 hbs2
  have H3 := Lib.hid (growByte_any base q n (F 1) F HB (filled mkB HB SB) w2 HB2.out rfl HKB2.out.row HKB2.out.lies HKB2.out.ap HN.out.1 HKB2.out.lens (by have := HN.out.2.2.1; omega) HKB2.out.lngs HBS2.out)
  go_wp2_with (first
    | (go_at_call 72; refine (fillPair_nil q _ F _ HB2.out (HM.out.nul 6 (by omega) (by omega) (by omega) (by omega))).mono ?_; rintro e w3 ⟨rfl, rfl⟩)
    | (go_at_call 73; refine (fillTenant_nil q _ F _ HB2.out (HM.out.nul 7 (by omega) (by omega) (by omega) (by omega))).mono ?_; rintro e w3 ⟨rfl, rfl⟩)
    | (go_at_call 74; refine (fillLease_nil q _ F _ HB2.out (HM.out.nul 8 (by omega) (by omega) (by omega) (by omega))).mono ?_; rintro e w3 ⟨rfl, rfl⟩)
    | (go_at_call 75; refine (fillEvent_nil q _ F _ HB2.out (HM.out.nul 9 (by omega) (by omega) (by omega) (by omega))).mono ?_; rintro e w3 ⟨rfl, rfl⟩)
    | (go_at_call 76; refine H3.out.mono ?_; rintro e w3 ⟨rfl, L, hG⟩; refine Hid.out ?_))
  refine Lib.hid ?_
  have HB3 := Lib.hid hG.book
  have HG3 := Lib.hid hG
  have HKG3 := Lib.hid (KG.of_grow hG)
  have HKS3 := Lib.hid (HKS2.out.keep hG.keep (fun k hk e => HM.out.x k (by
    rcases e with e | e
    · exact .inr e
    · exact .inl e) hk))
  clear hG H3
  have H4 := Lib.hid (growSum_any base q n (F 5) F HS (filled mkC HS SS) w3 HB3.out rfl HKS3.out.row HKS3.out.lies HKS3.out.ap HN.out.2.1 HKS3.out.lens (by have := HN.out.2.2.2; omega) HKS3.out.lngs (Nat.le_trans HBS2.out HG3.out.keep.size))
  go_wp2_with (first
    | (go_at_call 77; refine (growInt_nil q _ F _ HB3.out (HM.out.nul 2 (by omega) (by omega) (by omega) (by omega))).mono ?_; rintro e w4 ⟨rfl, rfl⟩)
    | (go_at_call 78; refine (growText_nil q _ F _ HB3.out (HM.out.nul 3 (by omega) (by omega) (by omega) (by omega))).mono ?_; rintro e w4 ⟨rfl, rfl⟩)
    | (go_at_call 79; refine (growByteList_nil q _ F _ HB3.out (HM.out.nul 4 (by omega) (by omega) (by omega) (by omega))).mono ?_; rintro e w4 ⟨rfl, rfl⟩)
    | (go_at_call 80; refine H4.out.mono ?_; rintro e w4 ⟨rfl, L2, hG2⟩; refine Hid.out ?_))
  refine Lib.hid ?_
  have HB4 := Lib.hid hG2.book
  have HKGS4 := Lib.hid (KG.of_grow hG2)
  have hxs : ∀ k, OfKind (F 5) HS k → ¬ OfGrown (F 1) HB L k := fun k hk e => by
    rcases grown_of HG3.out e with e | e
    · exact HM.out.x k e hk
    · have := (HKS2.out.lt hk).2; omega
  have HKGB4 := Lib.hid (HKG3.out.keep hG2.keep (fun k hk e => hxs k (by
    rcases e with e | e
    · exact .inr e
    · exact .inl e) hk))
  have HK4 := Lib.hid hG2.keep
  clear hG2 hxs H4
  have H5 := Lib.hid (look_bytes base q n F HB _ L w4 HB4.out HKGB4.out HN.out.1 (fun i hi => HM.out.b.lens i hi) (by have := HN.out.2.2.1; omega))
  go_wp2_with (first
    | (go_at_call 81; refine (growPair_nil q _ F _ HB4.out (HM.out.nul 6 (by omega) (by omega) (by omega) (by omega))).mono ?_; rintro e w5 ⟨rfl, rfl⟩)
    | (go_at_call 82; refine (growTenant_nil q _ F _ HB4.out (HM.out.nul 7 (by omega) (by omega) (by omega) (by omega))).mono ?_; rintro e w5 ⟨rfl, rfl⟩)
    | (go_at_call 83; refine (growLease_nil q _ F _ HB4.out (HM.out.nul 8 (by omega) (by omega) (by omega) (by omega))).mono ?_; rintro e w5 ⟨rfl, rfl⟩)
    | (go_at_call 84; refine (growEvent_nil q _ F _ HB4.out (HM.out.nul 9 (by omega) (by omega) (by omega) (by omega))).mono ?_; rintro e w5 ⟨rfl, rfl⟩)
    | (go_at_call 85; refine H5.out.mono ?_; rintro e w5 ⟨rfl, hb5⟩; refine Hid.out ?_))
  refine Lib.hid ?_
  have HB5 := Lib.hid (HB4.out.below hb5)
  have HKGS5 := Lib.hid (HKGS4.out.below hb5)
  have HW5 := Lib.hid hb5
  clear hb5 H5
  have H6 := Lib.hid (look_sums base q n F HS _ L2 w5 HB5.out HKGS5.out HN.out.2.1 (fun i hi => HM.out.s.lens i hi) (by have := HN.out.2.2.2; omega))
  go_wp2_with (first
    | (go_at_call 86; refine (lookInt_nil q _ F _ HB5.out (HM.out.nul 2 (by omega) (by omega) (by omega) (by omega))).mono ?_; rintro e w6 ⟨rfl, rfl⟩)
    | (go_at_call 87; refine (lookText_nil q _ F _ HB5.out (HM.out.nul 3 (by omega) (by omega) (by omega) (by omega))).mono ?_; rintro e w6 ⟨rfl, rfl⟩)
    | (go_at_call 88; refine (lookByteList_nil q _ F _ HB5.out (HM.out.nul 4 (by omega) (by omega) (by omega) (by omega))).mono ?_; rintro e w6 ⟨rfl, rfl⟩)
    | (go_at_call 89; refine H6.out.mono ?_; rintro e w6 ⟨rfl, hb6⟩; refine Hid.out ?_))
  refine Lib.hid ?_
  have HB6 := Lib.hid (HB5.out.below hb6)
  have k1 := HK1.out.mono (Y := OfM q F HB HS) fun k h => .inr (.inl (.inr h))
  have k2 := HK2.out.mono (Y := OfM q F HB HS) fun k h => .inr (.inr (.inr h))
  have k3 := HG3.out.keep.mono (Y := OfM q F HB HS) fun k h => by
    rcases h with h | h
    · exact .inr (.inl (.inr h))
    · exact .inr (.inl (.inl h))
  have k4 := HK4.out.mono (Y := OfM q F HB HS) fun k h => by
    rcases h with h | h
    · exact .inr (.inr (.inr h))
    · exact .inr (.inr (.inl h))
  have HKF := Lib.hid (((((k1.trans k2).trans k3).trans k4).trans (Keeps.of_below HW5.out)).trans (Keeps.of_below hb6))
  clear hb6 H6 k1 k2 k3 k4
  go_wp2_with (first
    | (go_at_call 90; refine (lookPair_nil q _ F _ HB6.out (HM.out.nul 6 (by omega) (by omega) (by omega) (by omega))).mono ?_; rintro e w7 ⟨rfl, rfl⟩)
    | (go_at_call 91; refine (lookTenant_nil q _ F _ HB6.out (HM.out.nul 7 (by omega) (by omega) (by omega) (by omega))).mono ?_; rintro e w7 ⟨rfl, rfl⟩)
    | (go_at_call 92; refine (lookLease_nil q _ F _ HB6.out (HM.out.nul 8 (by omega) (by omega) (by omega) (by omega))).mono ?_; rintro e w7 ⟨rfl, rfl⟩)
    | (go_at_call 93; refine (lookEvent_nil q _ F _ HB6.out (HM.out.nul 9 (by omega) (by omega) (by omega) (by omega))).mono ?_; rintro e w7 ⟨rfl, rfl⟩))
  exact bodyPost_ret (results_tmp rfl _ _ _) rfl ⟨rfl, HKF.out⟩
end Go.Proofs.YtfmgoehnbaiamaaGreatDoor
-- Walk: a show that is told (Book.Show).
namespace Go.Proofs.YtfmgoehnbaiamaaGreatDoor
set_option maxRecDepth 100000 in
theorem tell_show (which : Sum) (va : Option Addr) (vn vc : Nat) (xs : List (List Value)) (base q n : Nat) (F : Nat → Value) (HB HS : List Held) (SB SS : Nat → List (List Value)) (w : World) (hb : MBook w base q n F HB SB HS SS) (hv : Lie w base 32 (.slice va vn vc) xs) (hx : ∀ k, (Value.slice va vn vc).ownBlock = some k → ¬ OfM q F HB HS k) (hn : n < 90000) (hH : HS.length < 90000) (hl : xs.length < 900000) :
    Calls Tryz.prog 34 #[.pointer (some ⟨q, 0, none⟩), shV which (.slice va vn vc)] w fun e w' => e = .returned (.tuple #[]) ∧ ∃ v', MBook w' base q (n + 1) (put F 5 v') HB SB (HS ++ [(.slice va vn vc, .slice none 0 0, n + 1)]) (more HS SS xs) ∧ (∀ k, v'.ownBlock = some k → (F 5).ownBlock = some k ∨ w.heap.size ≤ k) ∧ Keeps (fun i => i = q ∨ (F 5).ownBlock = some i) w w' := by
  obtain ⟨w1, hw1⟩ : ∃ x, x = w.alloc (.cells (cellsShow which (.slice va vn vc)).toArray 63) := ⟨_, rfl⟩
  have r1 : w1.rangeAt w.heap.size 0 (cellsShow which (.slice va vn vc)) := by rw [hw1]; exact range_new w _ _ _ rfl
  have b1 : Below w.heap.size w w1 := by rw [hw1]; exact al (Below.refl _ _) _
  have g1 := slice_at r1
  have hc := tell_sums va vn vc xs base q n F HB HS SB SS w1 (hb.below b1) (hv.keep (Keeps.of_below (X := fun _ => False) b1) (fun _ _ h => h)) hx hn hH hl
  have HC := Lib.hid hc
  have HW := Lib.hid hw1
  have HB1 := Lib.hid b1
  clear hc hb hv hx hH hl hn r1 hw1 b1
  unfold shV
  go_enter Tryz.func34, Tryz.ntmps34
  refine Alm.wp_cut 1 ?_
  intro T hT
  dsimp only [cutN]
  replace hT := Lib.hid hT
  go_wp2_with fail
  refine hT.out _ _ ?_
  clear hT
  dsimp only [dropN]
  change Code.wp _ _ _ _ (w.alloc (.cells (cellsShow which (.slice va vn vc)).toArray 63))
  rw [← HW.out]
  clear HW
  go_wp2_with fail
  refine HC.out.mono ?_
  rintro e w2 ⟨rfl, v', h1, h2, h3⟩
  have H2 := Lib.hid (And.intro h1 (And.intro (fun k hk => (h2 k hk).imp_right (fun h => Nat.le_trans HB1.out.size h) : ∀ k, v'.ownBlock = some k → (F 5).ownBlock = some k ∨ w.heap.size ≤ k) ((Keeps.of_below HB1.out).trans h3)))
  clear h1 h2 h3
  go_wp2_with fail
  exact bodyPost_end (results_none rfl _ _ _) rfl ⟨rfl, v', H2.out.1, H2.out.2.1, H2.out.2.2⟩
end Go.Proofs.YtfmgoehnbaiamaaGreatDoor
-- Walks: law 16's great, of, bits.
namespace Go.Proofs.YtfmgoehnbaiamaaGreatDoor
set_option maxRecDepth 100000 in
theorem great16_any (P : List Keys.Pr) (v : Value) (w : World) (hv : PairsAt w v P) : Calls Tryz.prog 23 #[v] w fun e w' => ∃ r : Bool, e = .returned (.bool r) ∧ (r = false → P.length ≤ 16) ∧ Below w.heap.size w w' := by
  have HV := Lib.hid hv
  obtain ⟨a, cap, rfl, h1, h2⟩ := pairs_form hv
  by_cases hlt : 16 < P.length
  · obtain ⟨N, hN⟩ : ∃ N, N = P.length := ⟨_, rfl⟩
    rw [← hN] at HV h1 hlt ⊢
    clear hv hN h2
    have c1 : decide (16 < N) = true := by simpa using hlt
    have c1' : decide ((16 : Int) < (N : Int)) = true := by simp; omega
    go_enter Tryz.func23, Tryz.ntmps23
    go_wp2_with fail
    exact bodyPost_ret (results_tmp rfl _ _ _) rfl ⟨true, rfl, fun h => by (first | cases h | simp at h), Below.refl _ _⟩
  · obtain ⟨N, hN⟩ : ∃ N, N = P.length := ⟨_, rfl⟩
    rw [← hN] at HV h1 hlt ⊢
    have HN := Lib.hid hN
    clear hv hN h2
    have c1 : decide (16 < N) = false := by simpa using hlt
    have c1' : decide ((16 : Int) < (N : Int)) = false := by simp; omega
    go_enter Tryz.func23, Tryz.ntmps23
    go_wp2_with fail
    refine (psize_any P _ _ HV.out (by rw [← HN.out]; omega)).mono ?_
    rintro e w1 ⟨⟨m, rfl⟩, hb1⟩
    have HB := Lib.hid hb1
    clear hb1
    go_wp2_with fail
    exact bodyPost_ret (results_tmp rfl _ _ _) rfl ⟨_, rfl, fun _ => by omega, HB.out⟩
/-- Pairs in memory stay where maps alone were written. -/
theorem RawAt.put {w W : World} {X : Nat → Prop} {v : Value} {n : Nat} (h : RawAt w v n) (hX : OnMaps X w) (hk : Keeps X w W) : RawAt W v n := by
  obtain ⟨a, cap, cs, rfl, h1, h2, h3, h4⟩ := h
  refine ⟨a, cap, cs, rfl, h1, h2, h3, ?_⟩
  rcases h4 with h4 | ⟨b, o, rfl, hr⟩
  · exact .inl h4
  · by_cases hn : n = 0
    · exact .inl hn
    · refine .inr ⟨b, o, rfl, hk.range hr (range_maps hX hr fun e => ?_)⟩
      have := length_cellsP cs
      rw [e] at this
      simp at this
      omega
/-- What law 16's of has in hand. -/
structure OF (w W : World) (p b j : Nat) (l : List Ent) (L : List Keys.Pr) (xv : Value) (n : Nat) : Prop where
  bw : Below w.heap.size w W
  map : MapIn W p b j l
  prs : prs l = L
  raw : RawAt W xv n
  le : n ≤ j
theorem OF.below {w W W' : World} {p b j : Nat} {l : List Ent} {L : List Keys.Pr} {xv : Value} {n : Nat} (h : OF w W p b j l L xv n) (hb : Below W.heap.size W W') : OF w W' p b j l L xv n :=
  ⟨h.bw.trans (hb.mono h.bw.size), h.map.below hb, h.prs, h.raw.below hb, h.le⟩
end Go.Proofs.YtfmgoehnbaiamaaGreatDoor
