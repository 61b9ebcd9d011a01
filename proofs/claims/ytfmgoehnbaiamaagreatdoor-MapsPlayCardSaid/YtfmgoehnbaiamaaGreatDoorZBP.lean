/-
  Joined: BM4, GB1, BP3, BPM.
-/
import Derived.Test.YtfmgoehnbaiamaaGreatDoorZBO
import Derived.Test.YtfmgoehnbaiamaaGreatDoorZBE
import Derived.Test.YtfmgoehnbaiamaaGreatDoorZAV
import Derived.Test.YtfmgoehnbaiamaaGreatDoorZBB
import Derived.Test.YtfmgoehnbaiamaaGreatDoorZAL
import Derived.Deep.AppendLies
import Derived.WalkMore
import Derived.Great.BuildSlice
import Derived.Test.YtfmgoehnbaiamaaGreatDoorZAZ
-- A kind's part of a Book when it has been written over, and when it has grown: kept while the other kinds go on.
open Go Go.RowKit Alm
namespace Go.Proofs.YtfmgoehnbaiamaaGreatDoor
theorem KB.fill {W W' : World} {t : TypeId} {size base q n : Nat} {v : Value} {H : List Held} {S : Nat → List (List Value)} {mk : Nat → List Value} (h : KB W t size base q n v H S) (hl : Lies W' base size H (filled mk H S)) (hk : Keeps (InH H) W W') : KB W' t size base q n v H (filled mk H S) :=
  ⟨h.row.keep hk (not_row h.ap), hl, h.ap, h.nums, h.lngs, fun i hi => by rw [filled_len]; exact h.lens i hi⟩
/-- A kind that has grown. -/
structure KG (W : World) (t : TypeId) (size base q : Nat) (v : Value) (mk : Nat → List Value) (H : List Held) (a : Nat → Nat) (L : Nat → Value) : Prop where
  row : Row3 W t base q v (longTo H L H.length)
  lies : ∀ i, i < H.length → Lie W base size (lst H i) (List.replicate (a i) (mk (num H i)))
  long : ∀ i, i < H.length → Lie W base size (L i) (List.replicate (a i + 40) (mk (num H i)))
theorem KG.of_grow {mk : Nat → List Value} {size off : Nat} {t : TypeId} {w W : World} {base q n : Nat} {F : Nat → Value} {v : Value} {H : List Held} {S : Nat → List (List Value)} {L : Nat → Value} (h : GrowI mk size off t w W base q n F v H (filled mk H S) H.length L) : KG W t size base q v mk H (fun i => (S i).length) L :=
  ⟨h.row, fun i hi => h.lies i hi, fun i hi => by
    have := (h.long i hi hi).1
    rwa [filled, List.replicate_append_replicate] at this⟩
/-- The blocks of a kind that has grown. -/
def OfGrown (v : Value) (H : List Held) (L : Nat → Value) (k : Nat) : Prop := OfKind v H k ∨ ∃ i, i < H.length ∧ (L i).ownBlock = some k
theorem KG.keep {X : Nat → Prop} {W W' : World} {t : TypeId} {size base q : Nat} {v : Value} {mk : Nat → List Value} {H : List Held} {a : Nat → Nat} {L : Nat → Value} (h : KG W t size base q v mk H a L) (hk : Keeps X W W') (hx : ∀ k, OfGrown v H L k → ¬ X k) : KG W' t size base q v mk H a L :=
  ⟨h.row.keep hk (fun k h => hx k (.inl (.inl h))), fun i hi => (h.lies i hi).keep hk (fun k h => hx k (.inl (.inr ⟨i, hi, h⟩))), fun i hi => (h.long i hi).keep hk (fun k h => hx k (.inr ⟨i, hi, h⟩))⟩
theorem KG.below {W W' : World} {t : TypeId} {size base q : Nat} {v : Value} {mk : Nat → List Value} {H : List Held} {a : Nat → Nat} {L : Nat → Value} (h : KG W t size base q v mk H a L) (hb : Below W.heap.size W W') : KG W' t size base q v mk H a L := h.keep (Keeps.of_below (X := fun _ => False) hb) (fun _ _ h => h)
/-- Where the blocks of a kind that grew are: its own, or new. -/
theorem grown_of {mk : Nat → List Value} {size off : Nat} {t : TypeId} {w W : World} {base q n : Nat} {F : Nat → Value} {v : Value} {H : List Held} {S : Nat → List (List Value)} {L : Nat → Value} (h : GrowI mk size off t w W base q n F v H S H.length L) {k : Nat} (hk : OfGrown v H L k) : OfKind v H k ∨ w.heap.size ≤ k := by
  rcases hk with hk | ⟨i, hi, hk⟩
  · exact .inl hk
  · rcases (h.long i hi hi).2 k hk with e | e
    · exact .inl (.inr ⟨i, hi, e⟩)
    · exact .inr e
/-- What the look asks of the row. -/
theorem long_told (H : List Held) (L : Nat → Value) (i : Nat) (hi : i < H.length) : lst (longTo H L H.length) i = lst H i ∧ lng (longTo H L H.length) i = L i ∧ num (longTo H L H.length) i = num H i := by
  unfold lst lng num
  rw [hd_longTo H L _ i hi, if_pos hi]
  exact ⟨rfl, rfl, rfl⟩
/-- The looks of both kinds, of kinds that have grown. -/
theorem look_bytes (base q n : Nat) (F : Nat → Value) (H : List Held) (a : Nat → Nat) (L : Nat → Value) (w : World) (hb : Book w q n F) (h : KG w 136 1 base q (F 1) mkB H a L) (hN : ∀ i, i < H.length → num H i < 256) (hA : ∀ i, i < H.length → a i < 900000) (hH : H.length < 100000) : Calls Tryz.prog 85 #[.pointer (some ⟨q, 0, none⟩)] w fun e w' => e = .returned (.bool true) ∧ Below w.heap.size w w' := by
  have hll := length_longTo H L H.length
  refine lookByte_any base q n (F 1) F (longTo H L H.length) a w hb rfl h.row (fun i hi => ?_) (fun i hi => ?_) (fun i hi => ?_) (fun i hi => ?_) (by rw [hll]; exact hH)
  · rw [hll] at hi
    rw [(long_told H L i hi).1, (long_told H L i hi).2.2]
    exact h.lies i hi
  · rw [hll] at hi
    rw [(long_told H L i hi).2.1, (long_told H L i hi).2.2]
    exact h.long i hi
  · rw [hll] at hi
    rw [(long_told H L i hi).2.2]
    exact hN i hi
  · rw [hll] at hi
    exact hA i hi
theorem look_sums (base q n : Nat) (F : Nat → Value) (H : List Held) (a : Nat → Nat) (L : Nat → Value) (w : World) (hb : Book w q n F) (h : KG w 155 32 base q (F 5) mkC H a L) (hN : ∀ i, i < H.length → num H i < 256) (hA : ∀ i, i < H.length → a i < 900000) (hH : H.length < 100000) : Calls Tryz.prog 89 #[.pointer (some ⟨q, 0, none⟩)] w fun e w' => e = .returned (.bool true) ∧ Below w.heap.size w w' := by
  have hll := length_longTo H L H.length
  refine lookSum_any base q n (F 5) F (longTo H L H.length) a w hb rfl h.row (fun i hi => ?_) (fun i hi => ?_) (fun i hi => ?_) (fun i hi => ?_) (by rw [hll]; exact hH)
  · rw [hll] at hi
    rw [(long_told H L i hi).1, (long_told H L i hi).2.2]
    exact h.lies i hi
  · rw [hll] at hi
    rw [(long_told H L i hi).2.1, (long_told H L i hi).2.2]
    exact h.long i hi
  · rw [hll] at hi
    rw [(long_told H L i hi).2.2]
    exact hN i hi
  · rw [hll] at hi
    exact hA i hi
end Go.Proofs.YtfmgoehnbaiamaaGreatDoor
-- Plain: a Book that holds lists of any kinds: one list more is told.
namespace Go.Proofs.YtfmgoehnbaiamaaGreatDoor
/-- The type of what a Book holds of a kind; the cells of an element. -/
def tyOf (j : Nat) : TypeId := if j = 1 then 136 else if j = 5 then 155 else if j = 6 then 140 else 152
def szOf (j : Nat) : Nat := if j = 1 then 1 else if j = 5 then 32 else if j = 6 then 33 else 1
def putK {α : Type} (H : Nat → α) (j : Nat) (v : α) : Nat → α := fun i => if i = j then v else H i
theorem putK_self {α : Type} (H : Nat → α) (j : Nat) (v : α) : putK H j v j = v := if_pos rfl
theorem putK_other {α : Type} (H : Nat → α) {i j : Nat} (v : α) (h : i ≠ j) : putK H j v i = H i := if_neg h
/-- A Book that holds lists of kinds. -/
structure GBook (W : World) (base q n : Nat) (F : Nat → Value) (H : Nat → List Held) (S : Nat → Nat → List (List Value)) : Prop where
  bk : Book W q n F
  nul : ∀ j, H j = [] → F j = .slice none 0 0
  k : ∀ j, 1 ≤ j → j < 10 → KB W (tyOf j) (szOf j) base q n (F j) (H j) (S j)
  x : ∀ i j, 1 ≤ i → i < 10 → 1 ≤ j → j < 10 → i ≠ j → ∀ b, OfKind (F i) (H i) b → ¬ OfKind (F j) (H j) b
  bq : base ≤ q
/-- Its blocks. -/
def OfG (q : Nat) (F : Nat → Value) (H : Nat → List Held) (k : Nat) : Prop := k = q ∨ ∃ j, 1 ≤ j ∧ j < 10 ∧ OfKind (F j) (H j) k
theorem GBook.bs {W : World} {base q n : Nat} {F : Nat → Value} {H : Nat → List Held} {S : Nat → Nat → List (List Value)} (h : GBook W base q n F H S) : base ≤ W.heap.size := Nat.le_of_lt (Nat.lt_of_le_of_lt h.bq h.bk.lt)
theorem GBook.lt {W : World} {base q n : Nat} {F : Nat → Value} {H : Nat → List Held} {S : Nat → Nat → List (List Value)} (h : GBook W base q n F H S) {k : Nat} (hk : OfG q F H k) : base ≤ k ∧ k < W.heap.size := by
  rcases hk with rfl | ⟨j, h1, h2, hk⟩
  · exact ⟨h.bq, h.bk.lt⟩
  · exact (h.k j h1 h2).lt hk
theorem GBook.keep {X : Nat → Prop} {W W' : World} {base q n : Nat} {F : Nat → Value} {H : Nat → List Held} {S : Nat → Nat → List (List Value)} (h : GBook W base q n F H S) (hk : Keeps X W W') (hx : ∀ k, OfG q F H k → ¬ X k) : GBook W' base q n F H S :=
  ⟨h.bk.keep hk (hx q (.inl rfl)), h.nul, fun j h1 h2 => (h.k j h1 h2).keep hk (fun k hk => hx k (.inr ⟨j, h1, h2, hk⟩)), h.x, h.bq⟩
theorem GBook.below {W W' : World} {base q n : Nat} {F : Nat → Value} {H : Nat → List Held} {S : Nat → Nat → List (List Value)} (h : GBook W base q n F H S) (hb : Below W.heap.size W W') : GBook W' base q n F H S := h.keep (Keeps.of_below (X := fun _ => False) hb) (fun _ _ h => h)
theorem no_kind (k : Nat) : ¬ OfKind (.slice none 0 0) [] k := fun hk => by
  rcases hk with e | ⟨i, hi, _⟩
  · cases e
  · simp at hi
theorem gbook_new (w : World) (base : Nat) (hb : base ≤ w.heap.size) : GBook (w.alloc (.cells #[.int .i64 0, .slice none 0 0, .slice none 0 0, .slice none 0 0, .slice none 0 0, .slice none 0 0, .slice none 0 0, .slice none 0 0, .slice none 0 0, .slice none 0 0] 38)) base w.heap.size 0 (fun _ => .slice none 0 0) (fun _ => []) (fun _ _ => []) :=
  ⟨(sbook_new w base hb).bk, fun _ _ => rfl, fun _ _ _ => KB.start _ _ _ _ _ _, fun _ _ _ _ _ _ _ k hk => (no_kind k hk).elim, hb⟩
/-- One list more is told. -/
theorem GBook.tell {W W' : World} {base q n : Nat} {F : Nat → Value} {H : Nat → List Held} {S : Nat → Nat → List (List Value)} (h : GBook W base q n F H S) {j : Nat} (h1 : 1 ≤ j) (h2 : j < 10) {v' x : Value} {xs : List (List Value)}
    (hbk : Book W' q (n + 1) (put F j v')) (hrow : Row3 W' (tyOf j) base q v' (H j ++ [(x, .slice none 0 0, n + 1)])) (hblk : ∀ k, v'.ownBlock = some k → (F j).ownBlock = some k ∨ W.heap.size ≤ k) (hk : Keeps (fun i => i = q ∨ (F j).ownBlock = some i) W W')
    (hl : Lie W base (szOf j) x xs) (hx : ∀ k, x.ownBlock = some k → ¬ OfG q F H k) (hn : xs.length < 900000) : GBook W' base q (n + 1) (put F j v') (putK H j (H j ++ [(x, .slice none 0 0, n + 1)])) (putK S j (more (H j) (S j) xs)) := by
  have told : ∀ k, OfKind v' (H j ++ [(x, .slice none 0 0, n + 1)]) k → OfKind (F j) (H j) k ∨ W.heap.size ≤ k ∨ x.ownBlock = some k := fun k hk => kind_told hk hblk
  have oth : ∀ i, 1 ≤ i → i < 10 → i ≠ j → ∀ k, OfKind (F i) (H i) k → ¬ OfKind v' (H j ++ [(x, .slice none 0 0, n + 1)]) k := fun i h3 h4 h5 k hk e => by
    rcases told k e with e | e | e
    · exact h.x i j h3 h4 h1 h2 h5 k hk e
    · have := ((h.k i h3 h4).lt hk).2; omega
    · exact hx k e (.inr ⟨i, h3, h4, hk⟩)
  refine ⟨hbk, fun i hi => ?_, fun i h3 h4 => ?_, fun a b h3 h4 h5 h6 hab k ha hb => ?_, h.bq⟩
  · by_cases e : i = j
    · subst e; rw [putK_self] at hi; simp at hi
    · rw [putK_other _ _ e] at hi; rw [put_other _ _ e]; exact h.nul i hi
  · by_cases e : i = j
    · subst e
      rw [put_self, putK_self, putK_self]
      exact (h.k i h1 h2).tell hrow hblk hk hl (fun k hk2 => ⟨fun e => hx k hk2 (.inl e), fun e => hx k hk2 (.inr ⟨i, h1, h2, e⟩)⟩) hn
    · rw [put_other _ _ e, putK_other _ _ e, putK_other _ _ e]
      exact ((h.k i h3 h4).keep hk (fun k hk2 e2 => by
        rcases e2 with e2 | e2
        · exact (h.k i h3 h4).ne hk2 e2
        · exact h.x i j h3 h4 h1 h2 e k hk2 (.inl e2))).up (Nat.le_succ n)
  · by_cases ea : a = j
    · have eb : b ≠ j := fun eb => hab (by rw [ea, eb])
      subst ea
      rw [put_self, putK_self] at ha
      rw [put_other _ _ eb, putK_other _ _ eb] at hb
      exact oth b h5 h6 eb k hb ha
    · rw [put_other _ _ ea, putK_other _ _ ea] at ha
      by_cases eb : b = j
      · subst eb
        rw [put_self, putK_self] at hb
        exact oth a h3 h4 ea k ha hb
      · rw [put_other _ _ eb, putK_other _ _ eb] at hb
        exact h.x a b h3 h4 h5 h6 hab k ha hb
/-- Of which blocks a Book is that was told one list more. -/
theorem ofG_told {q n N : Nat} {F : Nat → Value} {H : Nat → List Held} {j : Nat} (h1 : 1 ≤ j) (h2 : j < 10) {v' x : Value} (hblk : ∀ k, v'.ownBlock = some k → (F j).ownBlock = some k ∨ N ≤ k) {k : Nat} (h : OfG q (put F j v') (putK H j (H j ++ [(x, .slice none 0 0, n + 1)])) k) : OfG q F H k ∨ N ≤ k ∨ x.ownBlock = some k := by
  rcases h with rfl | ⟨i, h3, h4, hk⟩
  · exact .inl (.inl rfl)
  · by_cases e : i = j
    · subst e
      rw [put_self, putK_self] at hk
      rcases kind_told hk hblk with e | e
      · exact .inl (.inr ⟨i, h1, h2, e⟩)
      · exact .inr e
    · rw [put_other _ _ e, putK_other _ _ e] at hk
      exact .inl (.inr ⟨i, h3, h4, hk⟩)
set_option maxRecDepth 100000 in
theorem tell_bytesG (va : Option Addr) (vn vc : Nat) (xs : List (List Value)) (base q n : Nat) (F : Nat → Value) (H : Nat → List Held) (S : Nat → Nat → List (List Value)) (w : World) (hb : GBook w base q n F H S) (hv : Lie w base 1 (.slice va vn vc) xs) (hx : ∀ k, (Value.slice va vn vc).ownBlock = some k → ¬ OfG q F H k) (hn : n < 90000) (hH : (H 1).length < 90000) (hl : xs.length < 900000) :
    Calls Tryz.prog 12 #[.pointer (some ⟨q, 0, none⟩), .slice va vn vc] w fun e w' => e = .returned (.tuple #[]) ∧ ∃ v', GBook w' base q (n + 1) (put F 1 v') (putK H 1 (H 1 ++ [(.slice va vn vc, .slice none 0 0, n + 1)])) (putK S 1 (more (H 1) (S 1) xs)) ∧ (∀ k, v'.ownBlock = some k → (F 1).ownBlock = some k ∨ w.heap.size ≤ k) ∧ Keeps (fun i => i = q ∨ (F 1).ownBlock = some i) w w' := by
  have hc := keepByte_any va vn vc (F 1) base q n F (H 1) w hb.bk rfl (hb.k 1 (by decide) (by decide)).row hb.bs (by omega) (by omega)
  have HC := Lib.hid hc
  have HM := Lib.hid (And.intro hb (And.intro hv (And.intro hx hl)))
  clear hc hb hv hx hH hl hn
  go_enter Tryz.func12, Tryz.ntmps12
  go_wp2_with (go_at_call 51; refine HC.out.mono ?_; rintro e w2 ⟨rfl, hv', hbk, hrow, hblk, hk⟩)
  exact bodyPost_end (results_none rfl _ _ _) rfl ⟨rfl, hv', HM.out.1.tell (by decide) (by decide) hbk hrow hblk hk HM.out.2.1 HM.out.2.2.1 HM.out.2.2.2, hblk, hk⟩
end Go.Proofs.YtfmgoehnbaiamaaGreatDoor
-- Walk: a Book keeps a list of pairs (keepPair).
namespace Go.Proofs.YtfmgoehnbaiamaaGreatDoor
theorem info_heldP : ∃ i z, Tryz.prog.info? 140 = some i ∧ i.zero = some z ∧ i.size = 3 ∧ i.bytes = 56 ∧ z.cells.size = 3 := by
  have h : (Tryz.prog.info? 140).map (fun i => (i.zero.map fun z => z.cells.size, i.size, i.bytes)) = some (some 3, 3, 56) := by kernel_rfl
  obtain ⟨i, hi, h2⟩ := Option.map_eq_some_iff.1 h
  simp only [Prod.mk.injEq] at h2
  obtain ⟨z, hz, hz2⟩ := Option.map_eq_some_iff.1 h2.1
  exact ⟨i, z, hi, hz, h2.2.1, h2.2.2, hz2⟩
theorem wp_lit_heldP {w : World} {o : Oper} {a : Act} {K : Act → World → Prop} {Q : Exit → Act → World → Prop} (x : Operand) (ho : o.op = .buildSlice 33 1 #[(0, x)]) (s : Held) (hx : a.eval x = .agg (cellsH s).toArray)
    (h : K (a.put o.dst (.slice (some ⟨w.heap.size, 0, none⟩) 1 1)) (w.alloc (.cells (cellsH s).toArray 140))) : o.wp Tryz.prog a w K Q := by
  obtain ⟨i, z, hi, hz, hs, hb, hzs⟩ := info_heldP
  refine wp_buildSlice _ 140 1 _ ho (cellsH s).toArray i z Tryz.underlying33 hi hz (by rw [hs]; omega) (by rw [hs]; omega) ?_ h
  have hp : ((#[(0, x)] : Array (Nat × Operand)).toList.map fun (i, x) => (i, a.eval x)) = (([(.agg (cellsH s).toArray : Value)]).zipIdx 0).map fun x => (x.2, x.1) := by simp [hx]
  rw [Array.toList_map, hp, hs, Great.fill_whole (s := 3) (by omega) [(.agg (cellsH s).toArray : Value)] _ (fun v hv => by rw [List.mem_singleton.1 hv]; simp [Value.cells, length_cellsH]) (by simp)]
  simp [Value.cells]
theorem wp_append_heldP {w : World} {o : Oper} {a : Act} {K : Act → World → Prop} {Q : Exit → Act → World → Prop} (s x : Operand)
    (ho : o.op = .call { callee := .builtin .append, args := #[s, x], argTypes := #[33, 33] })
    (base : Nat) (v : Value) (l : List Held) (n : Nat) (hn : l.length = n) (hs : a.eval s = v) (hown : w.ownsRow base 140 3 v n (cellsHs l))
    (b off c : Nat) (y : Held) (hy1 : y.1.oneCell' = true) (hy2 : y.2.1.oneCell' = true) (hx : a.eval x = .slice (some ⟨b, off, none⟩) 1 c) (hr : w.rangeAt b off (cellsH y)) (hl : n < 1000000) (hB : base ≤ w.heap.size)
    (h : ∀ g cap w', w'.ownsRow base 140 3 (.slice (some ⟨g, 0, none⟩) (n + 1) cap) (n + 1) (cellsHs (l ++ [y])) → w.grownBy w' v.ownBlock → (v.ownBlock = some g ∨ g = w.heap.size) → g < w'.heap.size → K (a.put o.dst (.slice (some ⟨g, 0, none⟩) (n + 1) cap)) w') : o.wp Tryz.prog a w K Q := by
  obtain ⟨i, z, hi, hz, h1, h2, h3⟩ := info_heldP
  refine wp_append_lies w s x _ ho base _ i z 3 56 Tryz.underlying33 hi hz h1 h2 h3 (by omega) v n (cellsHs l) hs hown ⟨b, off, none⟩ 1 c (cellsH y) hx (by rw [length_cellsH]) (fun j u hj => by rw [Addr.add_mid]; exact hr j u hj) (fun u hu => by
    unfold cellsH at hu
    simp only [List.mem_cons, List.not_mem_nil, or_false] at hu
    rcases hu with rfl | rfl | rfl
    · exact hy1
    · exact hy2
    · rfl) (by omega) (by unfold maxLen; omega) (by omega) hB w.heap.size rfl ?_
  intro g cap w' ho' hg hat hlt
  refine h g cap w' ?_ hg hat hlt
  rw [cellsHs_append, cellsHs_one]; exact ho'
set_option maxRecDepth 100000 in
set_option maxHeartbeats 1000000 in
theorem keepPair_any (va : Option Addr) (vn vc : Nat) (hv : Value) (base q n : Nat) (F : Nat → Value) (H : List Held) (w : World) (hb : Book w q n F) (hF : F 6 = hv) (hr : Row3 w 140 base q hv H) (hbs : base ≤ w.heap.size) (hn : n < 100000) (hH : H.length < 100000) :
    Calls Tryz.prog 58 #[.pointer (some ⟨q, 0, none⟩), .slice va vn vc] w fun e w' => e = .returned (.tuple #[]) ∧ ∃ hv', Book w' q (n + 1) (put F 6 hv') ∧ Row3 w' 140 base q hv' (H ++ [(.slice va vn vc, .slice none 0 0, n + 1)]) ∧ (∀ k, hv'.ownBlock = some k → hv.ownBlock = some k ∨ w.heap.size ≤ k) ∧ Keeps (fun i => i = q ∨ hv.ownBlock = some i) w w' := by
  have g1 := hb.cn
  have hf : w.frozen? ⟨q, 0, none⟩ = false := (hb.th 0 (by omega)).2
  obtain ⟨m, hm⟩ : ∃ m : Int, m = ((n + 1 : Nat) : Int) := ⟨_, rfl⟩
  have hw : wrap64 m = m := by rw [hm]; unfold wrap64; omega
  have hw2 : (n : Int) + 1 = m := by rw [hm]; rfl
  have hb1 := hb.count (n + 1)
  have hk1 := keepsC q [.int .i64 ((n + 1 : Nat) : Int)] 0 w
  rw [← hm] at hb1 hk1
  change Keeps _ _ (w.setCell ⟨q, 0, none⟩ (.int .i64 m)) at hk1
  have hr1 : Row3 (w.setCell ⟨q, 0, none⟩ (.int .i64 m)) 140 base q hv H := hr.keep hk1 (fun k hk e => hr.2 (by rw [hk, e]))
  have H1 := Lib.hid (And.intro hb1 (And.intro (hk1.mono (Y := fun i => i = q ∨ hv.ownBlock = some i) fun k h => .inl h) (And.intro hr1 (Nat.le_trans hbs hk1.size))))
  have HM := Lib.hid hm
  have HV := Lib.hid (And.intro hH (And.intro hr.2 hF))
  have HW0 := Lib.hid hk1.size
  clear hb hb1 hk1 hm hH hn hr hr1 hF hbs
  go_enter Tryz.func58, Tryz.ntmps58
  go_wp2_with fail
  generalize w.setCell ⟨q, 0, none⟩ (.int .i64 m) = w1 at *
  clear g1 hf hw hw2
  have hd := (Below.refl w1.heap.size w1).drew
  have H2 := Lib.hid (And.intro (H1.out.1.below hd) (And.intro (H1.out.2.1.trans (Keeps.of_below hd)) (And.intro (H1.out.2.2.1.below hd) (And.intro H1.out.2.2.2 HW0.out))))
  clear hd H1 HW0
  refine wp_region_sched (fun V => Below w1.drew.heap.size w1.drew V) [.t 0, .t 1, .t 2, .t 3, .t 5, .t 6, .t 7, .t 8, .s 4, .e 9 true, .t 10, .e 11 true, .e 12 false, .t 13, .t 14, .e 15 false] (by kernel_rfl) (by kernel_rfl) (by intro c a d v w h; cases d <;> exact h) ?_
  change wpS _ _ _ _ _ _ _ w1.drew
  have hsz : w1.drew.heap.size = w1.heap.size := rfl
  rw [← hsz] at H2
  clear hsz
  generalize w1.drew = V at *
  iterate 8
    refine wpS_t rfl (v := ?_) (by rfl) (fun W => ?_) ?_
    rotate_left
    · go_simp
      try rfl
    try simp only [Act.put, List.setIfInBounds_toArray, List.set_cons_zero, List.set_cons_succ]
  refine wpS_s (Below.refl _ _) rfl (v := hv) (by rfl) (fun W hW => ?_) ?_
  · have g : W.cell? ⟨q, 6, none⟩ = some hv := by rw [← HV.out.2.2]; exact (Keeps.of_below (X := fun _ => False) hW).cell (H2.out.1.cs 6 (by omega) (by omega)) (fun h => h)
    go_simp
  try simp only [Act.put, List.setIfInBounds_toArray, List.set_cons_zero, List.set_cons_succ]
  refine wpS_k rfl (by rfl) (fun K hK => ?_)
  have g := H2.out.1.cn
  rw [← HM.out] at g
  go_simp
  refine hK _ _ ⟨Below.refl _ _, ?_⟩; clear hK K
  try simp only [Act.put, List.setIfInBounds_toArray, List.set_cons_zero, List.set_cons_succ]
  clear g
  iterate 1
    refine wpS_t rfl (v := ?_) (by rfl) (fun W => ?_) ?_
    rotate_left
    · go_simp
      try rfl
    try simp only [Act.put, List.setIfInBounds_toArray, List.set_cons_zero, List.set_cons_succ]
  refine wpS_k rfl (by rfl) (fun K hK => ?_)
  refine wp_lit_heldP _ rfl (.slice va vn vc, .slice none 0 0, n + 1) (by rw [cellsH, ← HM.out]; rfl) ?_
  have hb3 := al (Below.refl V.heap.size V) (.cells (cellsH (.slice va vn vc, .slice none 0 0, n + 1)).toArray 140)
  have hr3 := range_new V (cellsH (.slice va vn vc, .slice none 0 0, n + 1)).toArray 140 _ rfl
  have H3 := Lib.hid (And.intro hb3 hr3)
  clear hb3 hr3
  refine hK _ _ ⟨by exact H3.out.1, ?_⟩; clear hK K
  try simp only [Act.put, List.setIfInBounds_toArray, List.set_cons_zero, List.set_cons_succ]
  generalize V.alloc (.cells (cellsH (.slice va vn vc, .slice none 0 0, n + 1)).toArray 140) = V3 at *
  refine wpS_e rfl (by rfl) (fun K hK => ?_)
  have hown3 : V3.ownsRow base 140 3 hv H.length (cellsHs H) := (H2.out.2.2.1.below H3.out.1).1
  refine wp_append_heldP _ _ (by rfl) base hv H H.length rfl (by rfl) hown3 V.heap.size 0 1 (.slice va vn vc, .slice none 0 0, n + 1) rfl rfl (by rfl) H3.out.2 (by have := HV.out.1; omega) (Nat.le_trans (Nat.le_trans H2.out.2.2.2.1 (Nat.le_refl _)) H3.out.1.size) ?_
  intro g cap W4 ho hg hat hlt
  have hq3 : q < V.heap.size := H2.out.1.lt
  have hk4 : Keeps (fun i => hv.ownBlock = some i) V3 W4 := Keeps.of_grown hg (fun k hk => hk)
  have hgq : g ≠ q := by
    intro e
    rcases hat with h | h
    · exact HV.out.2.1 (by rw [h, e])
    · have := H3.out.1.size
      omega
  have hgB : hv.ownBlock = some g ∨ V.heap.size ≤ g := by
    rcases hat with h | h
    · exact .inl h
    · exact .inr (by rw [h]; exact H3.out.1.size)
  have hkV : Keeps (fun i => hv.ownBlock = some i) V W4 := (Keeps.of_below H3.out.1).trans hk4
  have hbk4 : Book W4 q (n + 1) F := H2.out.1.keep hkV (fun h => HV.out.2.1 h)
  have H4 := Lib.hid (And.intro ho (And.intro hgq (And.intro hbk4 (And.intro hgB hkV))))
  clear hown3 hg hat hlt hq3 hk4 hgq hkV hbk4 hgB ho
  refine hK _ _ ?_; clear hK K
  try simp only [Act.put, List.setIfInBounds_toArray, List.set_cons_zero, List.set_cons_succ]
  iterate 2
    refine wpS_t rfl (v := ?_) (by rfl) (fun W => ?_) ?_
    rotate_left
    · go_simp
      try rfl
    try simp only [Act.put, List.setIfInBounds_toArray, List.set_cons_zero, List.set_cons_succ]
  refine wpS_e rfl (by rfl) (fun K hK => ?_)
  have hf : W4.frozen? ⟨q, 6, none⟩ = false := (H4.out.2.2.1.th 6 (by omega)).2
  have hu5 := H4.out.2.2.1.cs 6 (by omega) (by omega)
  go_simp
  refine hK _ _ ?_; clear hK K
  try simp only [Act.put, List.setIfInBounds_toArray, List.set_cons_zero, List.set_cons_succ]
  clear hf hu5
  refine wpS_done ?_
  go_wp2_with fail
  have hbk := H4.out.2.2.1.list (k := 6) (by omega) (by omega) (.slice (some ⟨g, 0, none⟩) (H.length + 1) cap)
  have hk5 := (H4.out.2.2.2.2.mono (Y := fun i => i = q ∨ hv.ownBlock = some i) fun k h => .inr h).trans ((keepsC q [.slice (some ⟨g, 0, none⟩) (H.length + 1) cap] 6 W4).mono fun k h => .inl h)
  have hkq := keepsC q [.slice (some ⟨g, 0, none⟩) (H.length + 1) cap] 6 W4
  refine bodyPost_end (results_none rfl _ _ _) rfl ⟨rfl, _, hbk, ⟨?_, fun h => H4.out.2.1 (by simpa [Value.ownBlock] using h)⟩, fun k hk => ?_, H2.out.2.1.trans hk5⟩
  · have ho5 := hkq.owns H4.out.1 (fun k hk e => H4.out.2.1 (by rw [← e]; simpa [Value.ownBlock] using hk))
    rw [List.length_append]
    exact ho5
  · obtain rfl : g = k := by simpa [Value.ownBlock] using hk
    rcases H4.out.2.2.2.1 with h | h
    · exact .inl h
    · exact .inr (Nat.le_trans H2.out.2.2.2.2 h)
end Go.Proofs.YtfmgoehnbaiamaaGreatDoor
-- Walks: a Book's marks of pairs (markPair, isPair).
namespace Go.Proofs.YtfmgoehnbaiamaaGreatDoor
/-- The mark of a number among pairs. -/
noncomputable def pkP (n : Nat) : PE := (mkS (UInt8.ofNat n), none, 0, 0)
/-- In cells. -/
noncomputable def mkP (n : Nat) : List Value := encP (pkP n)
theorem length_mkP (n : Nat) : (mkP n).length = 33 := length_encP _
def litP (q : Int) : Array Value := (#[.int .u8 q, .int .u8 0, .int .u8 0, .int .u8 0, .int .u8 0, .int .u8 0, .int .u8 0, .int .u8 0, .int .u8 0, .int .u8 0, .int .u8 0, .int .u8 0, .int .u8 0, .int .u8 0, .int .u8 0, .int .u8 0, .int .u8 0, .int .u8 0, .int .u8 0, .int .u8 0, .int .u8 0, .int .u8 0, .int .u8 0, .int .u8 0, .int .u8 0, .int .u8 0, .int .u8 0, .int .u8 0, .int .u8 0, .int .u8 0, .int .u8 0, .int .u8 0] : Array Value).push (.slice none 0 0)
set_option maxRecDepth 100000 in
theorem build_mkp (q : Int) (w : World) : (Instr.build 41 #[(0, .agg #[.int .u8 q, .int .u8 0, .int .u8 0, .int .u8 0, .int .u8 0, .int .u8 0, .int .u8 0, .int .u8 0, .int .u8 0, .int .u8 0, .int .u8 0, .int .u8 0, .int .u8 0, .int .u8 0, .int .u8 0, .int .u8 0, .int .u8 0, .int .u8 0, .int .u8 0, .int .u8 0, .int .u8 0, .int .u8 0, .int .u8 0, .int .u8 0, .int .u8 0, .int .u8 0, .int .u8 0, .int .u8 0, .int .u8 0, .int .u8 0, .int .u8 0, .int .u8 0])]).run Tryz.prog w = .ok (.agg (litP q)) w := by kernel_rfl
theorem val_pq {q : Int} {b : UInt8} (h : q = ((b.toNat : Nat) : Int)) : (Value.agg (litP q)) = .agg (encP (mkS b, none, 0, 0)).toArray := by rw [h, mkS_eq]; rfl
theorem u8_nat {n : Nat} (h : n < 256) : ((n : Nat) : Int) = (((UInt8.ofNat n).toNat : Nat) : Int) := by
  have : ((UInt8.ofNat n).toNat : Nat) = n := by simp; omega
  rw [this]
set_option maxRecDepth 100000 in
theorem markPair_any (n : Nat) (w : World) (hn : n < 256) : Calls Tryz.prog 131 #[.int .i64 ((n : Nat) : Int)] w fun e w' => e = .returned (.agg (encP (pkP n)).toArray) ∧ Below w.heap.size w w' := by
  obtain ⟨q, hq⟩ : ∃ q, q = ((n : Nat) : Int) := ⟨_, rfl⟩
  have hm : q % 256 = q := by omega
  have hv : (Value.agg (litP q)) = .agg (encP (pkP n)).toArray := val_pq (by rw [hq]; exact u8_nat hn)
  have hbp := build_mkp q
  rw [← hq]
  obtain ⟨w1, hw1⟩ : ∃ x, x = w.alloc (.cells (encP (zeroSum, none, 0, 0)).toArray 41) := ⟨_, rfl⟩
  have b1 : Below w.heap.size w w1 := by rw [hw1]; exact al (Below.refl _ _) _
  have hsz : (encP (pkP n)).toArray.size = 33 := by rw [List.size_toArray, length_encP]
  have hsz0 : (encP (zeroSum, none, 0, 0)).toArray.size = 33 := by rw [List.size_toArray, length_encP]
  have t1 : w1.there w.heap.size 0 33 := by
    have := there_new w (encP (zeroSum, none, 0, 0)).toArray 41
    rw [hsz0] at this
    rw [hw1]; exact this
  have HSZ := Lib.hid hsz
  clear hsz hsz0
  have HB := Lib.hid (And.intro b1 t1)
  have HV := Lib.hid hv
  have HW := Lib.hid hw1
  clear hq hn hv b1 t1 hw1
  go_enter Tryz.func131, Tryz.ntmps131
  refine Alm.wp_cut 1 ?_
  intro T hT
  dsimp only [cutN]
  replace hT := Lib.hid hT
  go_wp2_with fail
  refine hT.out _ _ ?_
  clear hT
  dsimp only [dropN]
  change Code.wp _ _ _ _ (w.alloc (.cells (encP (zeroSum, none, 0, 0)).toArray 41))
  rw [← HW.out]
  clear HW
  clear hbp
  go_wp2_with (refine wpList_store_mid rfl _ _ _ rfl w.heap.size 0 (encP (pkP n)).toArray rfl HV.out (by rw [HSZ.out]; exact HB.out.2) (by rw [HSZ.out]; exact infoPair) (all_encP _) ?_)
  exact bodyPost_ret (results_mid Tryz.results131 _ _ w.heap.size 0 (encP (pkP n)) _ rfl (range_stored _ _ _ _ (by rw [length_encP]; exact World.there_setCells HB.out.2 _ _ _)) Tryz.underlying41 rfl (by rw [length_encP]; exact infoPair)) rfl ⟨rfl, setCells_below _ (Nat.le_refl _) _ _ _ _ HB.out.1⟩
set_option maxRecDepth 100000 in
theorem isPair_any (n : Nat) (w : World) (hn : n < 256) : Calls Tryz.prog 140 #[.agg (encP (pkP n)).toArray, .int .i64 ((n : Nat) : Int)] w fun e w' => e = .returned (.bool true) ∧ Below w.heap.size w w' := by
  obtain ⟨q, hq⟩ : ∃ q, q = ((n : Nat) : Int) := ⟨_, rfl⟩
  have hm : q % 256 = q := by omega
  have hvq := val_mq (q := q) (b := UInt8.ofNat n) (by rw [hq]; exact u8_nat hn)
  have heq2 : ∀ w, (Op.equalIn 10000 24 (.agg (cellsOf (mkS (UInt8.ofNat n))).toArray) (Value.agg #[.int .u8 q, .int .u8 0, .int .u8 0, .int .u8 0, .int .u8 0, .int .u8 0, .int .u8 0, .int .u8 0, .int .u8 0, .int .u8 0, .int .u8 0, .int .u8 0, .int .u8 0, .int .u8 0, .int .u8 0, .int .u8 0, .int .u8 0, .int .u8 0, .int .u8 0, .int .u8 0, .int .u8 0, .int .u8 0, .int .u8 0, .int .u8 0, .int .u8 0, .int .u8 0, .int .u8 0, .int .u8 0, .int .u8 0, .int .u8 0, .int .u8 0, .int .u8 0])).run Tryz.prog w = .ok true w := fun w => by
    rw [hvq]
    have := eq_marks (mkS (UInt8.ofNat n)) (mkS (UInt8.ofNat n)) w
    rwa [decide_eq_true rfl] at this
  rw [← hq]
  have hr := range_new w (encP (pkP n)).toArray 41 _ rfl
  have HB := Lib.hid (And.intro (al (Below.refl w.heap.size w) (.cells (encP (pkP n)).toArray 41)) (encP_key hr))
  clear hq hn hvq hr
  obtain ⟨z, hz⟩ : ∃ z, z = mkS (UInt8.ofNat n) := ⟨_, rfl⟩
  have hz1 : (pkP n).1 = z := by rw [hz]; rfl
  rw [hz1] at HB
  rw [← hz] at heq2
  clear hz hz1
  obtain ⟨y, hy⟩ : ∃ y, y = pkP n := ⟨_, rfl⟩
  rw [← hy] at HB ⊢
  clear hy
  go_enter Tryz.func140, Tryz.ntmps140
  go_wp2_with (refine wpList_load_sum rfl _ rfl w.heap.size 0 rfl z HB.out.2 ?_)
  exact bodyPost_ret (results_tmp rfl _ _ _) rfl ⟨rfl, HB.out.1⟩
end Go.Proofs.YtfmgoehnbaiamaaGreatDoor
