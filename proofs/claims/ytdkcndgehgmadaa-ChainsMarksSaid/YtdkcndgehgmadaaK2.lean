/-
  Walks: slices.Clone and Clip of bytes; chains: New, none, Size.
-/
import Derived.Test.YtdkcndgehgmadaaK1
open Go Go.RowKit Alm
namespace Go.Proofs.Ytdkcndgehgmadaa
/-- Bytes of one's own: no older memory. -/
def BytesNew (w : World) (base : Nat) (v : Value) (l : List UInt8) : Prop := BytesAt w v l ∧ ∀ k, v.ownBlock = some k → base ≤ k ∧ k < w.heap.size
set_option maxRecDepth 100000 in
theorem clone_bytes (w : World) (v : Value) (l : List UInt8) (h : BytesAt w v l) (hl : l.length < 4000000000) : Calls Try.prog 77 #[v] w fun e w' => ∃ v', e = .returned v' ∧ BytesNew w' w.heap.size v' l ∧ Below w.heap.size w w' := by
  have e1 := @Lib.run_eql_slice_nil Try.prog
  obtain ⟨i0, hi0, hz0⟩ := Option.map_eq_some_iff.1 infoByteZ
  simp only [Prod.mk.injEq] at hz0
  have HI := Lib.hid hi0
  have HZ := Lib.hid hz0
  clear hi0 hz0
  obtain ⟨a, cap, rfl, h1, h2, h3⟩ := h
  by_cases hn : l = []
  · subst hn
    cases a with
    | none =>
      go_enter Try.func77, Try.ntmps77
      go_wp2_with fail
      refine bodyPost_ret (results_tmp rfl _ _ _) rfl ?_
      exact ⟨_, rfl, ⟨⟨none, 0, rfl, by simp, by decide, .inl rfl⟩, fun k hk => by cases hk⟩, Below.refl _ _⟩
    | some a =>
      go_enter Try.func77, Try.ntmps77
      have hown : (w.alloc (.cells #[] 5)).ownsRow w.heap.size 5 1 (.slice (some ⟨w.heap.size, 0, none⟩) 0 0) 0 [] := World.ownsRow_made w #[] 0 (Nat.le_refl _) (by unfold maxLen; omega) rfl
      go_wp2_with (at_builtin; refine wpList_append_zero rfl _ _ rfl w.heap.size i0 HI.out _ _ _ rfl hown _ _ rfl ?_)
      refine bodyPost_ret (results_tmp rfl _ _ _) rfl ?_
      exact ⟨_, rfl, ⟨⟨_, 0, rfl, by simp, by decide, .inl rfl⟩, fun k hk => by cases hk; exact ⟨Nat.le_refl _, by simp⟩⟩, (al (Below.refl _ _) _)⟩
  · obtain ⟨b, o, rfl, hr⟩ := h3.resolve_left hn
    go_enter Try.func77, Try.ntmps77
    have hr1 := range_below (al (Below.refl _ _) (.cells #[] 5)) hr (range_lt hr (by intro h; have := length_cells8 l; rw [h] at this; exact hn (List.length_eq_zero_iff.1 (by simp at this; omega))))
    have hown : (w.alloc (.cells #[] 5)).ownsRow w.heap.size 5 1 (.slice (some ⟨w.heap.size, 0, none⟩) 0 0) 0 (cells8 []) := World.ownsRow_made w #[] 0 (Nat.le_refl _) (by unfold maxLen; omega) rfl
    have hB := al (Below.refl w.heap.size w) (.cells #[] 5)
    have hpos : 0 < l.length := List.length_pos_iff.2 hn
    obtain ⟨n, hnl⟩ : ∃ n, n = l.length := ⟨_, rfl⟩
    have HN := Lib.hid hnl
    rw [← hnl] at h1 hpos hl ⊢
    clear hnl h3 hr
    go_wp2_with (at_builtin; refine wpList_append_own _ rfl _ _ _ rfl w.heap.size 5 i0 (.int .u8 0) 1 1 Try.underlying50 HI.out HZ.out.1 HZ.out.2.1 HZ.out.2.2 rfl (by decide) _ _ _ rfl hown ⟨b, o, none⟩ n cap (cells8 l) rfl (by rw [length_cells8, HN.out]; omega) (fun j u hj => by rw [Addr.add_mid]; exact hr1 j u hj) (oneCell_cells8 _) (by unfold maxLen; omega) (by omega) (by simp) ?_; intro v' w2 ho3 hg3 hat3)
    have ho4 : w2.ownsRow w.heap.size 5 1 v' l.length (cells8 l) := by
      have := ho3
      rw [Nat.zero_add, HN.out] at this
      exact this
    refine bodyPost_ret (results_tmp rfl _ _ _) rfl ?_
    exact ⟨_, rfl, ⟨bytes_own ho4 (by have := HN.out; omega), fun k hk => ⟨own_base ho4 k hk, own_lt ho4 hk⟩⟩, hB.grown hg3 (by simp) (fun k hk => by cases hk; exact Nat.le_refl _)⟩
theorem ChainIn.below {base : Nat} {w w' : World} {c f : Nat} {v vf : Value} {es : List Ent} {l : List (List UInt8)} (h : ChainIn base w c f v vf es l) (hb : Below w.heap.size w w') : ChainIn base w' c f v vf es l :=
  h.keep (Keeps.of_below (X := fun _ => False) hb) (fun _ _ _ h => h)
theorem clip_bytes (w : World) (base : Nat) (v : Value) (l : List UInt8) (h : BytesNew w base v l) : Calls Try.prog 76 #[v] w fun e w' => ∃ v', e = .returned v' ∧ BytesNew w base v' l ∧ w = w' := by
  obtain ⟨⟨a, cap, rfl, h1, h2, h3⟩, h4⟩ := h
  have hn : BytesNew w base (.slice a l.length l.length) l := ⟨⟨a, l.length, rfl, Nat.le_refl _, by omega, h3⟩, fun k hk => h4 k (by cases a <;> exact hk)⟩
  have HN := Lib.hid hn; clear hn h3 h4
  obtain ⟨n, hn⟩ : ∃ n, n = l.length := ⟨_, rfl⟩
  rw [← hn] at HN h1 ⊢
  clear hn
  have k1 : (n : Int) ≤ (cap : Int) := by omega
  unfold maxLen at h2
  cases a with
  | none =>
    have h0 : (none : Option Addr) = none := rfl
    go_enter Try.func76, Try.ntmps76
    go_wp2_with fail
    refine bodyPost_ret (results_tmp rfl _ _ _) rfl ?_
    exact ⟨_, rfl, HN.out, rfl⟩
  | some a =>
    go_enter Try.func76, Try.ntmps76
    go_wp2_with fail
    refine bodyPost_ret (results_tmp rfl _ _ _) rfl ?_
    exact ⟨_, rfl, HN.out, rfl⟩
theorem cnone_live (w : World) (c f : Nat) (hc : w.cell? ⟨c, 0, none⟩ = some (.pointer (some ⟨f, 0, none⟩))) : Calls Try.prog 75 #[.pointer (some ⟨c, 0, none⟩)] w fun e w' => e = .returned (.bool false) ∧ w = w' := by
  go_enter Try.func75, Try.ntmps75
  go_wp2_with fail
  exact bodyPost_ret (results_tmp rfl _ _ _) rfl ⟨rfl, rfl⟩
theorem ChainIn.c0 {base : Nat} {w : World} {c f : Nat} {v vf : Value} {es : List Ent} {l : List (List UInt8)} (h : ChainIn base w c f v vf es l) : w.cell? ⟨c, 0, none⟩ = some (.pointer (some ⟨f, 0, none⟩)) := by
  rw [cell_of_row w c _ _ _ (0, 0) h.head]; rfl
theorem ChainIn.c1 {base : Nat} {w : World} {c f : Nat} {v vf : Value} {es : List Ent} {l : List (List UInt8)} (h : ChainIn base w c f v vf es l) : w.cell? ⟨c, 1, none⟩ = some v := by
  rw [cell_of_row w c _ _ _ (0, 0) h.head]; rfl
theorem ChainIn.form {base : Nat} {w : World} {c f : Nat} {v vf : Value} {es : List Ent} {l : List (List UInt8)} (h : ChainIn base w c f v vf es l) : ∃ a cap, v = .slice a l.length cap ∧ l.length ≤ cap ∧ cap ≤ maxLen ∧ (l = [] ∨ ∃ g, a = some ⟨g, 0, none⟩ ∧ w.rangeAt g 0 (cellsEnts es)) := by
  by_cases hl : l = []
  · subst hl
    exact ⟨none, 0, by rw [h.nil rfl]; rfl, by simp, by decide, .inl rfl⟩
  · obtain ⟨g, cap, hv, h1, h2, _, hr⟩ := own_range h.row (List.length_pos_iff.2 hl)
    exact ⟨_, cap, hv, h1, h2, .inr ⟨g, rfl, hr⟩⟩
theorem csize_at (base : Nat) (w : World) (c : Nat) (l : List (List UInt8)) (h : ChainAt base w c l) : Calls Try.prog 44 #[.pointer (some ⟨c, 0, none⟩)] w fun e w' => e = .returned (.int .u64 (l.length : Int)) ∧ w = w' := by
  obtain ⟨f, v, vf, es, h⟩ := h
  have h0 := h.c0
  have h1 := h.c1
  obtain ⟨a, cap, rfl, k1, k2, -⟩ := h.form
  have hl := h.front.2.2.2.1
  rw [List.length_map] at hl
  clear h
  have hl' : (l.length : Int) < 4000000000 := by omega
  go_enter Try.func44, Try.ntmps44
  go_wp2_with (go_at_call 75; refine (cnone_live _ c f h0).mono ?_; rintro e w1 ⟨rfl, rfl⟩)
  exact bodyPost_ret (results_tmp rfl _ _ _) rfl ⟨rfl, rfl⟩
theorem cnew_at (w : World) : Calls Try.prog 86 #[] w fun e w' => ∃ c, e = .returned (.pointer (some ⟨c, 0, none⟩)) ∧ ChainAt w.heap.size w' c [] ∧ Below w.heap.size w w' := by
  go_enter Try.func86, Try.ntmps86
  go_wp2_with fail
  refine (new_front w).mono ?_
  rintro e w1 ⟨rfl, hF, hB⟩
  have hf := hF.below (al (Below.refl _ w1) (.cells #[.pointer (some ⟨w.heap.size, 0, none⟩), .slice none 0 0] 58))
  have hlt := hF.lt
  have hC : ChainIn w.heap.size (w1.alloc (.cells #[.pointer (some ⟨w.heap.size, 0, none⟩), .slice none 0 0] 58)) w1.heap.size w.heap.size (.slice none 0 0) (.slice none 0 0) [] [] :=
    { head := heap_alloc_new w1 _, front := hf, row := World.ownsRow_nil _ _ _ _, nil := fun _ => rfl, len := rfl, ents := (fun i e b he _ => by simp at he), hc := hB.size, hf := Nat.le_refl _, hvf := (fun k hk => by cases hk), cf := (by omega), vc := (by simp [Value.ownBlock]), vf_ := (by simp [Value.ownBlock]), fc := (by simp [Value.ownBlock]), vv := (fun k hk => by cases hk) }
  have HC := Lib.hid hC
  have HB := Lib.hid (hB.alloc hB.size (.cells #[.pointer (some ⟨w.heap.size, 0, none⟩), .slice none 0 0] 58))
  clear hC hf hF hB hlt
  go_wp2_with fail
  refine bodyPost_ret (results_tmp rfl _ _ _) rfl ?_
  exact ⟨_, rfl, ⟨_, _, _, _, HC.out⟩, HB.out⟩
end Go.Proofs.Ytdkcndgehgmadaa
