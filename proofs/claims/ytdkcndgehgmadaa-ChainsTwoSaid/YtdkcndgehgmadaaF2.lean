/-
  Walks: fronts: New, none, Size, Sums, Clone, Clip.
-/
import Derived.Test.YtdkcndgehgmadaaF1
import Derived.WalkSpells
open Go Go.RowKit Alm
namespace Go.Proofs.Ytdkcndgehgmadaa
theorem bits_zero : Alm.bits 0 = 0 := by rw [Alm.bits]; simp
/-- A front of leaves, behind pointer p. -/
def FrontAt (w : World) (p : Nat) (v : Value) (l : List Sum) : Prop :=
  w.heap[p]? = some (.cells #[.int .i64 1, .int .u64 (l.length : Int), v] 97 (0, 0)) ∧ w.ownsRow 0 24 32 v (Alm.bits l.length) (cellsAll (stk nd e0 64 l)) ∧ v.ownBlock ≠ some p ∧ l.length < 4000000000 ∧ (l = [] → v = .slice none 0 0)
theorem FrontAt.keep {X : Nat → Prop} {w w' : World} {p : Nat} {v : Value} {l : List Sum} (h : FrontAt w p v l) (hk : Keeps X w w') (hp : ¬ X p) (hv : ∀ k, v.ownBlock = some k → ¬ X k) : FrontAt w' p v l :=
  ⟨hk.heap h.1 hp, hk.owns h.2.1 hv, h.2.2.1, h.2.2.2⟩
theorem FrontAt.below {w w' : World} {p : Nat} {v : Value} {l : List Sum} (h : FrontAt w p v l) (hk : Below w.heap.size w w') : FrontAt w' p v l :=
  h.keep (X := fun _ => False) (.of_below hk) (fun h => h) (fun _ _ h => h)
theorem FrontAt.lt {w : World} {p : Nat} {v : Value} {l : List Sum} (h : FrontAt w p v l) : p < w.heap.size := (Array.getElem?_eq_some_iff.1 h.1).1
theorem FrontAt.c0 {w : World} {p : Nat} {v : Value} {l : List Sum} (h : FrontAt w p v l) : w.cell? ⟨p, 0, none⟩ = some (.int .i64 1) := by
  rw [cell_of_row w p _ _ _ (0, 0) h.1]; rfl
theorem FrontAt.c1 {w : World} {p : Nat} {v : Value} {l : List Sum} (h : FrontAt w p v l) : w.cell? ⟨p, 1, none⟩ = some (.int .u64 (l.length : Int)) := by
  rw [cell_of_row w p _ _ _ (0, 0) h.1]; rfl
theorem FrontAt.c2 {w : World} {p : Nat} {v : Value} {l : List Sum} (h : FrontAt w p v l) : w.cell? ⟨p, 2, none⟩ = some v := by
  rw [cell_of_row w p _ _ _ (0, 0) h.1]; rfl
theorem new_front (w : World) : Calls Try.prog 29 #[] w fun e w' => e = .returned (.pointer (some ⟨w.heap.size, 0, none⟩)) ∧ FrontAt w' w.heap.size (.slice none 0 0) [] ∧ Below w.heap.size w w' := by
  have hf : FrontAt (w.alloc (.cells #[.int .i64 1, .int .u64 0, .slice none 0 0] 97)) w.heap.size (.slice none 0 0) [] :=
    ⟨heap_alloc_new w _, by rw [stk_nil, List.length_nil, bits_zero]; exact World.ownsRow_nil _ _ _ _, by simp [Value.ownBlock], by simp, fun _ => rfl⟩
  have HF := Lib.hid hf; clear hf
  go_enter Try.func29, Try.ntmps29
  go_wp2_with fail
  exact bodyPost_ret (results_tmp rfl _ _ _) rfl ⟨rfl, HF.out, al (Below.refl _ _) _⟩
theorem none_live (w : World) (p : Nat) (hc : w.cell? ⟨p, 0, none⟩ = some (.int .i64 1)) : Calls Try.prog 67 #[.pointer (some ⟨p, 0, none⟩)] w fun e w' => e = .returned (.bool false) ∧ w = w' := by
  go_enter Try.func67, Try.ntmps67
  go_wp2_with fail
  exact bodyPost_ret (results_tmp rfl _ _ _) rfl ⟨rfl, rfl⟩
theorem size_live (w : World) (p : Nat) (v : Value) (l : List Sum) (h : FrontAt w p v l) : Calls Try.prog 33 #[.pointer (some ⟨p, 0, none⟩)] w fun e w' => e = .returned (.int .u64 (l.length : Int)) ∧ w = w' := by
  have h0 := h.c0
  have h1 := h.c1
  clear h
  go_enter Try.func33, Try.ntmps33
  go_wp2_with (go_at_call 67; refine (none_live _ p h0).mono ?_; rintro e w1 ⟨rfl, rfl⟩)
  exact bodyPost_ret (results_tmp rfl _ _ _) rfl ⟨rfl, rfl⟩
/-- A row of sums that is new (from base on), or nil. -/
def SumsNew (w : World) (base : Nat) (v : Value) (l : List Sum) : Prop :=
  (v = .slice none 0 0 ∧ l = []) ∨ ∃ g cap, v = .slice (some ⟨g, 0, none⟩) l.length cap ∧ l ≠ [] ∧ l.length ≤ cap ∧ cap ≤ maxLen ∧ base ≤ g ∧ w.rangeAt g 0 (cellsAll l) ∧ w.there g 0 (32 * l.length)
theorem SumsNew.sums {w : World} {base : Nat} {v : Value} {l : List Sum} (h : SumsNew w base v l) : SumsAt w v l := by
  rcases h with ⟨rfl, rfl⟩ | ⟨g, cap, rfl, h0, h1, h2, h3, h4, h5⟩
  · exact ⟨none, 0, rfl, Nat.le_refl _, by unfold maxLen; omega, .inl rfl⟩
  · exact ⟨_, cap, rfl, h1, h2, .inr ⟨g, 0, rfl, h4⟩⟩
theorem SumsNew.own {w : World} {base : Nat} {v : Value} {l : List Sum} (h : SumsNew w base v l) : ∀ k, v.ownBlock = some k → base ≤ k := by
  intro k hk
  rcases h with ⟨rfl, rfl⟩ | ⟨g, cap, rfl, h0, h1, h2, h3, h4, h5⟩
  · cases hk
  · simp only [Value.ownBlock, Option.some.injEq] at hk; omega
theorem SumsNew.keep {X : Nat → Prop} {w w' : World} {base : Nat} {v : Value} {l : List Sum} (h : SumsNew w base v l) (hk : Keeps X w w') (hv : ∀ k, v.ownBlock = some k → ¬ X k) : SumsNew w' base v l := by
  rcases h with ⟨rfl, rfl⟩ | ⟨g, cap, rfl, h0, h1, h2, h3, h4, h5⟩
  · exact .inl ⟨rfl, rfl⟩
  · exact .inr ⟨g, cap, rfl, h0, h1, h2, h3, hk.range h4 (hv g rfl), hk.there h5 (by have := List.length_pos_iff.2 h0; omega) (hv g rfl)⟩
theorem SumsNew.mono {w : World} {base base' : Nat} {v : Value} {l : List Sum} (h : SumsNew w base v l) (hb : base' ≤ base) : SumsNew w base' v l := by
  rcases h with h | ⟨g, cap, rfl, h0, h1, h2, h3, h4, h5⟩
  · exact .inl h
  · exact .inr ⟨g, cap, rfl, h0, h1, h2, by omega, h4, h5⟩
theorem own_new {w : World} {base : Nat} {v : Value} {l : List Sum} (h : w.ownsRow base 24 32 v l.length (cellsAll l)) (h0 : l ≠ []) : SumsNew w base v l := by
  rcases h.2 with ⟨_, h2⟩ | ⟨g, cap, cur, rfl, hb, hg, hnc, hcm, hsz, htk⟩
  · exact (h0 (List.length_eq_zero_iff.1 h2)).elim
  · refine .inr ⟨g, cap, rfl, h0, hnc, hcm, hb, own_sum_range h, fun j hj => ⟨?_, frozen_of_row w g _ cur _ hg⟩⟩
    rw [cell_of_row w g _ cur _ (0, 0) hg, Nat.zero_add, Array.getElem?_eq_getElem (by rw [hsz]; omega)]; rfl
theorem own_new' {w : World} {base : Nat} {v : Value} {l : List Sum} (h : w.ownsRow base 24 32 v l.length (cellsAll l)) (h0 : l = [] → v = .slice none 0 0) : SumsNew w base v l := by
  by_cases hl : l = []
  · exact .inl ⟨h0 hl, hl⟩
  · exact own_new h hl
theorem clip_sums (w : World) (base : Nat) (v : Value) (l : List Sum) (h : SumsNew w base v l) : Calls Try.prog 61 #[v] w fun e w' => ∃ v', e = .returned v' ∧ SumsNew w base v' l ∧ w = w' := by
  rcases h with ⟨rfl, rfl⟩ | ⟨g, cap, rfl, h0, h1, h2, h3, h4, h5⟩
  · go_enter Try.func61, Try.ntmps61
    go_wp2_with fail
    exact bodyPost_ret (results_tmp rfl _ _ _) rfl ⟨_, rfl, .inl ⟨rfl, rfl⟩, rfl⟩
  · have hn : SumsNew w base (.slice (some ⟨g, 0, none⟩) l.length l.length) l := .inr ⟨g, l.length, rfl, h0, Nat.le_refl _, by omega, h3, h4, h5⟩
    have HN := Lib.hid hn; clear hn
    clear h4 h5
    obtain ⟨n, hn⟩ : ∃ n, n = l.length := ⟨_, rfl⟩
    rw [← hn] at HN h1 ⊢
    have HH := Lib.hid hn; clear hn
    have k1 : (n : Int) ≤ (cap : Int) := by omega
    unfold maxLen at h2
    go_enter Try.func61, Try.ntmps61
    go_wp2_with fail
    refine bodyPost_ret (results_tmp rfl _ _ _) rfl ?_
    exact ⟨_, rfl, HN.out, rfl⟩
end Go.Proofs.Ytdkcndgehgmadaa
