/-
  Walks: clashes.ends, pair.bytes.
-/
import Derived.Test.YtdkcndgehgmadaaB9
import Derived.WalkLawsBesides
open Go Go.RowKit Alm
namespace Go.Proofs.Ytdkcndgehgmadaa
/-- A clash that panics. -/
abbrev panC (va vb : Value) : List PanicEntry := [{ v := .iface 75 (cv va vb), recovered := false }]
def ClashOf (w : World) (e : Ending) (w' : World) : Prop := ∃ va vb A B, e = .panicked (panC va vb) ∧ BytesAt w' va A ∧ BytesAt w' vb B ∧ isB A B = true ∧ A.length < 1000000 ∧ B.length < 1000000 ∧ Below w.heap.size w w'
theorem ClashOf.from_ {w0 w w' : World} {e : Ending} (h : ClashOf w e w') (hb : Below w0.heap.size w0 w) : ClashOf w0 e w' := by
  obtain ⟨va, vb, A, B, h1, h2, h3, h4, h5, h6, h7⟩ := h
  exact ⟨va, vb, A, B, h1, h2, h3, h4, h5, h6, hb.trans (h7.mono hb.size)⟩
theorem isB_leaf (x y : List UInt8) (h : ¬ x = y) (hs : lf x = lf y) : isB (0 :: x) (0 :: y) = true := by
  unfold isB
  have h1 : ¬ (0 :: x) = (0 :: y) := fun e => h (List.cons.inj e).2
  have h2 : sh (0 :: x) = sh (0 :: y) := by rw [lf_eq] at hs; rw [sh_eq]; exact hs
  rw [decide_eq_false h1, decide_eq_true h2]; rfl
theorem nd_sh (a b : Sum) : nd a b = sh (1 :: (a.toList ++ b.toList)) := by rw [nd_eq, sh_eq]; rfl
theorem isB_node (a b c d : Sum) (h : ¬ (a = c ∧ b = d)) (hs : nd a b = nd c d) : isB (1 :: (a.toList ++ b.toList)) (1 :: (c.toList ++ d.toList)) = true := by
  unfold isB
  have h1 : ¬ (1 :: (a.toList ++ b.toList)) = (1 :: (c.toList ++ d.toList)) := fun e => by
    have e2 := (List.cons.inj e).2
    have hl : a.toList.length = c.toList.length := by simp
    have e3 := List.append_inj e2 hl
    exact h ⟨Vector.toList_inj.1 e3.1, Vector.toList_inj.1 e3.2⟩
  have h2 : sh (1 :: (a.toList ++ b.toList)) = sh (1 :: (c.toList ++ d.toList)) := by rw [← nd_sh, ← nd_sh]; exact hs
  rw [decide_eq_false h1, decide_eq_true h2]; rfl
set_option maxRecDepth 100000 in
set_option maxHeartbeats 1000000 in
theorem ends_any (x y : List UInt8) (vx vy : Value) (w : World) (hx : BytesAt w vx x) (hy : BytesAt w vy y) (hlx : x.length < 900000) (hly : y.length < 900000) (hne : ¬ x = y) (hs : lf x = lf y) :
    Calls Try.prog 103 #[vx, vy] w (ClashOf w) := by
  have HI := Lib.hid (isB_leaf x y hne hs)
  have hp1 := parts_two (w := w.alloc (.cells #[.int .u8 0] 5)) (p := w.heap.size) (q := w.heap.size + 1) x vx (by rw [World.size_alloc]; omega) 50 (range_new _ _ _ _ rfl) (bytes_below hx (al (Below.refl _ _) _) (Nat.le_refl _)) (by rw [World.size_alloc])
  have hb1 := al (al (Below.refl _ w) (.cells #[.int .u8 0] 5)) (.cells #[.slice (some ⟨w.heap.size, 0, none⟩) 1 1, vx] 50)
  have HP := Lib.hid (And.intro hp1 hb1)
  have HY := Lib.hid (And.intro hy (And.intro hlx hly))
  obtain ⟨ax, cx, rfl, _, _, hz1⟩ := hx
  obtain ⟨ay, cy, rfl, _, _, hz2⟩ := hy
  clear hz1 hz2 hp1 hb1 hne hs hlx hly
  go_enter Try.func103, Try.ntmps103
  go_wp2_with fail
  refine (concat_all _ [[0], x] _ _ 2 _ HP.out.1 (by simp) (by simp) (by simp) (by have := HY.out.2.1; simp; omega)).mono ?_
  rintro e w1 ⟨v1, rfl, hv1, hb⟩
  rw [show [[0], x].flatten = 0 :: x by simp] at hv1
  have hb1 := HP.out.2.trans (hb.mono HP.out.2.size)
  have hy1 := bytes_below HY.out.1 hb1 (Nat.le_refl _)
  have hp2 := parts_two (w := w1.alloc (.cells #[.int .u8 0] 5)) (p := w1.heap.size) (q := w1.heap.size + 1) y (.slice ay y.length cy) (by rw [World.size_alloc]; omega) 50 (range_new _ _ _ _ rfl) (bytes_below hy1 (al (Below.refl _ _) _) (Nat.le_refl _)) (by rw [World.size_alloc])
  have hb2 := al (al (Below.refl _ w1) (.cells #[.int .u8 0] 5)) (.cells #[.slice (some ⟨w1.heap.size, 0, none⟩) 1 1, .slice ay y.length cy] 50)
  have HP2 := Lib.hid (And.intro hp2 (And.intro hb2 (And.intro hv1 hb1)))
  have hv1' := hv1
  obtain ⟨a1, c1, rfl, _, _, hz1⟩ := hv1'
  clear hz1 hp2 hb2 hb1 hy1 hb hv1 HP
  go_wp2_with fail
  refine (concat_all _ [[0], y] _ _ 2 _ HP2.out.1 (by simp) (by simp) (by simp) (by have := HY.out.2.2; simp; omega)).mono ?_
  rintro e w2 ⟨v2, rfl, hv2, hb⟩
  rw [show [[0], y].flatten = 0 :: y by simp] at hv2
  have hb2 := HP2.out.2.1.trans (hb.mono HP2.out.2.1.size)
  have HF : Hid (ClashOf w (.panicked (panC (.slice a1 (0 :: x).length c1) v2)) w2) := Lib.hid ⟨_, _, 0 :: x, 0 :: y, rfl, bytes_below HP2.out.2.2.1 hb2 (Nat.le_refl _), hv2, HI.out, by have := HY.out.2.1; simp; omega, by have := HY.out.2.2; simp; omega, HP2.out.2.2.2.trans (hb2.mono HP2.out.2.2.2.size)⟩
  obtain ⟨a2, c2, rfl, _, _, hz1⟩ := hv2
  clear hz1 hb hb2 HP2
  go_wp2_with fail
  exact ⟨rfl, HF.out⟩
end Go.Proofs.Ytdkcndgehgmadaa
