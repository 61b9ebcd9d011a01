/-
  Walks: the clashes' law's 'alive'.
-/
import Derived.Test.YtdkcndgehgmadaaB6
import Derived.Lib.SlBytesConst
open Go Go.RowKit Alm
namespace Go.Proofs.Ytdkcndgehgmadaa
theorem node_ab : (node (sha [0, 97]) (sha [0, 98]) == node (sha [0, 97]) (sha [0, 97])) = false := by decide +kernel
theorem sha_ab : (sha [97] == sha [98]) = false := by decide +kernel
theorem sh_ab : ¬ sh [97] = sh [98] := by
  rw [sh_eq]
  intro h
  have := sha_ab
  rw [h] at this
  simp at this
theorem rt_ab : ¬ rt ([[97], [98]].map lf) = rt ([[97], [97]].map lf) := by
  have e1 : [[97], [98]].map lf = [lf [97], lf [98]] := rfl
  have e2 : [[97], [97]].map lf = [lf [97], lf [97]] := rfl
  rw [e1, e2, rt_pair, rt_pair, lf_eq, nd_eq]
  intro h
  have := node_ab
  have h2 : node (sha [0, 97]) (sha [0, 98]) = node (sha [0, 97]) (sha [0, 97]) := h
  rw [h2] at this
  simp at this
theorem lists_two (W : World) (va vb : Value) (a b : List UInt8) (t : TypeId) (ha : BytesAt W va a) (hb : BytesAt W vb b) : ListsAt (W.alloc (.cells #[va, vb] t)) (.slice (some ⟨W.heap.size, 0, none⟩) 2 2) [a, b] := by
  have hw := al (Below.refl _ W) (.cells #[va, vb] t)
  have hr := range_new W #[va, vb] t _ rfl
  refine ⟨_, 2, rfl, by simp, by decide, .inr ⟨_, _, rfl, fun j hj => ?_⟩⟩
  have hj' : j < 2 := hj
  match j, hj' with
  | 0, _ => exact ⟨va, hr 0 _ rfl, bytes_below ha hw (Nat.le_refl _)⟩
  | 1, _ => exact ⟨vb, hr 1 _ rfl, bytes_below hb hw (Nat.le_refl _)⟩
theorem lists_one (W : World) (va : Value) (a : List UInt8) (t : TypeId) (ha : BytesAt W va a) : ListsAt (W.alloc (.cells #[va] t)) (.slice (some ⟨W.heap.size, 0, none⟩) 1 1) [a] := by
  have hw := al (Below.refl _ W) (.cells #[va] t)
  have hr := range_new W #[va] t _ rfl
  refine ⟨_, 1, rfl, by simp, by decide, .inr ⟨_, _, rfl, fun j hj => ?_⟩⟩
  have hj' : j < 1 := hj
  match j, hj' with
  | 0, _ => exact ⟨va, hr 0 _ rfl, bytes_below ha hw (Nat.le_refl _)⟩
theorem wpList_var_clash {ops : Array Oper} {rest : List Oper} {op : Oper} {a : Act} {w : World} {t : TypeId} {Q : Exit → Act → World → Prop} (hgd : op.guard = none) (x y : Operand) (ho : op.op = .store 75 x y)
    (hx : a.eval x = .pointer (some ⟨w.heap.size, 0, none⟩)) (hy : a.eval y = .agg cnil.toArray)
    (h : ∀ W', Below w.heap.size w W' → wpList Try.prog ops Q rest (a.put op.dst undef) W') : wpList Try.prog ops Q (op :: rest) a (w.alloc (.cells #[.slice none 0 0, .slice none 0 0] t)) :=
  wpList_store_clash hgd x y ho w.heap.size 0 hx hy (there_new _ _ _) (h _ (setCells_below _ (Nat.le_refl _) _ 0 _ _ (al (Below.refl _ _) _)))
theorem bytes_marked (w : World) (x : UInt8) : BytesAt (w.alloc (.cells #[.int .u8 ((x.toNat : Nat) : Int)] 5 (1, 2))) (.slice (some ⟨w.heap.size, 0, none⟩) 1 1) [x] := by
  refine ⟨_, 1, rfl, Nat.le_refl _, by decide, .inr ⟨w.heap.size, 0, rfl, fun j v hv => ?_⟩⟩
  have hh : (w.alloc (.cells #[.int .u8 ((x.toNat : Nat) : Int)] 5 (1, 2))).heap[w.heap.size]? = some (.cells #[.int .u8 ((x.toNat : Nat) : Int)] 5 (1, 2)) := by
    show (w.heap.push _)[w.heap.size]? = _
    simp
  rw [cell_of_row _ _ _ _ _ (1, 2) hh, Nat.zero_add]
  have hj : j < 1 := by have := (List.getElem?_eq_some_iff.1 hv).1; simpa [cells8] using this
  have : j = 0 := by omega
  subst this
  simpa [cells8, u8v] using hv
/-- Two lists of one byte each. -/
structure AB (w W : World) (A B : Nat) : Prop where
  a : BytesAt W (.slice (some ⟨A, 0, none⟩) 1 1) [97]
  b : BytesAt W (.slice (some ⟨B, 0, none⟩) 1 1) [98]
  w : Below w.heap.size w W
theorem AB.below {w W W' : World} {A B : Nat} (h : AB w W A B) (hb : Below W.heap.size W W') : AB w W' A B :=
  ⟨bytes_below h.a hb (Nat.le_refl _), bytes_below h.b hb (Nat.le_refl _), h.w.trans (hb.mono h.w.size)⟩
theorem AB.alloc {w W : World} {A B : Nat} (h : AB w W A B) (o : Obj) : AB w (W.alloc o) A B := h.below (al (Below.refl _ _) o)
theorem lists_pair (W : World) (v0 v1 u0 u1 : Value) (a0 a1 b0 b1 : List UInt8) (t : TypeId) (h0 : BytesAt W v0 a0) (h1 : BytesAt W v1 a1) (g0 : BytesAt W u0 b0) (g1 : BytesAt W u1 b1) :
    ListsAt ((W.alloc (.cells #[v0, v1] t)).alloc (.cells #[u0, u1] t)) (.slice (some ⟨W.heap.size, 0, none⟩) 2 2) [a0, a1] ∧ ListsAt ((W.alloc (.cells #[v0, v1] t)).alloc (.cells #[u0, u1] t)) (.slice (some ⟨W.heap.size + 1, 0, none⟩) 2 2) [b0, b1] := by
  have hw := al (Below.refl _ W) (.cells #[v0, v1] t)
  refine ⟨(lists_two W v0 v1 a0 a1 t h0 h1).below (al (Below.refl _ _) _), ?_⟩
  have := lists_two (W.alloc (.cells #[v0, v1] t)) u0 u1 b0 b1 t (bytes_below g0 hw (Nat.le_refl _)) (bytes_below g1 hw (Nat.le_refl _))
  rw [World.size_alloc] at this
  exact this
set_option maxRecDepth 100000 in
set_option maxHeartbeats 1000000 in
theorem alive_clashes (w : World) : Calls Try.prog 50 #[] w fun e w' => e = .returned (.bool true) ∧ Below w.heap.size w w' := by
  have kc := fun (w : World) (C : Array Value) (n c : Nat) => Lib.run_convert_bytes_const (P := Try.prog) w 50 5 C n c Try.underlying50 Try.underlying5
  have h1 := bytes_marked w 97
  have hz : (w.alloc (.cells #[.int .u8 97] 5 (1, 2))).heap.size = w.heap.size + 1 := Array.size_push _
  have h2 := bytes_marked (w.alloc (.cells #[.int .u8 97] 5 (1, 2))) 98
  rw [hz] at h2
  have kc2 := kc (w.alloc (.cells #[.int .u8 97] 5 (1, 2))) #[.int .u8 98] 1 1
  rw [hz] at kc2
  have hab : AB w ((w.alloc (.cells #[.int .u8 97] 5 (1, 2))).alloc (.cells #[.int .u8 98] 5 (1, 2))) w.heap.size (w.heap.size + 1) := ⟨bytes_below h1 (al (Below.refl _ _) _) (Nat.le_refl _), h2, al (al (Below.refl _ _) _) _⟩
  have HAB := Lib.hid hab
  clear h1 h2 hab hz
  go_enter Try.func50, Try.ntmps50
  go_wp2_with fail
  clear kc kc2
  have hz0 : ((w.alloc (.cells #[.int .u8 97] 5 (1, 2))).alloc (.cells #[.int .u8 98] 5 (1, 2))).heap.size = w.heap.size + 1 + 1 := by simp only [World.size_alloc]
  obtain ⟨A, hA⟩ : ∃ A, A = w.heap.size := ⟨_, rfl⟩
  have hHAB := HAB.out
  rw [← hA] at hHAB hz0 ⊢
  obtain ⟨B, hB⟩ : ∃ B, B = A + 1 := ⟨_, rfl⟩
  rw [← hB] at hHAB hz0 ⊢
  rw [← hz0]
  clear HAB hA hB hz0
  generalize (w.alloc (.cells #[.int .u8 97] 5 (1, 2))).alloc (.cells #[.int .u8 98] 5 (1, 2)) = W0 at *
  have H0 := Lib.hid (show AB w W0 A B from hHAB)
  clear hHAB
  have hp := lists_pair W0 _ _ _ _ _ _ _ _ 50 H0.out.a H0.out.b H0.out.a H0.out.b
  have H1 := Lib.hid ((H0.out.alloc (.cells #[.slice (some ⟨A, 0, none⟩) 1 1, .slice (some ⟨B, 0, none⟩) 1 1] 50)).alloc (.cells #[.slice (some ⟨A, 0, none⟩) 1 1, .slice (some ⟨B, 0, none⟩) 1 1] 50))
  refine (lists_same _ _ _ _ hp.1 hp.2 (by simp)).mono ?_
  rintro e V ⟨rfl, hb⟩
  have H2 := Lib.hid (H1.out.below hb)
  clear hp hb H0 H1
  have HG := Lib.hid trivial
  go_wp2_with (have _ := HG; refine wpList_var_clash rfl _ _ rfl rfl rfl ?_; intro W1 hb1; have H3 := Lib.hid (H2.out.below hb1); clear HG hb1)
  have hp := lists_pair W1 _ _ _ _ _ _ _ _ 50 H3.out.a H3.out.b H3.out.a H3.out.a
  have H4 := Lib.hid ((H3.out.alloc (.cells #[.slice (some ⟨A, 0, none⟩) 1 1, .slice (some ⟨B, 0, none⟩) 1 1] 50)).alloc (.cells #[.slice (some ⟨A, 0, none⟩) 1 1, .slice (some ⟨A, 0, none⟩) 1 1] 50))
  refine (lists_root _ _ _ _ _ hp.1 hp.2 (by simp) rfl (by simp) (by simp) (by simp) rt_ab).mono ?_
  rintro e V2 ⟨rfl, hb⟩
  have H5 := Lib.hid (H4.out.below hb)
  clear hp hb H2 H3 H4
  have HG := Lib.hid trivial
  go_wp2_with (have _ := HG; refine wpList_var_clash rfl _ _ rfl rfl rfl ?_; intro W2 hb1; have H6 := Lib.hid (H5.out.below hb1); clear HG hb1)
  have hl := lists_two W2 _ _ _ _ 50 H6.out.a H6.out.b
  have H7 := Lib.hid (H6.out.alloc (.cells #[.slice (some ⟨A, 0, none⟩) 1 1, .slice (some ⟨B, 0, none⟩) 1 1] 50))
  obtain ⟨y, hy⟩ : ∃ y, y = lf [98] := ⟨_, rfl⟩
  have HLF := Lib.hid (fun W (h : BytesAt W (.slice (some ⟨B, 0, none⟩) 1 1) [98]) => lf_any [98] _ W h (by simp))
  rw [← hy] at HLF
  clear hy
  refine (HLF.out _ H7.out.b).mono ?_
  rintro e W3 ⟨rfl, hb⟩
  have HL3 := Lib.hid (hl.below (hb.trans ((al (Below.refl _ W3) (.cells (cellsAll [y]).toArray 24)).mono hb.size)))
  have H8 := Lib.hid ((H7.out.below hb).alloc (.cells (cellsAll [y]).toArray 24))
  clear hl hb H5 H6 H7
  go_wp2_with (refine wpList_build_sums rfl 1 _ rfl [y] rfl (by omega) (by omega) rfl ?_)
  refine (path_same _ 0 [97] _ _ _ _ HL3.out (by simp) rfl H8.out.a (by simp) ⟨_, _, _, rfl⟩).mono ?_
  rintro e V3 ⟨rfl, hb⟩
  have H9 := Lib.hid (H8.out.below hb)
  clear hb HL3 H8
  have HG := Lib.hid trivial
  go_wp2_with (have _ := HG; refine wpList_var_clash rfl _ _ rfl rfl rfl ?_; intro W4 hb1; have H10 := Lib.hid (H9.out.below hb1); clear HG hb1)
  have hl1 := lists_one W4 _ _ 50 H10.out.a
  have h11 := H10.out.alloc (.cells #[.slice (some ⟨A, 0, none⟩) 1 1] 50)
  have hl2 := lists_two (W4.alloc (.cells #[.slice (some ⟨A, 0, none⟩) 1 1] 50)) _ _ _ _ 50 h11.a h11.b
  rw [World.size_alloc] at hl2
  have hbw := al (Below.refl _ (W4.alloc (.cells #[.slice (some ⟨A, 0, none⟩) 1 1] 50))) (.cells #[.slice (some ⟨A, 0, none⟩) 1 1, .slice (some ⟨B, 0, none⟩) 1 1] 50)
  have H12 := Lib.hid (h11.alloc (.cells #[.slice (some ⟨A, 0, none⟩) 1 1, .slice (some ⟨B, 0, none⟩) 1 1] 50))
  refine (HLF.out _ H12.out.b).mono ?_
  rintro e W5 ⟨rfl, hb⟩
  have hb5 := hb.trans ((al (Below.refl _ W5) (.cells (cellsAll [y]).toArray 24)).mono hb.size)
  have HL4 := Lib.hid (And.intro ((hl1.below hbw).below hb5) (hl2.below hb5))
  have H13 := Lib.hid ((H12.out.below hb).alloc (.cells (cellsAll [y]).toArray 24))
  clear hl1 hl2 hb hb5 hbw h11 H9 H10 H12
  go_wp2_with (refine wpList_build_sums rfl 1 _ rfl [y] rfl (by omega) (by omega) rfl ?_)
  refine (link_same _ _ _ _ _ _ HL4.out.1 HL4.out.2 (by simp) (by simp) rfl (by simp) ⟨_, _, _, rfl⟩).mono ?_
  rintro e V4 ⟨rfl, hb⟩
  have H14 := Lib.hid (H13.out.below hb)
  clear hb HL4 H13
  have HG := Lib.hid trivial
  go_wp2_with (have _ := HG; refine wpList_var_clash rfl _ _ rfl rfl rfl ?_; intro W6 hb1; have H15 := Lib.hid (H14.out.below hb1); clear HG hb1)
  have hi1 : isB [97] [97] = false := by unfold isB; simp
  have hi2 : isB [97] [98] = false := by unfold isB; rw [decide_eq_false sh_ab]; simp
  refine (is_any [97] [97] _ _ W6 H15.out.a H15.out.a (by simp) (by simp)).mono ?_
  rw [hi1]
  rintro e W7 ⟨rfl, hb⟩
  have H16 := Lib.hid (H15.out.below hb)
  clear hb H14 H15 hi1
  have HI2 := Lib.hid hi2
  clear hi2
  go_wp2_with fail
  refine (is_any [97] [98] _ _ W7 H16.out.a H16.out.b (by simp) (by simp)).mono ?_
  rw [HI2.out]
  rintro e W8 ⟨rfl, hb⟩
  have H17 := Lib.hid (H16.out.below hb)
  clear hb H16
  obtain ⟨s, hs⟩ : ∃ s, s = sh [97] := ⟨_, rfl⟩
  obtain ⟨t, ht⟩ : ∃ s, s = sh [98] := ⟨_, rfl⟩
  have hst : ¬ s = t := by rw [hs, ht]; exact sh_ab
  have HSA := Lib.hid (sh_any [97] _ W8 H17.out.a (by simp))
  have HSB := Lib.hid (fun W (h : BytesAt W (.slice (some ⟨B, 0, none⟩) 1 1) [98]) => sh_any [98] _ W h (by simp))
  rw [← hs] at HSA
  rw [← ht] at HSB
  have hes : ∀ w : World, (Op.equalIn 10000 24 (.agg (cellsOf s).toArray) (.agg (cellsOf t).toArray)).run Try.prog w = .ok false w := fun w => by rw [eq_sums]; simp [hst]
  have HES := Lib.hid hes
  clear hs ht hst hes
  go_wp2_with fail
  refine HSA.out.mono ?_
  rintro e W9 ⟨rfl, hb⟩
  have H18 := Lib.hid (H17.out.below hb)
  clear hb H17 HSA
  go_wp2_with fail
  refine (HSB.out _ H18.out.b).mono ?_
  rintro e W10 ⟨rfl, hb⟩
  have H19 := Lib.hid (H18.out.below hb)
  clear hb H18 HSB
  have hes := HES.out
  go_wp2_with fail
  exact bodyPost_ret (results_tmp rfl _ _ _) rfl ⟨rfl, H19.out.w⟩
end Go.Proofs.Ytdkcndgehgmadaa
