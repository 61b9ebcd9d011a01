/-
  Merged: B7, B9, B10.
-/
import Derived.Test.YtdkcndgehgmadaaZB1
import Derived.Lib.SlBytesConst
import Derived.Test.YtdkcndgehgmadaaP1
-- Walks: the clashes' law's 'alive'.
open Go Go.RowKit Alm
namespace Go.Proofs.Ytdkcndgehgmadaa
theorem node_ab : (node (sha [0, 97]) (sha [0, 98]) == node (sha [0, 97]) (sha [0, 97])) = false := by decide +kernel
theorem sha_ab : (sha [97] == sha [98]) = false := by decide +kernel
theorem sh_ab : ¬ sh [97] = sh [98] := by
  rw [sh_eq]
  intro h
  have := sha_ab
  rw [h] at this
  simp at this
theorem rt_ab : ¬ rt ([[97], [98]].map lf) = rt ([[97], [97]].map lf) := by
  have e1 : [[97], [98]].map lf = [lf [97], lf [98]] := rfl
  have e2 : [[97], [97]].map lf = [lf [97], lf [97]] := rfl
  rw [e1, e2, rt_pair, rt_pair, lf_eq, nd_eq]
  intro h
  have := node_ab
  have h2 : node (sha [0, 97]) (sha [0, 98]) = node (sha [0, 97]) (sha [0, 97]) := h
  rw [h2] at this
  simp at this
theorem lists_two (W : World) (va vb : Value) (a b : List UInt8) (t : TypeId) (ha : BytesAt W va a) (hb : BytesAt W vb b) : ListsAt (W.alloc (.cells #[va, vb] t)) (.slice (some ⟨W.heap.size, 0, none⟩) 2 2) [a, b] := by
  have hw := al (Below.refl _ W) (.cells #[va, vb] t)
  have hr := range_new W #[va, vb] t _ rfl
  refine ⟨_, 2, rfl, by simp, by decide, .inr ⟨_, _, rfl, fun j hj => ?_⟩⟩
  have hj' : j < 2 := hj
  match j, hj' with
  | 0, _ => exact ⟨va, hr 0 _ rfl, bytes_below ha hw (Nat.le_refl _)⟩
  | 1, _ => exact ⟨vb, hr 1 _ rfl, bytes_below hb hw (Nat.le_refl _)⟩
theorem lists_one (W : World) (va : Value) (a : List UInt8) (t : TypeId) (ha : BytesAt W va a) : ListsAt (W.alloc (.cells #[va] t)) (.slice (some ⟨W.heap.size, 0, none⟩) 1 1) [a] := by
  have hw := al (Below.refl _ W) (.cells #[va] t)
  have hr := range_new W #[va] t _ rfl
  refine ⟨_, 1, rfl, by simp, by decide, .inr ⟨_, _, rfl, fun j hj => ?_⟩⟩
  have hj' : j < 1 := hj
  match j, hj' with
  | 0, _ => exact ⟨va, hr 0 _ rfl, bytes_below ha hw (Nat.le_refl _)⟩
theorem wpList_var_clash {ops : Array Oper} {rest : List Oper} {op : Oper} {a : Act} {w : World} {t : TypeId} {Q : Exit → Act → World → Prop} (hgd : op.guard = none) (x y : Operand) (ho : op.op = .store 75 x y)
    (hx : a.eval x = .pointer (some ⟨w.heap.size, 0, none⟩)) (hy : a.eval y = .agg cnil.toArray)
    (h : ∀ W', Below w.heap.size w W' → wpList Try.prog ops Q rest (a.put op.dst undef) W') : wpList Try.prog ops Q (op :: rest) a (w.alloc (.cells #[.slice none 0 0, .slice none 0 0] t)) :=
  wpList_store_clash hgd x y ho w.heap.size 0 hx hy (there_new _ _ _) (h _ (setCells_below _ (Nat.le_refl _) _ 0 _ _ (al (Below.refl _ _) _)))
theorem bytes_marked (w : World) (x : UInt8) : BytesAt (w.alloc (.cells #[.int .u8 ((x.toNat : Nat) : Int)] 5 (1, 2))) (.slice (some ⟨w.heap.size, 0, none⟩) 1 1) [x] := by
  refine ⟨_, 1, rfl, Nat.le_refl _, by decide, .inr ⟨w.heap.size, 0, rfl, fun j v hv => ?_⟩⟩
  have hh : (w.alloc (.cells #[.int .u8 ((x.toNat : Nat) : Int)] 5 (1, 2))).heap[w.heap.size]? = some (.cells #[.int .u8 ((x.toNat : Nat) : Int)] 5 (1, 2)) := by
    show (w.heap.push _)[w.heap.size]? = _
    simp
  rw [cell_of_row _ _ _ _ _ (1, 2) hh, Nat.zero_add]
  have hj : j < 1 := by have := (List.getElem?_eq_some_iff.1 hv).1; simpa [cells8] using this
  have : j = 0 := by omega
  subst this
  simpa [cells8, u8v] using hv
/-- Two lists of one byte each. -/
structure AB (w W : World) (A B : Nat) : Prop where
  a : BytesAt W (.slice (some ⟨A, 0, none⟩) 1 1) [97]
  b : BytesAt W (.slice (some ⟨B, 0, none⟩) 1 1) [98]
  w : Below w.heap.size w W
theorem AB.below {w W W' : World} {A B : Nat} (h : AB w W A B) (hb : Below W.heap.size W W') : AB w W' A B :=
  ⟨bytes_below h.a hb (Nat.le_refl _), bytes_below h.b hb (Nat.le_refl _), h.w.trans (hb.mono h.w.size)⟩
theorem AB.alloc {w W : World} {A B : Nat} (h : AB w W A B) (o : Obj) : AB w (W.alloc o) A B := h.below (al (Below.refl _ _) o)
theorem lists_pair (W : World) (v0 v1 u0 u1 : Value) (a0 a1 b0 b1 : List UInt8) (t : TypeId) (h0 : BytesAt W v0 a0) (h1 : BytesAt W v1 a1) (g0 : BytesAt W u0 b0) (g1 : BytesAt W u1 b1) :
    ListsAt ((W.alloc (.cells #[v0, v1] t)).alloc (.cells #[u0, u1] t)) (.slice (some ⟨W.heap.size, 0, none⟩) 2 2) [a0, a1] ∧ ListsAt ((W.alloc (.cells #[v0, v1] t)).alloc (.cells #[u0, u1] t)) (.slice (some ⟨W.heap.size + 1, 0, none⟩) 2 2) [b0, b1] := by
  have hw := al (Below.refl _ W) (.cells #[v0, v1] t)
  refine ⟨(lists_two W v0 v1 a0 a1 t h0 h1).below (al (Below.refl _ _) _), ?_⟩
  have := lists_two (W.alloc (.cells #[v0, v1] t)) u0 u1 b0 b1 t (bytes_below g0 hw (Nat.le_refl _)) (bytes_below g1 hw (Nat.le_refl _))
  rw [World.size_alloc] at this
  exact this
set_option maxRecDepth 100000 in
set_option maxHeartbeats 1000000 in
theorem alive_clashes (w : World) : Calls Try.prog 50 #[] w fun e w' => e = .returned (.bool true) ∧ Below w.heap.size w w' := by
  have kc := fun (w : World) (C : Array Value) (n c : Nat) => Lib.run_convert_bytes_const (P := Try.prog) w 50 5 C n c Try.underlying50 Try.underlying5
  have h1 := bytes_marked w 97
  have hz : (w.alloc (.cells #[.int .u8 97] 5 (1, 2))).heap.size = w.heap.size + 1 := Array.size_push _
  have h2 := bytes_marked (w.alloc (.cells #[.int .u8 97] 5 (1, 2))) 98
  rw [hz] at h2
  have kc2 := kc (w.alloc (.cells #[.int .u8 97] 5 (1, 2))) #[.int .u8 98] 1 1
  rw [hz] at kc2
  have hab : AB w ((w.alloc (.cells #[.int .u8 97] 5 (1, 2))).alloc (.cells #[.int .u8 98] 5 (1, 2))) w.heap.size (w.heap.size + 1) := ⟨bytes_below h1 (al (Below.refl _ _) _) (Nat.le_refl _), h2, al (al (Below.refl _ _) _) _⟩
  have HAB := Lib.hid hab
  clear h1 h2 hab hz
  go_enter Try.func50, Try.ntmps50
  go_wp2_with fail
  clear kc kc2
  have hz0 : ((w.alloc (.cells #[.int .u8 97] 5 (1, 2))).alloc (.cells #[.int .u8 98] 5 (1, 2))).heap.size = w.heap.size + 1 + 1 := by simp only [World.size_alloc]
  obtain ⟨A, hA⟩ : ∃ A, A = w.heap.size := ⟨_, rfl⟩
  have hHAB := HAB.out
  rw [← hA] at hHAB hz0 ⊢
  obtain ⟨B, hB⟩ : ∃ B, B = A + 1 := ⟨_, rfl⟩
  rw [← hB] at hHAB hz0 ⊢
  rw [← hz0]
  clear HAB hA hB hz0
  generalize (w.alloc (.cells #[.int .u8 97] 5 (1, 2))).alloc (.cells #[.int .u8 98] 5 (1, 2)) = W0 at *
  have H0 := Lib.hid (show AB w W0 A B from hHAB)
  clear hHAB
  have hp := lists_pair W0 _ _ _ _ _ _ _ _ 50 H0.out.a H0.out.b H0.out.a H0.out.b
  have H1 := Lib.hid ((H0.out.alloc (.cells #[.slice (some ⟨A, 0, none⟩) 1 1, .slice (some ⟨B, 0, none⟩) 1 1] 50)).alloc (.cells #[.slice (some ⟨A, 0, none⟩) 1 1, .slice (some ⟨B, 0, none⟩) 1 1] 50))
  refine (lists_same _ _ _ _ hp.1 hp.2 (by simp)).mono ?_
  rintro e V ⟨rfl, hb⟩
  have H2 := Lib.hid (H1.out.below hb)
  clear hp hb H0 H1
  have HG := Lib.hid trivial
  go_wp2_with (have _ := HG; refine wpList_var_clash rfl _ _ rfl rfl rfl ?_; intro W1 hb1; have H3 := Lib.hid (H2.out.below hb1); clear HG hb1)
  have hp := lists_pair W1 _ _ _ _ _ _ _ _ 50 H3.out.a H3.out.b H3.out.a H3.out.a
  have H4 := Lib.hid ((H3.out.alloc (.cells #[.slice (some ⟨A, 0, none⟩) 1 1, .slice (some ⟨B, 0, none⟩) 1 1] 50)).alloc (.cells #[.slice (some ⟨A, 0, none⟩) 1 1, .slice (some ⟨A, 0, none⟩) 1 1] 50))
  refine (lists_root _ _ _ _ _ hp.1 hp.2 (by simp) rfl (by simp) (by simp) (by simp) rt_ab).mono ?_
  rintro e V2 ⟨rfl, hb⟩
  have H5 := Lib.hid (H4.out.below hb)
  clear hp hb H2 H3 H4
  have HG := Lib.hid trivial
  go_wp2_with (have _ := HG; refine wpList_var_clash rfl _ _ rfl rfl rfl ?_; intro W2 hb1; have H6 := Lib.hid (H5.out.below hb1); clear HG hb1)
  have hl := lists_two W2 _ _ _ _ 50 H6.out.a H6.out.b
  have H7 := Lib.hid (H6.out.alloc (.cells #[.slice (some ⟨A, 0, none⟩) 1 1, .slice (some ⟨B, 0, none⟩) 1 1] 50))
  obtain ⟨y, hy⟩ : ∃ y, y = lf [98] := ⟨_, rfl⟩
  have HLF := Lib.hid (fun W (h : BytesAt W (.slice (some ⟨B, 0, none⟩) 1 1) [98]) => lf_any [98] _ W h (by simp))
  rw [← hy] at HLF
  clear hy
  refine (HLF.out _ H7.out.b).mono ?_
  rintro e W3 ⟨rfl, hb⟩
  have HL3 := Lib.hid (hl.below (hb.trans ((al (Below.refl _ W3) (.cells (cellsAll [y]).toArray 24)).mono hb.size)))
  have H8 := Lib.hid ((H7.out.below hb).alloc (.cells (cellsAll [y]).toArray 24))
  clear hl hb H5 H6 H7
  go_wp2_with (refine wpList_build_sums rfl 1 _ rfl [y] rfl (by omega) (by omega) rfl ?_)
  refine (path_same _ 0 [97] _ _ _ _ HL3.out (by simp) rfl H8.out.a (by simp) ⟨_, _, _, rfl⟩).mono ?_
  rintro e V3 ⟨rfl, hb⟩
  have H9 := Lib.hid (H8.out.below hb)
  clear hb HL3 H8
  have HG := Lib.hid trivial
  go_wp2_with (have _ := HG; refine wpList_var_clash rfl _ _ rfl rfl rfl ?_; intro W4 hb1; have H10 := Lib.hid (H9.out.below hb1); clear HG hb1)
  have hl1 := lists_one W4 _ _ 50 H10.out.a
  have h11 := H10.out.alloc (.cells #[.slice (some ⟨A, 0, none⟩) 1 1] 50)
  have hl2 := lists_two (W4.alloc (.cells #[.slice (some ⟨A, 0, none⟩) 1 1] 50)) _ _ _ _ 50 h11.a h11.b
  rw [World.size_alloc] at hl2
  have hbw := al (Below.refl _ (W4.alloc (.cells #[.slice (some ⟨A, 0, none⟩) 1 1] 50))) (.cells #[.slice (some ⟨A, 0, none⟩) 1 1, .slice (some ⟨B, 0, none⟩) 1 1] 50)
  have H12 := Lib.hid (h11.alloc (.cells #[.slice (some ⟨A, 0, none⟩) 1 1, .slice (some ⟨B, 0, none⟩) 1 1] 50))
  refine (HLF.out _ H12.out.b).mono ?_
  rintro e W5 ⟨rfl, hb⟩
  have hb5 := hb.trans ((al (Below.refl _ W5) (.cells (cellsAll [y]).toArray 24)).mono hb.size)
  have HL4 := Lib.hid (And.intro ((hl1.below hbw).below hb5) (hl2.below hb5))
  have H13 := Lib.hid ((H12.out.below hb).alloc (.cells (cellsAll [y]).toArray 24))
  clear hl1 hl2 hb hb5 hbw h11 H9 H10 H12
  go_wp2_with (refine wpList_build_sums rfl 1 _ rfl [y] rfl (by omega) (by omega) rfl ?_)
  refine (link_same _ _ _ _ _ _ HL4.out.1 HL4.out.2 (by simp) (by simp) rfl (by simp) ⟨_, _, _, rfl⟩).mono ?_
  rintro e V4 ⟨rfl, hb⟩
  have H14 := Lib.hid (H13.out.below hb)
  clear hb HL4 H13
  have HG := Lib.hid trivial
  go_wp2_with (have _ := HG; refine wpList_var_clash rfl _ _ rfl rfl rfl ?_; intro W6 hb1; have H15 := Lib.hid (H14.out.below hb1); clear HG hb1)
  have hi1 : isB [97] [97] = false := by unfold isB; simp
  have hi2 : isB [97] [98] = false := by unfold isB; rw [decide_eq_false sh_ab]; simp
  refine (is_any [97] [97] _ _ W6 H15.out.a H15.out.a (by simp) (by simp)).mono ?_
  rw [hi1]
  rintro e W7 ⟨rfl, hb⟩
  have H16 := Lib.hid (H15.out.below hb)
  clear hb H14 H15 hi1
  have HI2 := Lib.hid hi2
  clear hi2
  go_wp2_with fail
  refine (is_any [97] [98] _ _ W7 H16.out.a H16.out.b (by simp) (by simp)).mono ?_
  rw [HI2.out]
  rintro e W8 ⟨rfl, hb⟩
  have H17 := Lib.hid (H16.out.below hb)
  clear hb H16
  obtain ⟨s, hs⟩ : ∃ s, s = sh [97] := ⟨_, rfl⟩
  obtain ⟨t, ht⟩ : ∃ s, s = sh [98] := ⟨_, rfl⟩
  have hst : ¬ s = t := by rw [hs, ht]; exact sh_ab
  have HSA := Lib.hid (sh_any [97] _ W8 H17.out.a (by simp))
  have HSB := Lib.hid (fun W (h : BytesAt W (.slice (some ⟨B, 0, none⟩) 1 1) [98]) => sh_any [98] _ W h (by simp))
  rw [← hs] at HSA
  rw [← ht] at HSB
  have hes : ∀ w : World, (Op.equalIn 10000 24 (.agg (cellsOf s).toArray) (.agg (cellsOf t).toArray)).run Try.prog w = .ok false w := fun w => by rw [eq_sums]; simp [hst]
  have HES := Lib.hid hes
  clear hs ht hst hes
  go_wp2_with fail
  refine HSA.out.mono ?_
  rintro e W9 ⟨rfl, hb⟩
  have H18 := Lib.hid (H17.out.below hb)
  clear hb H17 HSA
  go_wp2_with fail
  refine (HSB.out _ H18.out.b).mono ?_
  rintro e W10 ⟨rfl, hb⟩
  have H19 := Lib.hid (H18.out.below hb)
  clear hb H18 HSB
  have hes := HES.out
  go_wp2_with fail
  exact bodyPost_ret (results_tmp rfl _ _ _) rfl ⟨rfl, H19.out.w⟩
end Go.Proofs.Ytdkcndgehgmadaa
-- Walks: almonerlaw01.ByteListsSize, almonerlaw13.great.
open Go Go.RowKit Alm
namespace Go.Proofs.Ytdkcndgehgmadaa
/-- How much that is, as far as it is counted. -/
def bszGo : Nat → List (List UInt8) → Nat
  | n, [] => n
  | n, x :: r => if n ≤ 1048576 then bszGo (n + x.length) r else n
def bsz (ls : List (List UInt8)) : Nat := bszGo ls.length ls
theorem bszGo_ge : ∀ (l : List (List UInt8)) (n : Nat), n ≤ bszGo n l
  | [], n => Nat.le_refl _
  | x :: r, n => by
    unfold bszGo
    split
    · have := bszGo_ge r (n + x.length); omega
    · exact Nat.le_refl _
theorem bszGo_le (M : Nat) (hM : M ≤ 1048576) : ∀ (l : List (List UInt8)) (n : Nat), bszGo n l ≤ M → n ≤ M ∧ ∀ x ∈ l, x.length ≤ M
  | [], n, h => ⟨h, fun x hx => by cases hx⟩
  | x :: r, n, h => by
    unfold bszGo at h
    split at h
    · have h1 := bszGo_le M hM r _ h
      refine ⟨by omega, fun y hy => ?_⟩
      rcases List.mem_cons.1 hy with rfl | hy
      · omega
      · exact h1.2 y hy
    · exact ⟨h, by omega⟩
theorem bsz_le (M : Nat) (hM : M ≤ 1048576) (l : List (List UInt8)) (h : bsz l ≤ M) : l.length ≤ M ∧ ∀ x ∈ l, x.length ≤ M := bszGo_le M hM l _ h
/-- The greatest length that comes in. -/
abbrev LIM : Nat := 140737488355328
theorem bszGo_lt : ∀ (l : List (List UInt8)) (n : Nat), (∀ x ∈ l, x.length ≤ LIM) → n ≤ 1048576 + LIM → bszGo n l ≤ 1048576 + LIM
  | [], n, _, h => h
  | x :: r, n, hx, h => by
    unfold bszGo
    split
    · exact bszGo_lt r _ (fun y hy => hx y (List.mem_cons_of_mem _ hy)) (by have := hx x (List.mem_cons_self ..); omega)
    · exact h
theorem bs_any (a : Option Addr) (n c : Nat) (w : World) : Calls Try.prog 111 #[.slice a n c] w fun e w' => e = .returned (.int .i64 (n : Int)) ∧ w = w' := by
  go_enter Try.func111, Try.ntmps111
  go_wp2_with fail
  exact bodyPost_ret (results_tmp rfl _ _ _) rfl ⟨rfl, rfl⟩
set_option maxRecDepth 100000 in
set_option maxHeartbeats 1000000 in
theorem blsz_any (ls : List (List UInt8)) (v : Value) (w : World) (hv : ListsAt w v ls) (hn : ls.length ≤ LIM) (hs : ∀ x ∈ ls, x.length ≤ LIM) : Calls Try.prog 85 #[v] w fun e w' => e = .returned (.int .i64 (bsz ls : Int)) ∧ w = w' := by
  have HV := Lib.hid hv
  obtain ⟨aa, ca, rfl, a1, a2, a3⟩ := hv
  clear a3
  obtain ⟨n, hna⟩ : ∃ n, n = ls.length := ⟨_, rfl⟩
  rw [← hna] at HV a1 hn ⊢
  obtain ⟨T, hT⟩ : ∃ T, T = bsz ls := ⟨_, rfl⟩
  have hT0 : bszGo n ls = T := by rw [hT, bsz, hna]
  rw [← hT]
  have HN := Lib.hid (And.intro hna hs)
  have HT0 := Lib.hid hT0
  unfold LIM at hn
  clear hna hs hT hT0
  go_enter Try.func85, Try.ntmps85
  go_wp2_with fail
  go_loopw [3, 4] (fun cv i W => ∃ j c : Nat, j ≤ n ∧ i = .int .i64 (j : Int) ∧ cv = .int .i64 (c : Int) ∧ c ≤ 1048576 + LIM ∧ bszGo c (ls.drop j) = T ∧ W = w) (fun _ i _ => n - (intOf i).toNat)
  case atStart => exact ⟨0, n, by omega, rfl, rfl, by unfold LIM; omega, by simpa using HT0.out, rfl⟩
  case round =>
    obtain ⟨j, c, hj, rfl, rfl, hc, hd, hW⟩ := hrel
    have hW := hW.symm
    subst hW
    have HD := Lib.hid hd; clear hd
    unfold LIM at hc
    by_cases hlt : j < n
    · have hlt' : (j : Int) < (n : Int) := by omega
      have h0 : ls ≠ [] := by intro h; have := HN.out.1; rw [h] at this; simp at this; omega
      obtain ⟨b1', o1', c1', he1, _, _⟩ := HV.out.form h0
      simp only [Value.slice.injEq] at he1
      obtain ⟨rfl, h9, rfl⟩ := he1
      clear h9
      have hjl : j < ls.length := by have := HN.out.1; omega
      have hdr : ls.drop j = ls[j] :: ls.drop (j + 1) := List.drop_eq_getElem_cons hjl
      have hx9 : ls[j].length ≤ LIM := HN.out.2 _ (List.getElem_mem hjl)
      unfold LIM at hx9
      obtain ⟨u1, hc1, hu1⟩ := HV.out.cell (sp := none) (j := j) hjl
      have hD := HD.out
      rw [hdr] at hD
      generalize ls[j] = x at *
      obtain ⟨ax, cx, rfl, _, _, hor⟩ := hu1
      clear hor hdr h0
      obtain ⟨k, hk⟩ : ∃ k, k = x.length := ⟨_, rfl⟩
      rw [← hk] at hc1 hx9
      have HK := Lib.hid hk
      have HDD := Lib.hid hD
      clear hk hD hjl
      have hj0 : (0 : Int) ≤ (j : Int) := by omega
      by_cases hm : c ≤ 1048576
      · have hm' : (c : Int) ≤ 1048576 := by omega
        go_wp2_with fail
        have hDD := HDD.out
        unfold bszGo at hDD
        rw [if_pos hm, ← HK.out] at hDD
        have HE := Lib.hid hDD
        clear hDD
        refine (bs_any ax k cx w).mono ?_
        rintro e w1 ⟨rfl, rfl⟩
        go_wp2_with fail
        exact ⟨⟨j + 1, c + k, by omega, by simp, by simp, by unfold LIM; omega, HE.out, trivial⟩, by simp [intOf]; omega⟩
      · have hm' : ¬ (c : Int) ≤ 1048576 := by omega
        have hcT : c = T := by
          have := HDD.out
          unfold bszGo at this
          rw [if_neg hm] at this
          exact this
        go_wp2_with fail
        exact bodyPost_ret (results_tmp rfl _ _ _) rfl ⟨rfl, rfl⟩
    · have hjn : j = n := by omega
      have hcT : c = T := by
        have := HD.out
        rw [List.drop_eq_nil_of_le (by have := HN.out.1; omega)] at this
        exact this
      subst hjn
      go_wp2_with fail
      exact bodyPost_ret (results_tmp rfl _ _ _) rfl ⟨rfl, rfl⟩
/-- More than is gone through. -/
def grB (L M : List (List UInt8)) (B : List UInt8) (S : List Sum) : Bool := decide (40 < L.length) || decide (40 < M.length) || decide (100 < S.length) || decide (20000 < bsz L + bsz M + B.length)
abbrev said13 (vL vM : Value) (at_ : Int) (vB vS : Value) : Value := .agg #[vL, vM, .int .i64 at_, vB, vS]
set_option maxRecDepth 100000 in
set_option maxHeartbeats 2000000 in
theorem great_any (L M : List (List UInt8)) (B : List UInt8) (S : List Sum) (vL vM : Value) (at_ : Int) (vB vS : Value) (w : World) (hL : ListsAt w vL L) (hM : ListsAt w vM M) (hB : BytesAt w vB B) (hS : SumsAt w vS S)
    (h1 : L.length ≤ LIM ∧ ∀ x ∈ L, x.length ≤ LIM) (h2 : M.length ≤ LIM ∧ ∀ x ∈ M, x.length ≤ LIM) (h3 : B.length ≤ LIM) (h4 : S.length ≤ LIM) :
    Calls Try.prog 53 #[said13 vL vM at_ vB vS] w fun e w' => e = .returned (.bool (grB L M B S)) ∧ Below w.heap.size w w' := by
  obtain ⟨aB, cB, rfl, _, _, _⟩ := hB
  obtain ⟨aS, cS, rfl, _, _, _⟩ := hS
  have HL := Lib.hid hL
  have HM := Lib.hid hM
  obtain ⟨aL, cL, rfl, _, _, hz1⟩ := hL
  obtain ⟨aM, cM, rfl, _, _, hz2⟩ := hM
  clear hz1 hz2
  have hb0 := al (Below.refl _ w) (.cells #[.slice aL L.length cL, .slice aM M.length cM, .int .i64 at_, .slice aB B.length cB, .slice aS S.length cS] 80)
  have HB0 := Lib.hid hb0
  have hr := range_new w #[.slice aL L.length cL, .slice aM M.length cM, .int .i64 at_, .slice aB B.length cB, .slice aS S.length cS] 80 _ rfl
  have HT := Lib.hid (And.intro (hr 0 _ rfl) (And.intro (hr 1 _ rfl) (And.intro (hr 3 _ rfl) (hr 4 _ rfl))))
  have HZL := Lib.hid (fun V (h : Below (w.alloc (.cells #[.slice aL L.length cL, .slice aM M.length cM, .int .i64 at_, .slice aB B.length cB, .slice aS S.length cS] 80)).heap.size (w.alloc (.cells #[.slice aL L.length cL, .slice aM M.length cM, .int .i64 at_, .slice aB B.length cB, .slice aS S.length cS] 80)) V) => blsz_any L _ V ((HL.out.below hb0).below h) h1.1 h1.2)
  have HZM := Lib.hid (fun V (h : Below (w.alloc (.cells #[.slice aL L.length cL, .slice aM M.length cM, .int .i64 at_, .slice aB B.length cB, .slice aS S.length cS] 80)).heap.size (w.alloc (.cells #[.slice aL L.length cL, .slice aM M.length cM, .int .i64 at_, .slice aB B.length cB, .slice aS S.length cS] 80)) V) => blsz_any M _ V ((HM.out.below hb0).below h) h2.1 h2.2)
  clear hb0 hr HL HM
  obtain ⟨l, hl⟩ : ∃ n, n = L.length := ⟨_, rfl⟩
  obtain ⟨m, hm⟩ : ∃ n, n = M.length := ⟨_, rfl⟩
  obtain ⟨b, hb⟩ : ∃ n, n = B.length := ⟨_, rfl⟩
  obtain ⟨k, hk⟩ : ∃ n, n = S.length := ⟨_, rfl⟩
  obtain ⟨p, hp⟩ : ∃ n, n = bsz L := ⟨_, rfl⟩
  obtain ⟨q, hq⟩ : ∃ n, n = bsz M := ⟨_, rfl⟩
  obtain ⟨R, hR⟩ : ∃ R, R = grB L M B S := ⟨_, rfl⟩
  have hR2 : R = (decide (40 < l) || decide (40 < m) || decide (100 < k) || decide (20000 < p + q + b)) := by rw [hR, grB, hl, hm, hb, hk, hp, hq]
  have p9 : p ≤ 1048576 + LIM := by rw [hp]; exact bszGo_lt L _ h1.2 (by have := h1.1; omega)
  have q9 : q ≤ 1048576 + LIM := by rw [hq]; exact bszGo_lt M _ h2.2 (by have := h2.1; omega)
  have b9 : b ≤ LIM := by rw [hb]; exact h3
  rw [← hR]
  rw [← hl, ← hm, ← hb, ← hk] at HT HZL HZM HB0 ⊢
  rw [← hp] at HZL
  rw [← hq] at HZM
  have HR := Lib.hid hR2
  clear hl hm hb hk hp hq hR hR2 h1 h2 h3 h4
  unfold LIM at p9 q9 b9
  have p0 : (p : Int) ≤ 140737489403904 := by omega
  have q0 : (q : Int) ≤ 140737489403904 := by omega
  have b0 : (b : Int) ≤ 140737488355328 := by omega
  go_enter Try.func53, Try.ntmps53
  go_wp2_with fail
  obtain ⟨z, hz⟩ : ∃ z, z = w.heap.size := ⟨_, rfl⟩
  rw [← hz] at HT ⊢
  clear hz
  generalize w.alloc (.cells #[.slice aL l cL, .slice aM m cM, .int .i64 at_, .slice aB b cB, .slice aS k cS] 80) = W at *
  refine wp_region_sched (fun V => V.cell? ⟨z, 0, none⟩ = some (.slice aL l cL) ∧ V.cell? ⟨z, 1, none⟩ = some (.slice aM m cM) ∧ V.cell? ⟨z, 3, none⟩ = some (.slice aB b cB) ∧ V.cell? ⟨z, 4, none⟩ = some (.slice aS k cS) ∧ Below W.heap.size W V) [.t 0, .e 1 true, .t 2, .t 3, .t 4, .t 5, .e 6 true, .t 7, .t 8, .t 9, .t 10, .t 11, .e 12 true, .t 13, .t 14, .t 15, .t 16, .t 17, .t 20, .t 24, .s 18, .s 21, .s 25, .t 26, .e 19 true, .e 22 true, .t 23, .t 27, .t 28, .t 29, .t 30] (by kernel_rfl) (by kernel_rfl) (by intro c a d v w h; cases d <;> exact h) ?_
  have HSS : Hid (∀ V, Below W.heap.size W V → V.cell? ⟨z, 0, none⟩ = some (.slice aL l cL) ∧ V.cell? ⟨z, 1, none⟩ = some (.slice aM m cM) ∧ V.cell? ⟨z, 3, none⟩ = some (.slice aB b cB) ∧ V.cell? ⟨z, 4, none⟩ = some (.slice aS k cS) ∧ Below W.heap.size W V) := Lib.hid (fun V hV => ⟨bc HT.out.1 hV, bc HT.out.2.1 hV, bc HT.out.2.2.1 hV, bc HT.out.2.2.2 hV, hV⟩)
  have HS := Lib.hid (Below.refl W.heap.size W).drew
  generalize W.drew = V at *
  iterate 1
    refine wpS_t rfl (v := ?_) (by rfl) (fun W => ?_) ?_
    rotate_left
    · go_simp
      try rfl
    try simp only [Act.put, List.setIfInBounds_toArray, List.set_cons_zero, List.set_cons_succ]
  have g := (HSS.out _ HS.out).1
  refine wpS_k rfl (by rfl) (fun K hK => ?_)
  go_simp
  refine hK _ _ ⟨by exact HSS.out _ HS.out, ?_⟩; clear hK K
  try simp only [Act.put, List.setIfInBounds_toArray, List.set_cons_zero, List.set_cons_succ]
  clear g
  by_cases c1 : 40 < l
  · have d1 : (40 : Int) < (l : Int) := by omega
    have HRV : Hid (R = true) := Lib.hid (by rw [HR.out, decide_eq_true c1]; rfl)
    clear c1
    iterate 3
      refine wpS_t rfl (v := ?_) (by rfl) (fun W => ?_) ?_
      rotate_left
      · go_simp
        try rfl
      try simp only [Act.put, List.setIfInBounds_toArray, List.set_cons_zero, List.set_cons_succ]
    iterate 1
      refine wpS_t_skip rfl (by rfl) ?_
      try simp only [Act.put, List.setIfInBounds_toArray, List.set_cons_zero, List.set_cons_succ]
    refine wpS_k_skip (by exact HSS.out _ HS.out) rfl (by rfl) ?_
    try simp only [Act.put, List.setIfInBounds_toArray, List.set_cons_zero, List.set_cons_succ]
    iterate 2
      refine wpS_t_skip rfl (by rfl) ?_
      try simp only [Act.put, List.setIfInBounds_toArray, List.set_cons_zero, List.set_cons_succ]
    iterate 2
      refine wpS_t rfl (v := ?_) (by rfl) (fun W => ?_) ?_
      rotate_left
      · go_simp
        try rfl
      try simp only [Act.put, List.setIfInBounds_toArray, List.set_cons_zero, List.set_cons_succ]
    iterate 1
      refine wpS_t_skip rfl (by rfl) ?_
      try simp only [Act.put, List.setIfInBounds_toArray, List.set_cons_zero, List.set_cons_succ]
    refine wpS_k_skip (by exact HSS.out _ HS.out) rfl (by rfl) ?_
    try simp only [Act.put, List.setIfInBounds_toArray, List.set_cons_zero, List.set_cons_succ]
    iterate 2
      refine wpS_t_skip rfl (by rfl) ?_
      try simp only [Act.put, List.setIfInBounds_toArray, List.set_cons_zero, List.set_cons_succ]
    iterate 2
      refine wpS_t rfl (v := ?_) (by rfl) (fun W => ?_) ?_
      rotate_left
      · go_simp
        try rfl
      try simp only [Act.put, List.setIfInBounds_toArray, List.set_cons_zero, List.set_cons_succ]
    iterate 3
      refine wpS_t_skip rfl (by rfl) ?_
      try simp only [Act.put, List.setIfInBounds_toArray, List.set_cons_zero, List.set_cons_succ]
    iterate 3
      refine wpS_s_skip (by exact HSS.out _ HS.out) rfl (by rfl) ?_
      try simp only [Act.put, List.setIfInBounds_toArray, List.set_cons_zero, List.set_cons_succ]
    iterate 1
      refine wpS_t_skip rfl (by rfl) ?_
      try simp only [Act.put, List.setIfInBounds_toArray, List.set_cons_zero, List.set_cons_succ]
    refine wpS_k_skip (by exact HSS.out _ HS.out) rfl (by rfl) ?_
    try simp only [Act.put, List.setIfInBounds_toArray, List.set_cons_zero, List.set_cons_succ]
    refine wpS_k_skip (by exact HSS.out _ HS.out) rfl (by rfl) ?_
    try simp only [Act.put, List.setIfInBounds_toArray, List.set_cons_zero, List.set_cons_succ]
    iterate 3
      refine wpS_t_skip rfl (by rfl) ?_
      try simp only [Act.put, List.setIfInBounds_toArray, List.set_cons_zero, List.set_cons_succ]
    iterate 2
      refine wpS_t rfl (v := ?_) (by rfl) (fun W => ?_) ?_
      rotate_left
      · go_simp
        try rfl
      try simp only [Act.put, List.setIfInBounds_toArray, List.set_cons_zero, List.set_cons_succ]
    refine wpS_done ?_
    go_wp2_with fail
    exact bodyPost_ret (results_tmp rfl _ _ _) rfl ⟨by rw [HRV.out]; rfl, HB0.out.trans (HS.out.mono HB0.out.size)⟩
  · have d1 : ¬ (40 : Int) < (l : Int) := by omega
    iterate 3
      refine wpS_t rfl (v := ?_) (by rfl) (fun W => ?_) ?_
      rotate_left
      · go_simp
        try rfl
      try simp only [Act.put, List.setIfInBounds_toArray, List.set_cons_zero, List.set_cons_succ]
    iterate 1
      refine wpS_t rfl (v := ?_) (by rfl) (fun W => ?_) ?_
      rotate_left
      · go_simp
        try rfl
      try simp only [Act.put, List.setIfInBounds_toArray, List.set_cons_zero, List.set_cons_succ]
    have g := (HSS.out _ HS.out).2.1
    refine wpS_k rfl (by rfl) (fun K hK => ?_)
    go_simp
    refine hK _ _ ⟨by exact HSS.out _ HS.out, ?_⟩; clear hK K
    try simp only [Act.put, List.setIfInBounds_toArray, List.set_cons_zero, List.set_cons_succ]
    clear g
    by_cases c2 : 40 < m
    · have d2 : (40 : Int) < (m : Int) := by omega
      have HRV : Hid (R = true) := Lib.hid (by rw [HR.out, decide_eq_true c2]; simp)
      clear c1 c2
      iterate 4
        refine wpS_t rfl (v := ?_) (by rfl) (fun W => ?_) ?_
        rotate_left
        · go_simp
          try rfl
        try simp only [Act.put, List.setIfInBounds_toArray, List.set_cons_zero, List.set_cons_succ]
      iterate 1
        refine wpS_t_skip rfl (by rfl) ?_
        try simp only [Act.put, List.setIfInBounds_toArray, List.set_cons_zero, List.set_cons_succ]
      refine wpS_k_skip (by exact HSS.out _ HS.out) rfl (by rfl) ?_
      try simp only [Act.put, List.setIfInBounds_toArray, List.set_cons_zero, List.set_cons_succ]
      iterate 2
        refine wpS_t_skip rfl (by rfl) ?_
        try simp only [Act.put, List.setIfInBounds_toArray, List.set_cons_zero, List.set_cons_succ]
      iterate 2
        refine wpS_t rfl (v := ?_) (by rfl) (fun W => ?_) ?_
        rotate_left
        · go_simp
          try rfl
        try simp only [Act.put, List.setIfInBounds_toArray, List.set_cons_zero, List.set_cons_succ]
      iterate 3
        refine wpS_t_skip rfl (by rfl) ?_
        try simp only [Act.put, List.setIfInBounds_toArray, List.set_cons_zero, List.set_cons_succ]
      iterate 3
        refine wpS_s_skip (by exact HSS.out _ HS.out) rfl (by rfl) ?_
        try simp only [Act.put, List.setIfInBounds_toArray, List.set_cons_zero, List.set_cons_succ]
      iterate 1
        refine wpS_t_skip rfl (by rfl) ?_
        try simp only [Act.put, List.setIfInBounds_toArray, List.set_cons_zero, List.set_cons_succ]
      refine wpS_k_skip (by exact HSS.out _ HS.out) rfl (by rfl) ?_
      try simp only [Act.put, List.setIfInBounds_toArray, List.set_cons_zero, List.set_cons_succ]
      refine wpS_k_skip (by exact HSS.out _ HS.out) rfl (by rfl) ?_
      try simp only [Act.put, List.setIfInBounds_toArray, List.set_cons_zero, List.set_cons_succ]
      iterate 3
        refine wpS_t_skip rfl (by rfl) ?_
        try simp only [Act.put, List.setIfInBounds_toArray, List.set_cons_zero, List.set_cons_succ]
      iterate 2
        refine wpS_t rfl (v := ?_) (by rfl) (fun W => ?_) ?_
        rotate_left
        · go_simp
          try rfl
        try simp only [Act.put, List.setIfInBounds_toArray, List.set_cons_zero, List.set_cons_succ]
      refine wpS_done ?_
      go_wp2_with fail
      exact bodyPost_ret (results_tmp rfl _ _ _) rfl ⟨by rw [HRV.out]; rfl, HB0.out.trans (HS.out.mono HB0.out.size)⟩
    · have d2 : ¬ (40 : Int) < (m : Int) := by omega
      iterate 4
        refine wpS_t rfl (v := ?_) (by rfl) (fun W => ?_) ?_
        rotate_left
        · go_simp
          try rfl
        try simp only [Act.put, List.setIfInBounds_toArray, List.set_cons_zero, List.set_cons_succ]
      iterate 1
        refine wpS_t rfl (v := ?_) (by rfl) (fun W => ?_) ?_
        rotate_left
        · go_simp
          try rfl
        try simp only [Act.put, List.setIfInBounds_toArray, List.set_cons_zero, List.set_cons_succ]
      have g := (HSS.out _ HS.out).2.2.2.1
      refine wpS_k rfl (by rfl) (fun K hK => ?_)
      go_simp
      refine hK _ _ ⟨by exact HSS.out _ HS.out, ?_⟩; clear hK K
      try simp only [Act.put, List.setIfInBounds_toArray, List.set_cons_zero, List.set_cons_succ]
      clear g
      by_cases c3 : 100 < k
      · have d3 : (100 : Int) < (k : Int) := by omega
        have HRV : Hid (R = true) := Lib.hid (by rw [HR.out, decide_eq_true c3]; simp)
        clear c1 c2 c3
        iterate 4
          refine wpS_t rfl (v := ?_) (by rfl) (fun W => ?_) ?_
          rotate_left
          · go_simp
            try rfl
          try simp only [Act.put, List.setIfInBounds_toArray, List.set_cons_zero, List.set_cons_succ]
        iterate 3
          refine wpS_t_skip rfl (by rfl) ?_
          try simp only [Act.put, List.setIfInBounds_toArray, List.set_cons_zero, List.set_cons_succ]
        iterate 3
          refine wpS_s_skip (by exact HSS.out _ HS.out) rfl (by rfl) ?_
          try simp only [Act.put, List.setIfInBounds_toArray, List.set_cons_zero, List.set_cons_succ]
        iterate 1
          refine wpS_t_skip rfl (by rfl) ?_
          try simp only [Act.put, List.setIfInBounds_toArray, List.set_cons_zero, List.set_cons_succ]
        refine wpS_k_skip (by exact HSS.out _ HS.out) rfl (by rfl) ?_
        try simp only [Act.put, List.setIfInBounds_toArray, List.set_cons_zero, List.set_cons_succ]
        refine wpS_k_skip (by exact HSS.out _ HS.out) rfl (by rfl) ?_
        try simp only [Act.put, List.setIfInBounds_toArray, List.set_cons_zero, List.set_cons_succ]
        iterate 3
          refine wpS_t_skip rfl (by rfl) ?_
          try simp only [Act.put, List.setIfInBounds_toArray, List.set_cons_zero, List.set_cons_succ]
        iterate 2
          refine wpS_t rfl (v := ?_) (by rfl) (fun W => ?_) ?_
          rotate_left
          · go_simp
            try rfl
          try simp only [Act.put, List.setIfInBounds_toArray, List.set_cons_zero, List.set_cons_succ]
        refine wpS_done ?_
        go_wp2_with fail
        exact bodyPost_ret (results_tmp rfl _ _ _) rfl ⟨by rw [HRV.out]; rfl, HB0.out.trans (HS.out.mono HB0.out.size)⟩
      · have d3 : ¬ (100 : Int) < (k : Int) := by omega
        iterate 4
          refine wpS_t rfl (v := ?_) (by rfl) (fun W => ?_) ?_
          rotate_left
          · go_simp
            try rfl
          try simp only [Act.put, List.setIfInBounds_toArray, List.set_cons_zero, List.set_cons_succ]
        iterate 3
          refine wpS_t rfl (v := ?_) (by rfl) (fun W => ?_) ?_
          rotate_left
          · go_simp
            try rfl
          try simp only [Act.put, List.setIfInBounds_toArray, List.set_cons_zero, List.set_cons_succ]
        refine wpS_s (by exact HSS.out _ HS.out) rfl (v := ?_) (by rfl) (fun W hSW => ?_) ?_
        rotate_left
        · go_simp
          try rfl
        try simp only [Act.put, List.setIfInBounds_toArray, List.set_cons_zero, List.set_cons_succ]
        refine wpS_s (by exact HSS.out _ HS.out) rfl (v := ?_) (by rfl) (fun W hSW => ?_) ?_
        rotate_left
        · go_simp
          try rfl
        try simp only [Act.put, List.setIfInBounds_toArray, List.set_cons_zero, List.set_cons_succ]
        refine wpS_s (by exact HSS.out _ HS.out) rfl (v := ?_) (by rfl) (fun W hSW => ?_) ?_
        rotate_left
        · go_simp
          try rfl
        try simp only [Act.put, List.setIfInBounds_toArray, List.set_cons_zero, List.set_cons_succ]
        iterate 1
          refine wpS_t rfl (v := ?_) (by rfl) (fun W => ?_) ?_
          rotate_left
          · go_simp
            try rfl
          try simp only [Act.put, List.setIfInBounds_toArray, List.set_cons_zero, List.set_cons_succ]
        refine wpS_k rfl (by rfl) (fun K hK => ?_)
        go_simp
        refine (HZL.out V HS.out).mono ?_
        rintro e V1 ⟨rfl, rfl⟩
        refine hK _ _ ⟨by exact HSS.out _ HS.out, ?_⟩; clear hK K
        try simp only [Act.put, List.setIfInBounds_toArray, List.set_cons_zero, List.set_cons_succ]
        refine wpS_k rfl (by rfl) (fun K hK => ?_)
        go_simp
        refine (HZM.out V HS.out).mono ?_
        rintro e V1 ⟨rfl, rfl⟩
        refine hK _ _ ⟨by exact HSS.out _ HS.out, ?_⟩; clear hK K
        try simp only [Act.put, List.setIfInBounds_toArray, List.set_cons_zero, List.set_cons_succ]
        have HRV : Hid (R = decide (20000 < p + q + b)) := Lib.hid (by rw [HR.out, decide_eq_false c1, decide_eq_false c2, decide_eq_false c3]; rfl)
        have e1 : IntKind.i64.wrap ((p : Int) + (q : Int)) = (p : Int) + (q : Int) := by rw [IntKind.wrap_i64]; omega
        have e2 : IntKind.i64.wrap ((p : Int) + (q : Int) + (b : Int)) = (p : Int) + (q : Int) + (b : Int) := by rw [IntKind.wrap_i64]; omega
        clear p9 q9 b9 c1 c2 c3
        by_cases c4 : 20000 < p + q + b
        · have d4 : (20000 : Int) < (p : Int) + (q : Int) + (b : Int) := by omega
          rw [decide_eq_true c4] at HRV
          clear c4
          iterate 5
            refine wpS_t rfl (v := ?_) (by rfl) (fun W => ?_) ?_
            rotate_left
            · go_simp
              try rfl
            try simp only [Act.put, List.setIfInBounds_toArray, List.set_cons_zero, List.set_cons_succ]
          refine wpS_done ?_
          go_wp2_with fail
          exact bodyPost_ret (results_tmp rfl _ _ _) rfl ⟨by rw [HRV.out]; rfl, HB0.out.trans (HS.out.mono HB0.out.size)⟩
        · have d4 : ¬ (20000 : Int) < (p : Int) + (q : Int) + (b : Int) := by omega
          rw [decide_eq_false c4] at HRV
          clear c4
          iterate 5
            refine wpS_t rfl (v := ?_) (by rfl) (fun W => ?_) ?_
            rotate_left
            · go_simp
              try rfl
            try simp only [Act.put, List.setIfInBounds_toArray, List.set_cons_zero, List.set_cons_succ]
          refine wpS_done ?_
          go_wp2_with fail
          exact bodyPost_ret (results_tmp rfl _ _ _) rfl ⟨by rw [HRV.out]; rfl, HB0.out.trans (HS.out.mono HB0.out.size)⟩
end Go.Proofs.Ytdkcndgehgmadaa
-- Walks: the law ClashesOwn.
open Go Go.RowKit Alm
namespace Go.Proofs.Ytdkcndgehgmadaa
theorem wrapT (a : Int) (h0 : 0 ≤ a) (h1 : a < 4000000000) : wrap64 a = a := by unfold wrap64; omega
set_option maxRecDepth 100000 in
set_option maxHeartbeats 1000000 in
theorem lsums_any (ls : List (List UInt8)) (v : Value) (w : World) (hv : ListsAt w v ls) (hn : ls.length < 1000000) (hs : ∀ x ∈ ls, x.length < 1000000) : Calls Try.prog 55 #[v] w fun e w' => ∃ u, e = .returned u ∧ SumsAt w' u (ls.map lf) ∧ Below w.heap.size w w' := by
  have HV := Lib.hid hv
  obtain ⟨aa, ca, rfl, a1, a2, a3⟩ := hv
  clear a3
  obtain ⟨n, hna⟩ : ∃ n, n = ls.length := ⟨_, rfl⟩
  rw [← hna] at HV a1 hn ⊢
  have HN := Lib.hid (And.intro hna hs)
  clear hna hs
  go_enter Try.func55, Try.ntmps55
  go_wp2_with fail
  go_loopw [3, 4] (fun out i W => ∃ j : Nat, j ≤ n ∧ i = .int .i64 (j : Int) ∧ W.ownsRow w.heap.size 24 32 out j (cellsAll ((ls.take j).map lf)) ∧ (j = 0 → out = .slice none 0 0) ∧ Below w.heap.size w W) (fun _ i _ => n - (intOf i).toNat)
  case atStart => exact ⟨0, by omega, rfl, World.ownsRow_nil _ _ _ _, fun _ => rfl, Below.refl _ _⟩
  case round =>
    obtain ⟨j, hj, rfl, ho, hnil, hB⟩ := hrel
    have HO := Lib.hid ho; clear ho
    have HNIL := Lib.hid hnil; clear hnil
    have HB := Lib.hid hB; clear hB
    by_cases hlt : j < n
    · have hlt' : (j : Int) < (n : Int) := by omega
      have h0 : ls ≠ [] := by intro h; have := HN.out.1; rw [h] at this; simp at this; omega
      have HW := Lib.hid (HV.out.below HB.out)
      obtain ⟨b1', o1', c1', he1, _, _⟩ := HV.out.form h0
      simp only [Value.slice.injEq] at he1
      obtain ⟨rfl, h9, rfl⟩ := he1
      clear h9
      obtain ⟨u1, hc1, hu1⟩ := HW.out.cell (sp := none) (j := j) (by have := HN.out.1; omega)
      have hjl : j < ls.length := by have := HN.out.1; omega
      have hx9 : ls[j].length < 1000000 := HN.out.2 _ (List.getElem_mem hjl)
      have hstep : (ls.take (j + 1)).map lf = (ls.take j).map lf ++ [lf ls[j]] := by rw [List.take_succ_eq_append_getElem hjl, List.map_append]; rfl
      have HST := Lib.hid hstep
      have HU := Lib.hid (And.intro hu1 hx9)
      clear hu1 hstep hx9 h0
      generalize ls[j] = x at *
      have hj0 : (0 : Int) ≤ (j : Int) := by omega
      clear hjl
      have hml : ((ls.take j).map lf).length = j := by rw [List.length_map, List.length_take]; have := HN.out.1; omega
      have HML := Lib.hid hml; clear hml
      go_wp2_with fail
      refine (lf_any x u1 wr HU.out.1 (by have := HU.out.2; omega)).mono ?_
      rintro e2 w2 ⟨rfl, hb2⟩
      have HB2 := Lib.hid (HB.out.trans (hb2.mono HB.out.size))
      have HO2 := Lib.hid ((Keeps.of_below (X := fun _ => False) hb2).owns HO.out (fun _ _ h => h))
      generalize lf x = y at *
      clear hb2 HB HO HU HW
      generalize (ls.take j).map lf = acc at *
      have HB3 := Lib.hid (HB2.out.alloc HB2.out.size (.cells (cellsAll [y]).toArray 24))
      have HX3 : Hid ((w2.alloc (.cells (cellsAll [y]).toArray 24)).rangeAt w2.heap.size 0 (cellsAll [y])) := range_new w2 _ _ _ rfl
      go_wp2_with (first
        | (refine wpList_build_sums rfl 1 _ rfl [y] rfl (by omega) (by omega) rfl ?_)
        | (at_builtin; refine wpList_append_sums rfl _ _ rfl w.heap.size _ acc [y] j 1 HML.out rfl (by rfl) (HO2.out.alloc _) w2.heap.size 0 1 rfl HX3.out (by omega) (by omega) HB3.out.size ?_; intro g4 c4 w4 ho4 hg4 hat4 hlt4))
      have HB4 := Lib.hid (HB3.out.grown hg4 HB3.out.size (fun k hk => (HO2.out.lt k hk).1))
      exact ⟨⟨j + 1, by omega, by simp, by rw [HST.out]; exact ho4, by omega, HB4.out⟩, by simp [intOf]; omega⟩
    · have hjn : j = n := by omega
      subst hjn
      have htk : ls.take j = ls := List.take_of_length_le (by rw [HN.out.1]; exact Nat.le_refl _)
      have ho := HO.out
      rw [htk] at ho
      have hml : (ls.map lf).length = j := by rw [List.length_map, ← HN.out.1]
      rw [← hml] at ho
      have HSN := Lib.hid (own_new' ho (fun h => HNIL.out (by rw [← hml, h]; rfl)))
      clear htk ho hml HO
      go_wp2_with fail
      refine bodyPost_ret (results_tmp rfl _ _ _) rfl ?_
      exact ⟨_, rfl, HSN.out.sums, HB.out⟩
/-- A cell whose world only grew. -/
theorem ListsAt.slice {w : World} {v : Value} {ls : List (List UInt8)} (h : ListsAt w v ls) : ∃ a c, v = .slice a ls.length c ∧ ls.length ≤ c ∧ c ≤ maxLen := by
  obtain ⟨a, cap, hv, h1, h2, _⟩ := h
  exact ⟨a, cap, hv, h1, h2⟩
set_option maxRecDepth 100000 in
set_option maxHeartbeats 4000000 in
theorem clashesOwn_any (l : List (List UInt8)) (v : Value) (f g : Nat) (w : World) (hv : ListsAt w v l) (hf : f ≤ 255) (hg : g ≤ 255) (hn : l.length ≤ LIM) (hs : ∀ x ∈ l, x.length ≤ LIM) : Calls Try.prog 22 #[v, .int .u8 (f : Int), .int .u8 (g : Int)] w fun e w' => e = .returned (.bool true) ∧ Below w.heap.size w w' := by
  have HV := Lib.hid hv
  have hG := great_any l [] [] [] v (.slice none 0 0) 0 (.slice none 0 0) (.slice none 0 0) w hv ⟨none, 0, rfl, Nat.le_refl _, by decide, .inl rfl⟩ ⟨none, 0, rfl, Nat.le_refl _, by decide, .inl rfl⟩ ⟨none, 0, rfl, Nat.le_refl _, by decide, .inl rfl⟩ ⟨hn, hs⟩ ⟨by simp, by simp⟩ (by simp) (by simp)
  have HG := Lib.hid hG
  clear hG
  obtain ⟨al_, cl, rfl, c1, c2⟩ := hv.slice
  obtain ⟨n, hna⟩ : ∃ n, n = l.length := ⟨_, rfl⟩
  rw [← hna] at HV HG c1 hn ⊢
  have HN := Lib.hid hna; clear hna
  obtain ⟨r, hr⟩ : ∃ r, r = grB l [] [] [] := ⟨_, rfl⟩
  rw [← hr] at HG
  have HR := Lib.hid hr; clear hr
  cases r with
  | true =>
    go_enter Try.func22, Try.ntmps22
    go_wp2_with fail
    refine HG.out.mono ?_
    rintro e w1 ⟨rfl, hb⟩
    have HB := Lib.hid hb; clear hb
    go_wp2_with fail
    refine (alive_clashes w1).mono ?_
    rintro e w2 ⟨rfl, hb⟩
    have HF := Lib.hid (HB.out.trans (hb.mono HB.out.size)); clear hb
    go_wp2_with fail
    exact bodyPost_ret (results_tmp rfl _ _ _) rfl ⟨rfl, HF.out⟩
  | false =>
    have hsm : n ≤ 40 ∧ ∀ x ∈ l, x.length ≤ 20000 := by
      have h0 := HR.out
      unfold grB at h0
      have h1 : ¬ 40 < l.length := fun h => by rw [decide_eq_true h] at h0; simp at h0
      have h2 : ¬ 20000 < bsz l + bsz [] + ([] : List UInt8).length := fun h => by rw [decide_eq_true h] at h0; simp at h0
      have h3 := bsz_le 20000 (by omega) l (by omega)
      exact ⟨by have := HN.out; omega, h3.2⟩
    have HSM := Lib.hid hsm
    have n40 : (n : Int) ≤ 40 := by have := hsm.1; omega
    clear hsm hs hn
    by_cases hz : n = 0
    · have hz' : ((n : Int) == 0) = true := by rw [beq_iff_eq]; omega
      clear hz
      go_enter Try.func22, Try.ntmps22
      go_wp2_with fail
      refine HG.out.mono ?_
      rintro e w1 ⟨rfl, hb⟩
      have HB := Lib.hid hb; clear hb
      go_wp2_with fail
      refine (alive_clashes w1).mono ?_
      rintro e w2 ⟨rfl, hb⟩
      have HF := Lib.hid (HB.out.trans (hb.mono HB.out.size)); clear hb
      go_wp2_with fail
      exact bodyPost_ret (results_tmp rfl _ _ _) rfl ⟨rfl, HF.out⟩
    · have hz' : ((n : Int) == 0) = false := by rw [beq_eq_false_iff_ne]; omega
      have f0 : (0 : Int) ≤ (f : Int) := by omega
      have f1 : (f : Int) ≤ 255 := by omega
      have g0 : (0 : Int) ≤ (g : Int) := by omega
      have g1 : (g : Int) ≤ 255 := by omega
      obtain ⟨k, hk⟩ : ∃ k, k = f % n := ⟨_, rfl⟩
      have hkn : k < n := by rw [hk]; exact Nat.mod_lt _ (by omega)
      have hmod : (f : Int) % (n : Int) = (k : Int) := by rw [← Int.natCast_emod, hk]
      obtain ⟨m, hm⟩ : ∃ m, m = 1 + g % n := ⟨_, rfl⟩
      have hmn : m ≤ n := by have := Nat.mod_lt g (show 0 < n by omega); omega
      have hm1 : 1 ≤ m := by omega
      have hw1 : wrap64 (1 + (g : Int) % (n : Int)) = (m : Int) := by
        rw [← Int.natCast_emod, wrapT _ (by omega) (by have := Nat.mod_lt g (show 0 < n by omega); omega)]; omega
      have HW1 := Lib.hid hw1
      have HK := Lib.hid (And.intro hkn (And.intro hm1 hmn))
      have k0 : (0 : Int) ≤ (k : Int) := by omega
      have k1 : (k : Int) < (n : Int) := by omega
      have m0 : (0 : Int) ≤ (m : Int) := by omega
      have m1 : (m : Int) ≤ (cl : Int) := by omega
      have m2 : (m : Int) ≤ (n : Int) := by omega
      unfold maxLen at c2
      have h0 : l ≠ [] := by intro h; have := HN.out; rw [h] at this; simp at this; omega
      obtain ⟨bl, ol, c9, he1, _, _⟩ := HV.out.form h0
      simp only [Value.slice.injEq] at he1
      obtain ⟨rfl, h9, rfl⟩ := he1
      clear h9 h0
      have hkl : k < l.length := by have := HN.out; omega
      obtain ⟨u1, hc1, hu1⟩ := HV.out.cell (sp := none) hkl
      have HU := Lib.hid (And.intro hc1 (And.intro hu1 (And.intro hkl (List.getElem?_eq_getElem hkl))))
      generalize l[k] = x at *
      obtain ⟨ax, cx, rfl, _, _, hor⟩ := hu1
      clear hor hc1 hkl
      clear hk hm hkn hmn hm1 hf hg
      go_enter Try.func22, Try.ntmps22
      go_wp2_with fail
      refine HG.out.mono ?_
      rintro e w1 ⟨rfl, hb⟩
      have HB1 := Lib.hid hb; clear hb
      go_wp2_with fail
      rw [HW1.out, hmod]
      clear HW1 hmod
      have hsz : ∀ x ∈ l, x.length < 1000000 := fun x hx => by have := HSM.out.2 x hx; omega
      have HSZ := Lib.hid hsz; clear hsz
      have hll : l.length < 1000000 := by have := HN.out; have := HSM.out.1; omega
      have HLL := Lib.hid hll; clear hll
      refine (lsums_any l _ w1 (HV.out.below HB1.out) HLL.out HSZ.out).mono ?_
      rintro e w2 ⟨u, rfl, hu, hb⟩
      have HS2 := Lib.hid (And.intro hu (HB1.out.trans (hb.mono HB1.out.size)))
      clear hu hb HB1
      go_wp2_with fail
      refine (pathsOf_any (l.map lf) k u w2 HS2.out.1 (by rw [List.length_map]; exact HU.out.2.2.1) (by rw [List.length_map]; exact HLL.out)).mono ?_
      rintro e w3 ⟨p, rfl, hN, hb⟩
      obtain ⟨pa, pc, rfl, _, _, _⟩ := hN.sums
      have HS3 := Lib.hid (And.intro (HS2.out.1.below hb (Nat.le_refl _)) (HS2.out.2.trans (hb.mono HS2.out.2.size)))
      clear hN hb HS2
      generalize (path nd e0 (l.map lf) k).length = pn at *
      go_wp2_with fail
      refine (linksOf_any (l.map lf) m u w3 HS3.out.1 HK.out.2.1 (by rw [List.length_map]; have := HN.out; have := HK.out.2.2; omega) (by rw [List.length_map]; exact HLL.out)).mono ?_
      rintro e w4 ⟨q, rfl, hN, hb⟩
      obtain ⟨qa, qc, rfl, _, _, _⟩ := hN.sums
      have HB4 := Lib.hid (HS3.out.2.trans (hb.mono HS3.out.2.size))
      clear hN hb HS3
      generalize (link nd e0 (l.map lf) m true).length = qn at *
      have hc4 := bc HU.out.1 HB4.out
      go_wp2_with fail
      refine (path_same l k x _ _ _ w4 (HV.out.below HB4.out) HU.out.2.2.1 HU.out.2.2.2 (bytes_below HU.out.2.1 HB4.out (Nat.le_refl _)) HLL.out ⟨_, _, _, rfl⟩).mono ?_
      rintro e w5 ⟨rfl, hb⟩
      have HB5 := Lib.hid (HB4.out.trans (hb.mono HB4.out.size))
      clear hb HB4 hc4
      have HGG := Lib.hid trivial
      go_wp2_with (have _ := HGG; refine wpList_var_clash rfl _ _ rfl rfl rfl ?_; intro W6 hb1; have HB6 := Lib.hid (HB5.out.trans (hb1.mono HB5.out.size)); clear HGG hb1)
      have htk := (HV.out.below HB6.out).take m (by have := HN.out; have := HK.out.2.2; omega)
      have htl : (l.take m).length = m := by rw [List.length_take]; have := HN.out; have := HK.out.2.2; omega
      refine (link_same (l.take m) l _ _ _ W6 htk (HV.out.below HB6.out) (by rw [htl]; exact HK.out.2.1) (by rw [htl]; have := HN.out; have := HK.out.2.2; omega) (by rw [htl]) HLL.out ⟨_, _, _, rfl⟩).mono ?_
      rintro e w7 ⟨rfl, hb⟩
      have HB7 := Lib.hid (HB6.out.trans (hb.mono HB6.out.size))
      clear hb htk htl HB5 HB6
      have HGG := Lib.hid trivial
      go_wp2_with (have _ := HGG; refine wpList_var_clash rfl _ _ rfl rfl rfl ?_; intro W8 hb1; have HB8 := Lib.hid (HB7.out.trans (hb1.mono HB7.out.size)); clear HGG hb1)
      refine (lists_same l _ _ W8 (HV.out.below HB8.out) (HV.out.below HB8.out) HLL.out).mono ?_
      rintro e w9 ⟨rfl, hb⟩
      have HB9 := Lib.hid (HB8.out.trans (hb.mono HB8.out.size))
      clear hb HB7 HB8
      have HGG := Lib.hid trivial
      go_wp2_with (have _ := HGG; refine wpList_var_clash rfl _ _ rfl rfl rfl ?_; intro W10 hb1; have HB10 := Lib.hid (HB9.out.trans (hb1.mono HB9.out.size)); clear HGG hb1)
      refine (alive_clashes W10).mono ?_
      rintro e w11 ⟨rfl, hb⟩
      have HB11 := Lib.hid (HB10.out.trans (hb.mono HB10.out.size))
      clear hb HB9 HB10
      go_wp2_with fail
      exact bodyPost_ret (results_tmp rfl _ _ _) rfl ⟨rfl, HB11.out⟩
end Go.Proofs.Ytdkcndgehgmadaa
