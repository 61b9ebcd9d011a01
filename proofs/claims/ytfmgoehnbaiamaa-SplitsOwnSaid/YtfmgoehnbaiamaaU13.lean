/-
  Walk: a map of pairs (law 15's of).
-/
import Derived.Test.YtfmgoehnbaiamaaU12
open Go Go.RowKit Alm
namespace Go.Proofs.Ytfmgoehnbaiamaa
/-- What stands after the pairs P were put. -/
def puts (x P : List Keys.Pr) : List Keys.Pr := P.foldl (fun x q => Keys.putB x q.1 q.2) x
theorem puts_take (x P : List Keys.Pr) {i : Nat} {k : Sum} {bs : List UInt8} (h : P[i]? = some (k, bs)) : puts x (P.take (i + 1)) = Keys.putB (puts x (P.take i)) k bs := by
  have hi := (List.getElem?_eq_some_iff.1 h).1
  have e := (List.getElem?_eq_some_iff.1 h).2
  unfold puts
  rw [List.take_succ_eq_append_getElem hi, List.foldl_append, e]
  rfl
theorem length_putB (x : List Keys.Pr) (k : Sum) (bs : List UInt8) : (Keys.putB x k bs).length ≤ x.length + 1 := by
  unfold Keys.putB
  split
  · omega
  · split
    · have := Keys.length_del k x; omega
    · exact Keys.length_put k bs x
theorem length_puts (P : List Keys.Pr) : ∀ x, (puts x P).length ≤ x.length + P.length := by
  induction P with
  | nil => intro x; exact Nat.le_refl _
  | cons q P ih =>
    intro x
    have h1 := ih (Keys.putB x q.1 q.2)
    have h2 := length_putB x q.1 q.2
    show (puts (Keys.putB x q.1 q.2) P).length ≤ _
    simp only [List.length_cons]
    omega
/-- Pairs stay where only the blocks b and those behind R were written, and b holds no cells. -/
theorem on_keeps {w W : World} {b : Nat} (h : Keeps (fun i => i = b) w W) {X : Nat → Prop} (hx : ∀ i, i = b → X i) : Keeps X w W := h.mono hx
set_option maxRecDepth 100000 in
set_option maxHeartbeats 1000000 in
theorem mof_any (P : List Keys.Pr) (v : Value) (w : World) (hv : PairsAt w v P) (hn : P.length < 100000) : Calls Try.prog 21 #[v] w fun e w' => ∃ p b l, e = .returned (.pointer (some ⟨p, 0, none⟩)) ∧ MapIn w' p b P.length l ∧ prs l = puts [] P ∧ w.heap.size ≤ p ∧ w.heap.size ≤ b ∧ p ≠ b ∧ Below w.heap.size w w' := by
  have HV := Lib.hid hv
  obtain ⟨a, cap, rfl, h1, h2⟩ := pairs_form hv
  obtain ⟨N, hN⟩ : ∃ N, N = P.length := ⟨_, rfl⟩
  rw [← hN] at HV h1 hn ⊢
  have HN := Lib.hid (And.intro hN hn)
  clear hv hN h2
  have k1 : (N : Int) ≤ (cap : Int) := by omega
  go_enter Try.func21, Try.ntmps21
  go_wp2_with fail
  refine (mnew_any w).mono ?_
  rintro e w1 ⟨rfl, hm1, hb1⟩
  obtain ⟨p, hp⟩ : ∃ p, p = w.heap.size + 1 := ⟨_, rfl⟩
  obtain ⟨b, hb⟩ : ∃ b, b = w.heap.size := ⟨_, rfl⟩
  rw [← hp, ← hb] at hm1
  rw [← hp]
  have HP := Lib.hid (And.intro hp hb)
  have H1 := Lib.hid (And.intro hm1 hb1)
  clear hm1 hb1 hp hb
  go_wp2_with fail
  go_loopw [4] (fun iv W => ∃ (j : Nat) (l : List Ent), j ≤ N ∧ iv = .int .i64 (j : Int) ∧ MapIn W p b j l ∧ prs l = puts [] (P.take j) ∧ Below w.heap.size w W) (fun iv _ => N - (intOf iv).toNat)
  case atStart => exact ⟨0, [], by omega, rfl, H1.out.1, rfl, H1.out.2⟩
  case round =>
    clear H1
    obtain ⟨j, l, hj, rfl, hM, hL, hB⟩ := hrel
    have HB := Lib.hid (And.intro hM (And.intro hL hB))
    clear hM hL hB
    by_cases hlt : j < N
    · have c1 : decide (j < N) = true := by simpa using hlt
      have c1' : decide ((j : Int) < (N : Int)) = true := by simp; omega
      have hj0 : (0 : Int) ≤ (j : Int) := by omega
      have hlt' : (j : Int) < (N : Int) := by omega
      obtain ⟨ba, oa, ca', y, xs, he1, hr1, hy1, hg1⟩ := pairs_one (HV.out.below HB.out.2.2.drew) (i := j) (by rw [← HN.out.1]; exact hlt)
      simp only [Value.slice.injEq] at he1
      obtain ⟨rfl, -, rfl⟩ := he1
      have HX := Lib.hid (And.intro hr1 hy1)
      have HG := Lib.hid hg1
      have HJ := Lib.hid (And.intro hj hlt)
      clear hr1 hy1 hg1
      go_wp2_with fail
      have hcell : wr.drew.cell? ⟨ba, oa + j * 33 + 32, none⟩ = some (peV y) := by
        have := HX.out.1 32 (peV y) (by rw [encP, List.getElem?_append_right (by rw [length_cellsOf]; omega), length_cellsOf]; rfl)
        exact this
      have HC := Lib.hid (And.intro (encP_key HX.out.1) hcell)
      clear hcell
      refine wp_region_sched (fun W => W.rangeAt ba (oa + j * 33) (cellsOf y.1) ∧ W.cell? ⟨ba, oa + j * 33 + 32, none⟩ = some (peV y)) [.t 0, .t 1, .t 2, .t 3, .t 4, .t 6, .t 7, .t 8, .t 9, .s 5, .e 10 true, .e 11 false] (by kernel_rfl) (by kernel_rfl) (by intro c a d v w h; cases d <;> exact h) ?_
      have HBD := Lib.hid (And.intro (HB.out.1.below (Below.refl wr.heap.size wr).drew) (And.intro HB.out.2.1 HB.out.2.2.drew))
      clear HB
      generalize wr.drew = V at *
      iterate 9
        refine wpS_t rfl (v := ?_) (by rfl) (fun W => ?_) ?_
        rotate_left
        · go_simp
          try rfl
        try simp only [Act.put, List.setIfInBounds_toArray, List.set_cons_zero, List.set_cons_succ]
      refine wpS_load_sum (by exact HC.out) rfl (by rfl) _ (by rfl) ba (oa + j * 33) (by rfl) y.1 (fun V hV => hV.1) ?_
      try simp only [Act.put, List.setIfInBounds_toArray, List.set_cons_zero, List.set_cons_succ]
      refine wpS_k rfl (by rfl) (fun K hK => ?_)
      have g := HC.out.2
      go_simp
      refine hK _ _ ⟨by exact HC.out, ?_⟩; clear hK K
      try simp only [Act.put, List.setIfInBounds_toArray, List.set_cons_zero, List.set_cons_succ]
      clear g
      refine wpS_e rfl (by rfl) (fun K hK => ?_)
      go_simp
      refine (mput_any y.1 xs (peV y) V p b j l HBD.out.1 (by have := HN.out.2; omega) HX.out.2).mono ?_
      rintro e V2 ⟨rfl, l2, hm2, hp2, hk2⟩
      have hbelow : Below w.heap.size w V2 := HBD.out.2.2.trans (hk2.below (B := w.heap.size) HBD.out.2.2.size (fun k hk => by have := HP.out.2; omega))
      have H2 := Lib.hid (And.intro hm2 (And.intro (show prs l2 = puts [] (P.take (j + 1)) by rw [puts_take [] P HG.out, hp2, HBD.out.2.1]) hbelow))
      clear hm2 hp2 hk2 hbelow
      refine hK _ _ ?_; clear hK K
      try simp only [Act.put, List.setIfInBounds_toArray, List.set_cons_zero, List.set_cons_succ]
      refine wpS_done ?_
      go_wp2_with fail
      exact ⟨⟨j + 1, l2, by omega, by simp, H2.out.1, H2.out.2.1, H2.out.2.2⟩, by simp [intOf]; omega⟩
    · have hjn : j = N := by omega
      subst hjn
      go_wp2_with fail
      refine bodyPost_ret (results_tmp rfl _ _ _) rfl ⟨p, b, l, rfl, HB.out.1, ?_, by have := HP.out.1; omega, by have := HP.out.2; omega, by have := HP.out; omega, HB.out.2.2⟩
      rw [HB.out.2.1, List.take_of_length_le (by rw [← HN.out.1]; exact Nat.le_refl _)]
end Go.Proofs.Ytfmgoehnbaiamaa
