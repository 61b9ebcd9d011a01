/-
  Merged: D21.
-/
import Derived.Test.YtfmgoehnbaiamaaZD6
-- Walk: SplitsMaps.
open Go Go.RowKit Alm
namespace Go.Proofs.Ytfmgoehnbaiamaa
theorem sums_nil (w : World) : SumsAt w (.slice none 0 0) [] := ⟨none, 0, rfl, by simp, by unfold maxLen; omega, .inl rfl⟩
theorem bytes_nil (w : World) : BytesAt w (.slice none 0 0) [] := ⟨none, 0, rfl, by simp, by unfold maxLen; omega, .inl rfl⟩
theorem may_full {l : List Ent} {W : World} {p b n : Nat} (h : MapIn W p b n l) : May (prs l) := ⟨prs_rise h.rise, fun q hq => (vals_full h q hq).1⟩
theorem small_full {l : List Ent} {W : World} {p b n : Nat} (h : MapIn W p b n l) : Small (prs l) := fun q hq => by have := (vals_full h q hq).2; omega
theorem wpList_load_clash_g {ops : Array Oper} {rest : List Oper} {op : Oper} {a : Act} {w : World} {Q : Exit → Act → World → Prop} (hw : Region.wanted op (yielded ops a.tmps) = true) (x : Operand) (ho : op.op = .load 74 x)
    (b : Nat) (hx : a.eval x = .pointer (some ⟨b, 0, none⟩)) (va vb : Value) (hc : w.rangeAt b 0 [va, vb]) (h : wpList Try.prog ops Q rest (a.put op.dst (.agg #[va, vb])) w) : wpList Try.prog ops Q (op :: rest) a w :=
  wpList_want hw fun _K hK => wp_load_mid _ x ho b 0 hx [va, vb] _ hc Try.underlying74 rfl infoClash (hK _ _ h)
/-- What was told, kept. -/
structure CK (W : World) (zc : Nat) (va vb : Value) (o : Option (List UInt8 × List UInt8)) (t : Bool) : Prop where
  r : W.rangeAt zc 0 [va, vb]
  told : (t = false ∧ o = none) ∨ (t = true ∧ ∃ x y, o = some (x, y) ∧ BytesAt W va x ∧ BytesAt W vb y)
theorem CK.below {W W' : World} {zc : Nat} {va vb : Value} {o : Option (List UInt8 × List UInt8)} {t : Bool} (h : CK W zc va vb o t) (hb : Below W.heap.size W W') : CK W' zc va vb o t := by
  refine ⟨(Keeps.of_below (X := fun _ => False) hb).range h.r (fun h => h), ?_⟩
  rcases h.told with h | ⟨h1, x, y, h2, h3, h4⟩
  · exact .inl h
  · exact .inr ⟨h1, x, y, h2, bytes_below h3 hb (Nat.le_refl _), bytes_below h4 hb (Nat.le_refl _)⟩
theorem CK.some {W : World} {zc : Nat} {va vb : Value} {o : Option (List UInt8 × List UInt8)} {t : Bool} (h : CK W zc va vb o t) : o.isSome = t := by
  rcases h.told with ⟨h1, h2⟩ | ⟨h1, x, y, h2, _⟩
  · rw [h1, h2]; rfl
  · rw [h1, h2]; rfl
theorem is_ck {W : World} {zc : Nat} {va vb : Value} {o : Option (List UInt8 × List UInt8)} (h : CK W zc va vb o true) (hf : Fine o) : Calls Try.prog 45 #[.agg #[va, vb]] W fun e w' => e = .returned (.bool true) ∧ Below W.heap.size W w' := by
  rcases h.told with ⟨h1, _⟩ | ⟨_, x, y, h2, h3, h4⟩
  · cases h1
  · have := hf x y h2
    exact is17_any x y va vb W h3 h4 this.1 this.2.1 this.2.2
/-- What a teller answers, as it is kept. -/
theorem ap_form {W : World} {o : Option (List UInt8 × List UInt8)} {e : Ending} (h : AP W o e) : ∃ va vb t, e = .returned (.tuple #[.agg #[va, vb], .bool t]) ∧ va.oneCell' = true ∧ vb.oneCell' = true ∧ ((t = false ∧ o = none) ∨ (t = true ∧ ∃ x y, o = some (x, y) ∧ BytesAt W va x ∧ BytesAt W vb y)) := by
  cases o with
  | none => exact ⟨_, _, _, h, rfl, rfl, .inl ⟨rfl, rfl⟩⟩
  | some q =>
    obtain ⟨x, y⟩ := q
    obtain ⟨va, vb, he, h1, h2⟩ := h
    refine ⟨va, vb, _, he, ?_, ?_, .inr ⟨rfl, x, y, rfl, h1, h2⟩⟩
    · obtain ⟨a, n, c, rfl⟩ := bytes_form h1; rfl
    · obtain ⟨a, n, c, rfl⟩ := bytes_form h2; rfl
theorem ck_of {W W' : World} {zc : Nat} {va vb : Value} {o : Option (List UInt8 × List UInt8)} {t : Bool} (h : (t = false ∧ o = none) ∨ (t = true ∧ ∃ x y, o = some (x, y) ∧ BytesAt W va x ∧ BytesAt W vb y)) (hb : Below W.heap.size W W') (hr : W'.rangeAt zc 0 [va, vb]) : CK W' zc va vb o t := by
  refine ⟨hr, ?_⟩
  rcases h with h | ⟨h1, x, y, h2, h3, h4⟩
  · exact .inl h
  · exact .inr ⟨h1, x, y, h2, bytes_below h3 hb (Nat.le_refl _), bytes_below h4 hb (Nat.le_refl _)⟩
theorem zero17v : Value.agg Try.zeroCells72 = said17 zeroSum (.slice none 0 0) (.slice none 0 0) zeroSum (.slice none 0 0) zeroSum (.slice none 0 0) := by kernel_rfl
/-- Two maps and their pairs in hand. -/
structure M2 (w W : World) (p b n : Nat) (l : List Ent) (v : Value) (p' b' n' : Nat) (l' : List Ent) (v' : Value) : Prop where
  bw : Below w.heap.size w W
  m1 : MapIn W p b n l
  a1 : PairsAt W v (prs l)
  m2 : MapIn W p' b' n' l'
  a2 : PairsAt W v' (prs l')
theorem M2.below {w W W' : World} {p b n : Nat} {l : List Ent} {v : Value} {p' b' n' : Nat} {l' : List Ent} {v' : Value} (h : M2 w W p b n l v p' b' n' l' v') (hb : Below W.heap.size W W') : M2 w W' p b n l v p' b' n' l' v' :=
  ⟨h.bw.trans (hb.mono h.bw.size), h.m1.below hb, h.a1.below hb, h.m2.below hb, h.a2.below hb⟩
set_option maxRecDepth 100000 in
set_option maxHeartbeats 4000000 in
theorem splitsMaps_any (A B : List Keys.Pr) (va vb : Value) (w : World) (ha : PairsAt w va A) (hb : PairsAt w vb B) : Calls Try.prog 15 #[va, vb] w fun e w' => e = .returned (.bool true) ∧ Below w.heap.size w w' := by
  obtain ⟨aa, ca, rfl, _, _⟩ := pairs_form ha
  obtain ⟨ab, cb, rfl, _, _⟩ := pairs_form hb
  have HV := Lib.hid (And.intro ha hb)
  clear ha hb
  obtain ⟨NA, hNA⟩ : ∃ N, N = A.length := ⟨_, rfl⟩
  obtain ⟨NB, hNB⟩ : ∃ N, N = B.length := ⟨_, rfl⟩
  rw [← hNA, ← hNB] at HV
  rw [← hNA, ← hNB]
  have HN := Lib.hid (And.intro hNA hNB)
  clear hNA hNB
  go_enter Try.func15, Try.ntmps15
  go_wp2_with fail
  rw [zero17v]
  refine (great17_any A _ _ _ _ _ _ _ _ [] [] [] [] w HV.out.1 (bytes_nil w) (bytes_nil w) (sums_nil w) (sums_nil w) (by simp) (by simp) (by simp) (by simp)).mono ?_
  rintro e W1 ⟨r, rfl, hr, hb⟩
  have H1 := Lib.hid (And.intro hb (And.intro (HV.out.1.below hb) (HV.out.2.below hb)))
  clear hb HV
  cases r with
  | true =>
    clear hr
    go_wp2_with fail
    refine (alive17_any _).mono ?_
    rintro e W9 ⟨rfl, hb9⟩
    have HB9 := Lib.hid (H1.out.1.trans (hb9.mono H1.out.1.size))
    clear hb9
    go_wp2_with fail
    exact bodyPost_ret (results_tmp rfl _ _ _) rfl ⟨rfl, HB9.out⟩
  | false =>
    have HA := Lib.hid (hr rfl).1
    clear hr
    go_wp2_with fail
    rw [zero17v]
    refine (great17_any B _ _ _ _ _ _ _ _ [] [] [] [] W1 H1.out.2.2 (bytes_nil W1) (bytes_nil W1) (sums_nil W1) (sums_nil W1) (by simp) (by simp) (by simp) (by simp)).mono ?_
    rintro e W2 ⟨r, rfl, hr, hb⟩
    have H2 := Lib.hid (And.intro (H1.out.1.trans (hb.mono H1.out.1.size)) (And.intro (H1.out.2.1.below hb) (H1.out.2.2.below hb)))
    clear hb H1
    cases r with
    | true =>
      clear hr
      go_wp2_with fail
      refine (alive17_any _).mono ?_
      rintro e W9 ⟨rfl, hb9⟩
      have HB9 := Lib.hid (H2.out.1.trans (hb9.mono H2.out.1.size))
      clear hb9
      go_wp2_with fail
      exact bodyPost_ret (results_tmp rfl _ _ _) rfl ⟨rfl, HB9.out⟩
    | false =>
      have HB := Lib.hid (hr rfl).1
      clear hr
      go_wp2_with fail
      refine (of17_any A _ W2 H2.out.2.1 (by have := HA.out; omega)).mono ?_
      rintro e W3 ⟨p, b, l, x, rfl, hm, hp, hx, _, _, _, hb⟩
      have hl := puts_few hp (by have := HA.out; omega)
      rw [← HN.out.1] at hm
      have H3 := Lib.hid (And.intro (H2.out.1.trans (hb.mono H2.out.1.size)) (And.intro (H2.out.2.2.below hb) (And.intro hm (And.intro hx hl))))
      clear hb H2 hm hp hx hl
      go_wp2_with fail
      refine (of17_any B _ W3 H3.out.2.1 (by have := HB.out; omega)).mono ?_
      rintro e W4 ⟨p', b', l', x', rfl, hm, hp, hx, _, _, _, hb⟩
      have hl := puts_few hp (by have := HB.out; omega)
      rw [← HN.out.2] at hm
      have H4 := Lib.hid (show M2 w W4 p b NA l x p' b' NB l' x' from ⟨H3.out.1.trans (hb.mono H3.out.1.size), H3.out.2.2.1.below hb, H3.out.2.2.2.1.below hb, hm, hx⟩)
      have HL := Lib.hid (And.intro H3.out.2.2.2.2 hl)
      clear hb H3 hm hp hx hl
      obtain ⟨ax, nx, cx, rfl⟩ : ∃ a n c, x = .slice a n c := by
        obtain ⟨a, c, h, _⟩ := pairs_form H4.out.a1
        exact ⟨a, _, c, h⟩
      obtain ⟨ax', nx', cx', rfl⟩ : ∃ a n c, x' = .slice a n c := by
        obtain ⟨a, c, h, _⟩ := pairs_form H4.out.a2
        exact ⟨a, _, c, h⟩
      go_wp2_with fail
      have hlp : ∀ l : List Ent, (prs l).length = l.length := fun l => by simp [prs]
      refine (smaps_any (prs l) (prs l') _ _ W4 H4.out.a1 H4.out.a2 (by rw [hlp]; have := HL.out.1; omega) (by rw [hlp]; have := HL.out.2; omega) (small_full H4.out.m1) (small_full H4.out.m2)).mono ?_
      clear hlp
      rintro e W5 ⟨hA, hb⟩
      have H5 := Lib.hid (H4.out.below hb)
      have ht := maps_told (may_full H4.out.m1) (may_full H4.out.m2)
      have hf : Fine (mapsClash (prs l) (prs l')) := maps_fine (fun k => Nat.le_trans (get_len (vals_full H4.out.m1) k) (by decide)) (fun k => Nat.le_trans (get_len (vals_full H4.out.m2) k) (by decide))
      clear hb H4
      generalize mapsClash (prs l) (prs l') = o at *
      obtain ⟨R1, hR1⟩ : ∃ r, r = rootOf (prs l) := ⟨_, rfl⟩
      obtain ⟨R2, hR2⟩ : ∃ r, r = rootOf (prs l') := ⟨_, rfl⟩
      rw [← hR1, ← hR2] at ht
      have HR := Lib.hid (And.intro hR1 hR2)
      have HT := Lib.hid ht
      have HF := Lib.hid hf
      clear hR1 hR2 ht hf
      obtain ⟨va, vb, t, rfl, h1, h2, h3⟩ := ap_form hA
      have H1C := Lib.hid (And.intro h1 (And.intro h2 h3))
      clear hA h1 h2 h3
      have HG := Lib.hid trivial
      go_wp2_with (have _ := HG; refine wpList_var_clash (by rfl) _ _ rfl va vb H1C.out.1 H1C.out.2.1 (by rfl) (by rfl) ?_; intro W6 hb hr; obtain ⟨zc, hzc⟩ : ∃ z, z = W5.heap.size := ⟨_, rfl⟩; rw [← hzc] at hr ⊢; have H6 := Lib.hid (And.intro (H5.out.below hb) (ck_of H1C.out.2.2 hb hr)); clear HG hb hr hzc H5)
      have hlp : ∀ l : List Ent, (prs l).length = l.length := fun l => by simp [prs]
      have hc := mroot_any W6 p b NA l H6.out.1.m1 (by have := HL.out.1; omega)
      rw [← HR.out.1] at hc
      refine hc.mono ?_
      clear hc
      rintro e W7 ⟨rfl, hb⟩
      have H7 := Lib.hid (And.intro (H6.out.1.below hb) (H6.out.2.below hb))
      clear hb H6 hlp
      go_wp2_with fail
      have hc := mroot_any W7 p' b' NB l' H7.out.1.m2 (by have := HL.out.2; omega)
      rw [← HR.out.2] at hc
      refine hc.mono ?_
      clear hc
      rintro e W8 ⟨rfl, hb⟩
      have H8 := Lib.hid (And.intro (H7.out.1.below hb) (H7.out.2.below hb))
      clear hb H7
      have heq := eq_sums R1 R2
      by_cases hr : R1 = R2
      · rw [decide_eq_true hr] at heq
        have ht : t = decide (prs l ≠ prs l') := by
          rw [← H8.out.2.some, HT.out]
          simp [hr]
        have HTE := Lib.hid ht
        clear hr ht
        go_wp2_with fail
        refine (same_pairs (prs l) (prs l') _ _ W8 H8.out.1.a1 H8.out.1.a2).mono ?_
        rintro e W9 ⟨rfl, hb⟩
        have H9 := Lib.hid (And.intro (H8.out.1.below hb) (H8.out.2.below hb))
        clear hb H8 heq
        obtain ⟨d, hd⟩ : ∃ d, d = decide (prs l = prs l') := ⟨_, rfl⟩
        rw [← hd]
        have htd : (!d) = t := by rw [HTE.out, hd]; simp
        clear hd
        subst htd
        cases d with
        | true =>
          go_wp2_with fail
          refine (alive17_any _).mono ?_
          rintro e W10 ⟨rfl, hb⟩
          have HB10 := Lib.hid (H9.out.1.bw.trans (hb.mono H9.out.1.bw.size))
          clear hb
          go_wp2_with fail
          exact bodyPost_ret (results_tmp rfl _ _ _) rfl ⟨rfl, HB10.out⟩
        | false =>
          go_wp2_with fail
          refine (alive17_any _).mono ?_
          rintro e W10 ⟨rfl, hb⟩
          have H10 := Lib.hid (And.intro (H9.out.1.below hb) (H9.out.2.below hb))
          clear hb H9
          go_wp2_with (refine wpList_load_clash_g (by rfl) _ rfl zc rfl va vb H10.out.2.r ?_)
          refine (is_ck (zc := zc) H10.out.2 HF.out).mono ?_
          rintro e W11 ⟨rfl, hb⟩
          have H11 := Lib.hid (H10.out.1.bw.trans (hb.mono H10.out.1.bw.size))
          clear hb H10
          go_wp2_with fail
          exact bodyPost_ret (results_tmp rfl _ _ _) rfl ⟨rfl, H11.out⟩
      · rw [decide_eq_false hr] at heq
        have ht : t = false := by
          rw [← H8.out.2.some, HT.out]
          simp [hr]
        subst ht
        have H9 := H8
        clear hr H8
        go_wp2_with fail
        refine (alive17_any _).mono ?_
        rintro e W10 ⟨rfl, hb⟩
        have HB10 := Lib.hid (H9.out.1.bw.trans (hb.mono H9.out.1.bw.size))
        clear hb
        go_wp2_with fail
        exact bodyPost_ret (results_tmp rfl _ _ _) rfl ⟨rfl, HB10.out⟩
end Go.Proofs.Ytfmgoehnbaiamaa
