/-
  Merged: D21a, D22a, D23a.
-/
import Derived.Test.YtfmgoehnbaiamaaZD6
-- What the Splits laws have in common.
open Go Go.RowKit Alm
namespace Go.Proofs.Ytfmgoehnbaiamaa
theorem sums_nil (w : World) : SumsAt w (.slice none 0 0) [] := ⟨none, 0, rfl, by simp, by unfold maxLen; omega, .inl rfl⟩
theorem bytes_nil (w : World) : BytesAt w (.slice none 0 0) [] := ⟨none, 0, rfl, by simp, by unfold maxLen; omega, .inl rfl⟩
theorem may_full {l : List Ent} {W : World} {p b n : Nat} (h : MapIn W p b n l) : May (prs l) := ⟨prs_rise h.rise, fun q hq => (vals_full h q hq).1⟩
theorem small_full {l : List Ent} {W : World} {p b n : Nat} (h : MapIn W p b n l) : Small (prs l) := fun q hq => by have := (vals_full h q hq).2; omega
theorem wpList_load_clash_g {ops : Array Oper} {rest : List Oper} {op : Oper} {a : Act} {w : World} {Q : Exit → Act → World → Prop} (hw : Region.wanted op (yielded ops a.tmps) = true) (x : Operand) (ho : op.op = .load 74 x)
    (b : Nat) (hx : a.eval x = .pointer (some ⟨b, 0, none⟩)) (va vb : Value) (hc : w.rangeAt b 0 [va, vb]) (h : wpList Try.prog ops Q rest (a.put op.dst (.agg #[va, vb])) w) : wpList Try.prog ops Q (op :: rest) a w :=
  wpList_want hw fun K hK => wp_load_mid _ x ho b 0 hx [va, vb] _ hc Try.underlying74 rfl infoClash (hK _ _ h)
/-- What was told, kept. -/
structure CK (W : World) (zc : Nat) (va vb : Value) (o : Option (List UInt8 × List UInt8)) (t : Bool) : Prop where
  r : W.rangeAt zc 0 [va, vb]
  told : (t = false ∧ o = none) ∨ (t = true ∧ ∃ x y, o = some (x, y) ∧ BytesAt W va x ∧ BytesAt W vb y)
theorem CK.below {W W' : World} {zc : Nat} {va vb : Value} {o : Option (List UInt8 × List UInt8)} {t : Bool} (h : CK W zc va vb o t) (hb : Below W.heap.size W W') : CK W' zc va vb o t := by
  refine ⟨(Keeps.of_below (X := fun _ => False) hb).range h.r (fun h => h), ?_⟩
  rcases h.told with h | ⟨h1, x, y, h2, h3, h4⟩
  · exact .inl h
  · exact .inr ⟨h1, x, y, h2, bytes_below h3 hb (Nat.le_refl _), bytes_below h4 hb (Nat.le_refl _)⟩
theorem CK.some {W : World} {zc : Nat} {va vb : Value} {o : Option (List UInt8 × List UInt8)} {t : Bool} (h : CK W zc va vb o t) : o.isSome = t := by
  rcases h.told with ⟨h1, h2⟩ | ⟨h1, x, y, h2, _⟩
  · rw [h1, h2]; rfl
  · rw [h1, h2]; rfl
theorem is_ck {W : World} {zc : Nat} {va vb : Value} {o : Option (List UInt8 × List UInt8)} (h : CK W zc va vb o true) (hf : Fine o) : Calls Try.prog 45 #[.agg #[va, vb]] W fun e w' => e = .returned (.bool true) ∧ Below W.heap.size W w' := by
  rcases h.told with ⟨h1, _⟩ | ⟨_, x, y, h2, h3, h4⟩
  · cases h1
  · have := hf x y h2
    exact is17_any x y va vb W h3 h4 this.1 this.2.1 this.2.2
/-- What a teller answers, as it is kept. -/
theorem ap_form {W : World} {o : Option (List UInt8 × List UInt8)} {e : Ending} (h : AP W o e) : ∃ va vb t, e = .returned (.tuple #[.agg #[va, vb], .bool t]) ∧ va.oneCell' = true ∧ vb.oneCell' = true ∧ ((t = false ∧ o = none) ∨ (t = true ∧ ∃ x y, o = some (x, y) ∧ BytesAt W va x ∧ BytesAt W vb y)) := by
  cases o with
  | none => exact ⟨_, _, _, h, rfl, rfl, .inl ⟨rfl, rfl⟩⟩
  | some q =>
    obtain ⟨x, y⟩ := q
    obtain ⟨va, vb, he, h1, h2⟩ := h
    refine ⟨va, vb, _, he, ?_, ?_, .inr ⟨rfl, x, y, rfl, h1, h2⟩⟩
    · obtain ⟨a, n, c, rfl⟩ := bytes_form h1; rfl
    · obtain ⟨a, n, c, rfl⟩ := bytes_form h2; rfl
theorem ck_of {W W' : World} {zc : Nat} {va vb : Value} {o : Option (List UInt8 × List UInt8)} {t : Bool} (h : (t = false ∧ o = none) ∨ (t = true ∧ ∃ x y, o = some (x, y) ∧ BytesAt W va x ∧ BytesAt W vb y)) (hb : Below W.heap.size W W') (hr : W'.rangeAt zc 0 [va, vb]) : CK W' zc va vb o t := by
  refine ⟨hr, ?_⟩
  rcases h with h | ⟨h1, x, y, h2, h3, h4⟩
  · exact .inl h
  · exact .inr ⟨h1, x, y, h2, bytes_below h3 hb (Nat.le_refl _), bytes_below h4 hb (Nat.le_refl _)⟩
theorem zero17v : Value.agg Try.zeroCells72 = said17 zeroSum (.slice none 0 0) (.slice none 0 0) zeroSum (.slice none 0 0) zeroSum (.slice none 0 0) := by kernel_rfl
/-- Two maps and their pairs in hand. -/
structure M2 (w W : World) (p b n : Nat) (l : List Ent) (v : Value) (p' b' n' : Nat) (l' : List Ent) (v' : Value) : Prop where
  bw : Below w.heap.size w W
  m1 : MapIn W p b n l
  a1 : PairsAt W v (prs l)
  m2 : MapIn W p' b' n' l'
  a2 : PairsAt W v' (prs l')
theorem M2.below {w W W' : World} {p b n : Nat} {l : List Ent} {v : Value} {p' b' n' : Nat} {l' : List Ent} {v' : Value} (h : M2 w W p b n l v p' b' n' l' v') (hb : Below W.heap.size W W') : M2 w W' p b n l v p' b' n' l' v' :=
  ⟨h.bw.trans (hb.mono h.bw.size), h.m1.below hb, h.a1.below hb, h.m2.below hb, h.a2.below hb⟩
end Go.Proofs.Ytfmgoehnbaiamaa
-- What is said, in hand.
namespace Go.Proofs.Ytfmgoehnbaiamaa
theorem infoSaid17 : (Try.prog.info? 72).map (·.size) = some 100 := by kernel_rfl
theorem length_cells17 (k : Sum) (v1 v2 : Value) (w1 : Sum) (s1 : Value) (w2 : Sum) (s2 : Value) : (cells17 k v1 v2 w1 s1 w2 s2).length = 100 := by
  unfold cells17
  simp [length_cellsOf, length_cellsShow]
theorem wpList_load_said17 {ops : Array Oper} {rest : List Oper} {op : Oper} {a : Act} {w : World} {Q : Exit → Act → World → Prop} (hgd : op.guard = none) (x : Operand) (ho : op.op = .load 72 x)
    (b : Nat) (hx : a.eval x = .pointer (some ⟨b, 0, none⟩)) (k : Sum) (v1 v2 : Value) (w1 : Sum) (s1 : Value) (w2 : Sum) (s2 : Value) (hc : w.rangeAt b 0 (cells17 k v1 v2 w1 s1 w2 s2))
    (h : wpList Try.prog ops Q rest (a.put op.dst (said17 k v1 v2 w1 s1 w2 s2)) w) : wpList Try.prog ops Q (op :: rest) a w :=
  wpList_load_mid hgd _ x ho b 0 hx (cells17 k v1 v2 w1 s1 w2 s2) _ hc Try.underlying72 rfl (by rw [length_cells17]; exact infoSaid17) h
/-- What is said, in hand. -/
structure SW (w W : World) (z : Nat) (k : Sum) (v1 v2 : Value) (w1 : Sum) (s1 : Value) (w2 : Sum) (s2 : Value) (A B : List UInt8) (S T : List Sum) : Prop where
  bw : Below w.heap.size w W
  r : W.rangeAt z 0 (cells17 k v1 v2 w1 s1 w2 s2)
  y1 : BytesAt W v1 A
  y2 : BytesAt W v2 B
  h1 : SumsAt W s1 S
  h2 : SumsAt W s2 T
theorem SW.below {w W W' : World} {z : Nat} {k : Sum} {v1 v2 : Value} {w1 : Sum} {s1 : Value} {w2 : Sum} {s2 : Value} {A B : List UInt8} {S T : List Sum} (h : SW w W z k v1 v2 w1 s1 w2 s2 A B S T) (hb : Below W.heap.size W W') : SW w W' z k v1 v2 w1 s1 w2 s2 A B S T :=
  ⟨h.bw.trans (hb.mono h.bw.size), (Keeps.of_below (X := fun _ => False) hb).range h.r (fun h => h), bytes_below h.y1 hb (Nat.le_refl _), bytes_below h.y2 hb (Nat.le_refl _), h.h1.below hb (Nat.le_refl _), h.h2.below hb (Nat.le_refl _)⟩
theorem SW.z {w W : World} {z : Nat} {k : Sum} {v1 v2 : Value} {w1 : Sum} {s1 : Value} {w2 : Sum} {s2 : Value} {A B : List UInt8} {S T : List Sum} (h : SW w W z k v1 v2 w1 s1 w2 s2 A B S T) : Z17 W z k v1 v2 w1 s1 w2 s2 := z17_of h.r
/-- One map and its pairs in hand. -/
structure M1 (W : World) (p b n : Nat) (l : List Ent) (v : Value) : Prop where
  m : MapIn W p b n l
  a : PairsAt W v (prs l)
theorem M1.below {W W' : World} {p b n : Nat} {l : List Ent} {v : Value} (h : M1 W p b n l v) (hb : Below W.heap.size W W') : M1 W' p b n l v := ⟨h.m.below hb, h.a.below hb⟩
end Go.Proofs.Ytfmgoehnbaiamaa
-- Walk: SplitsTwo.
namespace Go.Proofs.Ytfmgoehnbaiamaa
theorem pairsAt_nil (w : World) : PairsAt w (.slice none 0 0) [] := ⟨none, 0, [], rfl, Nat.le_refl _, by unfold maxLen; omega, rfl, by simp, .inl rfl⟩
/-- What is said, and one more sum, in hand. -/
structure SR (w W : World) (z : Nat) (k : Sum) (v1 v2 : Value) (w1 : Sum) (s1 : Value) (w2 : Sum) (s2 : Value) (A B : List UInt8) (S T : List Sum) (zr : Nat) (root : Sum) : Prop where
  sw : SW w W z k v1 v2 w1 s1 w2 s2 A B S T
  rr : W.rangeAt zr 0 (cellsOf root)
theorem SR.below {w W W' : World} {z : Nat} {k : Sum} {v1 v2 : Value} {w1 : Sum} {s1 : Value} {w2 : Sum} {s2 : Value} {A B : List UInt8} {S T : List Sum} {zr : Nat} {root : Sum} (h : SR w W z k v1 v2 w1 s1 w2 s2 A B S T zr root) (hb : Below W.heap.size W W') : SR w W' z k v1 v2 w1 s1 w2 s2 A B S T zr root :=
  ⟨h.sw.below hb, (Keeps.of_below (X := fun _ => False) hb).range h.rr (fun h => h)⟩
theorem wpList_load_shw_g {ops : Array Oper} {rest : List Oper} {op : Oper} {a : Act} {w : World} {Q : Exit → Act → World → Prop} (hw : Region.wanted op (yielded ops a.tmps) = true) (x : Operand) (ho : op.op = .load 59 x)
    (b o : Nat) (hx : a.eval x = .pointer (some ⟨b, o, none⟩)) (which : Sum) (v : Value) (hc : w.rangeAt b o (cellsShow which v))
    (h : wpList Try.prog ops Q rest (a.put op.dst (shV which v)) w) : wpList Try.prog ops Q (op :: rest) a w :=
  wpList_want hw fun K hK => wp_load_mid _ x ho b o hx (cellsShow which v) _ hc Try.underlying59 rfl (by rw [length_cellsShow]; exact infoShow) (hK _ _ h)
set_option maxRecDepth 100000 in
set_option maxHeartbeats 4000000 in
theorem splitsTwo_any (k w1 w2 root : Sum) (v1 v2 s1 s2 : Value) (A B : List UInt8) (S T : List Sum) (w : World) (h1 : BytesAt w v1 A) (h2 : BytesAt w v2 B) (h3 : SumsAt w s1 S) (h4 : SumsAt w s2 T) (l1 : A.length < 4611686018427387904) (l2 : B.length < 4611686018427387904) (l3 : S.length < 4611686018427387904) (l4 : T.length < 4611686018427387904) :
    Calls Try.prog 17 #[said17 k v1 v2 w1 s1 w2 s2, sv root] w fun e w' => e = .returned (.bool true) ∧ Below w.heap.size w w' := by
  have hb0 := al (al (Below.refl _ w) (.cells (cells17 k v1 v2 w1 s1 w2 s2).toArray 72)) (.cells (cellsOf root).toArray 29)
  have hs1 : (w.alloc (.cells (cells17 k v1 v2 w1 s1 w2 s2).toArray 72)).heap.size = w.heap.size + 1 := World.size_alloc _ _
  obtain ⟨z, hz⟩ : ∃ z, z = w.heap.size := ⟨_, rfl⟩
  obtain ⟨zr, hzr⟩ : ∃ z, z = w.heap.size + 1 := ⟨_, rfl⟩
  have hr0 := World.rangeAt_alloc (range_new w (cells17 k v1 v2 w1 s1 w2 s2).toArray 72 _ rfl) (.cells (cellsOf root).toArray 29)
  have hr1 := range_new (w.alloc (.cells (cells17 k v1 v2 w1 s1 w2 s2).toArray 72)) (cellsOf root).toArray 29 _ rfl
  rw [hs1, ← hzr] at hr1
  rw [← hz] at hr0
  have H0 := Lib.hid (show SR w _ z k v1 v2 w1 s1 w2 s2 A B S T zr root from ⟨⟨hb0, hr0, bytes_below h1 hb0 (Nat.le_refl _), bytes_below h2 hb0 (Nat.le_refl _), h3.below hb0 (Nat.le_refl _), h4.below hb0 (Nat.le_refl _)⟩, hr1⟩)
  have HLN := Lib.hid (And.intro l1 (And.intro l2 (And.intro l3 l4)))
  have HZ := Lib.hid (And.intro hz hzr)
  obtain ⟨a1, n1, c1, rfl⟩ := bytes_form h1
  obtain ⟨a2, n2, c2, rfl⟩ := bytes_form h2
  clear h1 h2 h3 h4 l1 l2 l3 l4 hb0 hr0 hr1 hz hzr hs1
  unfold said17
  go_enter Try.func17, Try.ntmps17
  go_wp2_with (refine wpList_load_said17 rfl _ rfl w.heap.size rfl k (.slice a1 n1 c1) (.slice a2 n2 c2) w1 s1 w2 s2 (by rw [← HZ.out.1]; exact H0.out.sw.r) ?_)
  rw [← HZ.out.2, ← HZ.out.1]
  generalize (w.alloc (.cells (cells17 k (.slice a1 n1 c1) (.slice a2 n2 c2) w1 s1 w2 s2).toArray 72)).alloc (.cells (cellsOf root).toArray 29) = W0 at *
  refine (great17_any [] _ k w1 w2 _ _ s1 s2 A B S T W0 (pairsAt_nil W0) H0.out.sw.y1 H0.out.sw.y2 H0.out.sw.h1 H0.out.sw.h2 HLN.out.1 HLN.out.2.1 HLN.out.2.2.1 HLN.out.2.2.2).mono ?_
  rintro e W1 ⟨r, rfl, hr, hb⟩
  have H1 := Lib.hid (H0.out.below hb)
  clear hb H0
  cases r with
  | true =>
    clear hr
    go_wp2_with fail
    refine (alive17_any _).mono ?_
    rintro e W9 ⟨rfl, hb9⟩
    have HB9 := Lib.hid (H1.out.sw.bw.trans (hb9.mono H1.out.sw.bw.size))
    clear hb9
    go_wp2_with fail
    exact bodyPost_ret (results_tmp rfl _ _ _) rfl ⟨rfl, HB9.out⟩
  | false =>
    have HA := Lib.hid (hr rfl)
    clear hr HLN
    have g1 := H1.out.sw.z.c1
    have g2 := H1.out.sw.z.c2
    go_wp2_with (first
      | (refine wpList_load_sum rfl _ rfl z 0 rfl k H1.out.sw.z.key ?_)
      | (refine wpList_load_shw rfl _ rfl z 34 rfl w1 s1 H1.out.sw.z.sh1 ?_)
      | (refine wpList_load_shw rfl _ rfl z 67 rfl w2 s2 H1.out.sw.z.sh2 ?_))
    clear g1 g2
    refine (stwo_any k w1 w2 _ s1 _ s2 A B S T W1 H1.out.sw.y1 H1.out.sw.h1 (by have := HA.out; omega) (by have := HA.out; omega) H1.out.sw.y2 H1.out.sw.h2 (by have := HA.out; omega) (by have := HA.out; omega)).mono ?_
    rintro e W5 ⟨hA, hb⟩
    have H5 := Lib.hid (H1.out.below hb)
    have ht := fun (h1 : checkOf root k A w1 S = true) (h2 : checkOf root k B w2 T = true) => two_told h1 h2
    have hf : Fine (twoClash k A w1 S B w2 T) := two_fine (by have := HA.out; omega) (by have := HA.out; omega)
    have hne : ∀ q, twoClash k A w1 S B w2 T = some q → A ≠ B := fun q hq => (two_clash (x := q.1) (y := q.2) hq).2
    clear hb H1
    generalize twoClash k A w1 S B w2 T = o at *
    have HT := Lib.hid (And.intro ht hne)
    have HF := Lib.hid hf
    clear ht hf hne
    obtain ⟨va, vb, t, rfl, h1, h2, h3⟩ := ap_form hA
    have H1C := Lib.hid (And.intro h1 (And.intro h2 h3))
    clear hA h1 h2 h3
    have HG := Lib.hid trivial
    have g1 : ∀ W, SR w W z k (.slice a1 n1 c1) (.slice a2 n2 c2) w1 s1 w2 s2 A B S T zr root → W.cell? ⟨z, 32, none⟩ = some (.slice a1 n1 c1) := fun W h => h.sw.z.c1
    have HG1 := Lib.hid g1
    clear g1
    go_wp2_with (first
      | (have _ := HG; refine wpList_var_clash (by rfl) _ _ rfl va vb H1C.out.1 H1C.out.2.1 (by rfl) (by rfl) ?_; intro W6 hb hr; obtain ⟨zc, hzc⟩ : ∃ z, z = W5.heap.size := ⟨_, rfl⟩; rw [← hzc] at hr ⊢; have H6 := Lib.hid (And.intro (H5.out.below hb) (ck_of H1C.out.2.2 hb hr)); have g1 := H6.out.1.sw.z.c1; have g2 := H6.out.1.sw.z.c2; clear HG hb hr hzc H5)
      | (refine wpList_load_sum rfl _ rfl zr 0 rfl root H6.out.1.rr ?_)
      | (refine wpList_load_sum rfl _ rfl z 0 rfl k H6.out.1.sw.z.key ?_)
      | (refine wpList_load_shw rfl _ rfl z 34 rfl w1 s1 H6.out.1.sw.z.sh1 ?_))
    clear g1 g2
    refine (scheck_any root k w1 _ s1 A S W6 H6.out.1.sw.y1 H6.out.1.sw.h1 (by have := HA.out; omega) (by have := HA.out; omega)).mono ?_
    rintro e W7 ⟨rfl, hb⟩
    have H7 := Lib.hid (And.intro (H6.out.1.below hb) (H6.out.2.below hb))
    clear hb H6
    obtain ⟨x1, hx1⟩ : ∃ c, c = checkOf root k A w1 S := ⟨_, rfl⟩
    rw [← hx1]
    have HX1 := Lib.hid hx1
    clear hx1
    cases x1 with
    | false =>
      cases t with
      | false =>
        go_wp2_with fail
        refine (alive17_any _).mono ?_
        rintro e W10 ⟨rfl, hb⟩
        have HB10 := Lib.hid (H7.out.1.sw.bw.trans (hb.mono H7.out.1.sw.bw.size))
        clear hb
        go_wp2_with fail
        exact bodyPost_ret (results_tmp rfl _ _ _) rfl ⟨rfl, HB10.out⟩
      | true =>
        go_wp2_with fail
        refine (alive17_any _).mono ?_
        rintro e W10 ⟨rfl, hb⟩
        have H10 := Lib.hid (And.intro (H7.out.1.below hb) (H7.out.2.below hb))
        clear hb H7
        go_wp2_with (refine wpList_load_clash_g (by rfl) _ rfl zc rfl va vb H10.out.2.r ?_)
        refine (is_ck (zc := zc) H10.out.2 HF.out).mono ?_
        rintro e W11 ⟨rfl, hb⟩
        have H11 := Lib.hid (And.intro (H10.out.1.below hb) (H10.out.2.below hb))
        clear hb H10
        have g1 := H11.out.1.sw.z.c1
        have g2 := H11.out.1.sw.z.c2
        go_wp2_with fail
        clear g1 g2
        have hne : A ≠ B := by
          rcases H11.out.2.told with ⟨h, _⟩ | ⟨_, x, y, h, _⟩
          · cases h
          · exact HT.out.2 (x, y) h
        refine (same_bytes A B _ _ W11 H11.out.1.sw.y1 H11.out.1.sw.y2).mono ?_
        rw [decide_eq_false hne]
        clear hne
        rintro e W12 ⟨rfl, hb⟩
        have HB12 := Lib.hid (H11.out.1.sw.bw.trans (hb.mono H11.out.1.sw.bw.size))
        clear hb H11
        go_wp2_with fail
        exact bodyPost_ret (results_tmp rfl _ _ _) rfl ⟨rfl, HB12.out⟩
    | true =>
      have g2 := H7.out.1.sw.z.c2
      go_wp2_with (first
        | (refine wpList_load_sum_g (by rfl) _ rfl zr 0 rfl root H7.out.1.rr ?_)
        | (refine wpList_load_sum_g (by rfl) _ rfl z 0 rfl k H7.out.1.sw.z.key ?_)
        | (refine wpList_load_shw_g (by rfl) _ rfl z 67 rfl w2 s2 H7.out.1.sw.z.sh2 ?_))
      clear g2
      refine (scheck_any root k w2 _ s2 B T W7 H7.out.1.sw.y2 H7.out.1.sw.h2 (by have := HA.out; omega) (by have := HA.out; omega)).mono ?_
      rintro e W8 ⟨rfl, hb⟩
      have H8 := Lib.hid (And.intro (H7.out.1.below hb) (H7.out.2.below hb))
      clear hb H7
      obtain ⟨x2, hx2⟩ : ∃ c, c = checkOf root k B w2 T := ⟨_, rfl⟩
      rw [← hx2]
      have HX2 := Lib.hid hx2
      clear hx2
      have H7 := H8
      clear H8
      cases x2 with
      | false =>
        cases t with
        | false =>
          go_wp2_with fail
          refine (alive17_any _).mono ?_
          rintro e W10 ⟨rfl, hb⟩
          have HB10 := Lib.hid (H7.out.1.sw.bw.trans (hb.mono H7.out.1.sw.bw.size))
          clear hb
          go_wp2_with fail
          exact bodyPost_ret (results_tmp rfl _ _ _) rfl ⟨rfl, HB10.out⟩
        | true =>
          go_wp2_with fail
          refine (alive17_any _).mono ?_
          rintro e W10 ⟨rfl, hb⟩
          have H10 := Lib.hid (And.intro (H7.out.1.below hb) (H7.out.2.below hb))
          clear hb H7
          go_wp2_with (refine wpList_load_clash_g (by rfl) _ rfl zc rfl va vb H10.out.2.r ?_)
          refine (is_ck (zc := zc) H10.out.2 HF.out).mono ?_
          rintro e W11 ⟨rfl, hb⟩
          have H11 := Lib.hid (And.intro (H10.out.1.below hb) (H10.out.2.below hb))
          clear hb H10
          have g1 := H11.out.1.sw.z.c1
          have g2 := H11.out.1.sw.z.c2
          go_wp2_with fail
          clear g1 g2
          have hne : A ≠ B := by
            rcases H11.out.2.told with ⟨h, _⟩ | ⟨_, x, y, h, _⟩
            · cases h
            · exact HT.out.2 (x, y) h
          refine (same_bytes A B _ _ W11 H11.out.1.sw.y1 H11.out.1.sw.y2).mono ?_
          rw [decide_eq_false hne]
          clear hne
          rintro e W12 ⟨rfl, hb⟩
          have HB12 := Lib.hid (H11.out.1.sw.bw.trans (hb.mono H11.out.1.sw.bw.size))
          clear hb H11
          go_wp2_with fail
          exact bodyPost_ret (results_tmp rfl _ _ _) rfl ⟨rfl, HB12.out⟩
      | true =>
        have ht := HT.out.1 HX1.out.symm HX2.out.symm
        rw [H7.out.2.some] at ht
        obtain ⟨d, hd⟩ : ∃ d, d = decide (A = B) := ⟨_, rfl⟩
        have hsb := same_bytes A B _ _ W8 H7.out.1.sw.y1 H7.out.1.sw.y2
        rw [← hd] at hsb
        have htd : t = !d := by rw [ht, hd]; simp
        have HSB := Lib.hid hsb
        clear hd ht hsb
        subst htd
        have g1 := H7.out.1.sw.z.c1
        have g2 := H7.out.1.sw.z.c2
        cases d with
        | true =>
          go_wp2_with fail
          clear g1 g2
          refine HSB.out.mono ?_
          clear HSB
          rintro e W9 ⟨rfl, hb⟩
          have H9 := Lib.hid (And.intro (H7.out.1.below hb) (H7.out.2.below hb))
          clear hb H7
          have H7 := H9
          clear H9
          go_wp2_with fail
          refine (alive17_any _).mono ?_
          rintro e W10 ⟨rfl, hb⟩
          have HB10 := Lib.hid (H7.out.1.sw.bw.trans (hb.mono H7.out.1.sw.bw.size))
          clear hb
          go_wp2_with fail
          exact bodyPost_ret (results_tmp rfl _ _ _) rfl ⟨rfl, HB10.out⟩
        | false =>
          go_wp2_with fail
          clear g1 g2
          refine HSB.out.mono ?_
          clear HSB
          rintro e W9 ⟨rfl, hb⟩
          have H9 := Lib.hid (And.intro (H7.out.1.below hb) (H7.out.2.below hb))
          clear hb H7
          have H7 := H9
          clear H9
          go_wp2_with fail
          refine (alive17_any _).mono ?_
          rintro e W10 ⟨rfl, hb⟩
          have H10 := Lib.hid (And.intro (H7.out.1.below hb) (H7.out.2.below hb))
          clear hb H7
          go_wp2_with (refine wpList_load_clash_g (by rfl) _ rfl zc rfl va vb H10.out.2.r ?_)
          refine (is_ck (zc := zc) H10.out.2 HF.out).mono ?_
          rintro e W11 ⟨rfl, hb⟩
          have H11 := Lib.hid (And.intro (H10.out.1.below hb) (H10.out.2.below hb))
          clear hb H10
          have g1 := H11.out.1.sw.z.c1
          have g2 := H11.out.1.sw.z.c2
          go_wp2_with fail
          clear g1 g2
          have hne : A ≠ B := by
            rcases H11.out.2.told with ⟨h, _⟩ | ⟨_, x, y, h, _⟩
            · cases h
            · exact HT.out.2 (x, y) h
          refine (same_bytes A B _ _ W11 H11.out.1.sw.y1 H11.out.1.sw.y2).mono ?_
          rw [decide_eq_false hne]
          clear hne
          rintro e W12 ⟨rfl, hb⟩
          have HB12 := Lib.hid (H11.out.1.sw.bw.trans (hb.mono H11.out.1.sw.bw.size))
          clear hb H11
          go_wp2_with fail
          exact bodyPost_ret (results_tmp rfl _ _ _) rfl ⟨rfl, HB12.out⟩
end Go.Proofs.Ytfmgoehnbaiamaa
