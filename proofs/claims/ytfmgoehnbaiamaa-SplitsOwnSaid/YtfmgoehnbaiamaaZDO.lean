/-
  Merged: D21a, D24a.
-/
import Derived.Test.YtfmgoehnbaiamaaZD6
-- What the Splits laws have in common.
open Go Go.RowKit Alm
namespace Go.Proofs.Ytfmgoehnbaiamaa
theorem sums_nil (w : World) : SumsAt w (.slice none 0 0) [] := ⟨none, 0, rfl, by simp, by unfold maxLen; omega, .inl rfl⟩
theorem bytes_nil (w : World) : BytesAt w (.slice none 0 0) [] := ⟨none, 0, rfl, by simp, by unfold maxLen; omega, .inl rfl⟩
theorem may_full {l : List Ent} {W : World} {p b n : Nat} (h : MapIn W p b n l) : May (prs l) := ⟨prs_rise h.rise, fun q hq => (vals_full h q hq).1⟩
theorem small_full {l : List Ent} {W : World} {p b n : Nat} (h : MapIn W p b n l) : Small (prs l) := fun q hq => by have := (vals_full h q hq).2; omega
theorem wpList_load_clash_g {ops : Array Oper} {rest : List Oper} {op : Oper} {a : Act} {w : World} {Q : Exit → Act → World → Prop} (hw : Region.wanted op (yielded ops a.tmps) = true) (x : Operand) (ho : op.op = .load 74 x)
    (b : Nat) (hx : a.eval x = .pointer (some ⟨b, 0, none⟩)) (va vb : Value) (hc : w.rangeAt b 0 [va, vb]) (h : wpList Try.prog ops Q rest (a.put op.dst (.agg #[va, vb])) w) : wpList Try.prog ops Q (op :: rest) a w :=
  wpList_want hw fun K hK => wp_load_mid _ x ho b 0 hx [va, vb] _ hc Try.underlying74 rfl infoClash (hK _ _ h)
/-- What was told, kept. -/
structure CK (W : World) (zc : Nat) (va vb : Value) (o : Option (List UInt8 × List UInt8)) (t : Bool) : Prop where
  r : W.rangeAt zc 0 [va, vb]
  told : (t = false ∧ o = none) ∨ (t = true ∧ ∃ x y, o = some (x, y) ∧ BytesAt W va x ∧ BytesAt W vb y)
theorem CK.below {W W' : World} {zc : Nat} {va vb : Value} {o : Option (List UInt8 × List UInt8)} {t : Bool} (h : CK W zc va vb o t) (hb : Below W.heap.size W W') : CK W' zc va vb o t := by
  refine ⟨(Keeps.of_below (X := fun _ => False) hb).range h.r (fun h => h), ?_⟩
  rcases h.told with h | ⟨h1, x, y, h2, h3, h4⟩
  · exact .inl h
  · exact .inr ⟨h1, x, y, h2, bytes_below h3 hb (Nat.le_refl _), bytes_below h4 hb (Nat.le_refl _)⟩
theorem CK.some {W : World} {zc : Nat} {va vb : Value} {o : Option (List UInt8 × List UInt8)} {t : Bool} (h : CK W zc va vb o t) : o.isSome = t := by
  rcases h.told with ⟨h1, h2⟩ | ⟨h1, x, y, h2, _⟩
  · rw [h1, h2]; rfl
  · rw [h1, h2]; rfl
theorem is_ck {W : World} {zc : Nat} {va vb : Value} {o : Option (List UInt8 × List UInt8)} (h : CK W zc va vb o true) (hf : Fine o) : Calls Try.prog 45 #[.agg #[va, vb]] W fun e w' => e = .returned (.bool true) ∧ Below W.heap.size W w' := by
  rcases h.told with ⟨h1, _⟩ | ⟨_, x, y, h2, h3, h4⟩
  · cases h1
  · have := hf x y h2
    exact is17_any x y va vb W h3 h4 this.1 this.2.1 this.2.2
/-- What a teller answers, as it is kept. -/
theorem ap_form {W : World} {o : Option (List UInt8 × List UInt8)} {e : Ending} (h : AP W o e) : ∃ va vb t, e = .returned (.tuple #[.agg #[va, vb], .bool t]) ∧ va.oneCell' = true ∧ vb.oneCell' = true ∧ ((t = false ∧ o = none) ∨ (t = true ∧ ∃ x y, o = some (x, y) ∧ BytesAt W va x ∧ BytesAt W vb y)) := by
  cases o with
  | none => exact ⟨_, _, _, h, rfl, rfl, .inl ⟨rfl, rfl⟩⟩
  | some q =>
    obtain ⟨x, y⟩ := q
    obtain ⟨va, vb, he, h1, h2⟩ := h
    refine ⟨va, vb, _, he, ?_, ?_, .inr ⟨rfl, x, y, rfl, h1, h2⟩⟩
    · obtain ⟨a, n, c, rfl⟩ := bytes_form h1; rfl
    · obtain ⟨a, n, c, rfl⟩ := bytes_form h2; rfl
theorem ck_of {W W' : World} {zc : Nat} {va vb : Value} {o : Option (List UInt8 × List UInt8)} {t : Bool} (h : (t = false ∧ o = none) ∨ (t = true ∧ ∃ x y, o = some (x, y) ∧ BytesAt W va x ∧ BytesAt W vb y)) (hb : Below W.heap.size W W') (hr : W'.rangeAt zc 0 [va, vb]) : CK W' zc va vb o t := by
  refine ⟨hr, ?_⟩
  rcases h with h | ⟨h1, x, y, h2, h3, h4⟩
  · exact .inl h
  · exact .inr ⟨h1, x, y, h2, bytes_below h3 hb (Nat.le_refl _), bytes_below h4 hb (Nat.le_refl _)⟩
theorem zero17v : Value.agg Try.zeroCells72 = said17 zeroSum (.slice none 0 0) (.slice none 0 0) zeroSum (.slice none 0 0) zeroSum (.slice none 0 0) := by kernel_rfl
/-- Two maps and their pairs in hand. -/
structure M2 (w W : World) (p b n : Nat) (l : List Ent) (v : Value) (p' b' n' : Nat) (l' : List Ent) (v' : Value) : Prop where
  bw : Below w.heap.size w W
  m1 : MapIn W p b n l
  a1 : PairsAt W v (prs l)
  m2 : MapIn W p' b' n' l'
  a2 : PairsAt W v' (prs l')
theorem M2.below {w W W' : World} {p b n : Nat} {l : List Ent} {v : Value} {p' b' n' : Nat} {l' : List Ent} {v' : Value} (h : M2 w W p b n l v p' b' n' l' v') (hb : Below W.heap.size W W') : M2 w W' p b n l v p' b' n' l' v' :=
  ⟨h.bw.trans (hb.mono h.bw.size), h.m1.below hb, h.a1.below hb, h.m2.below hb, h.a2.below hb⟩
end Go.Proofs.Ytfmgoehnbaiamaa
-- Walk: SplitsOwn.
namespace Go.Proofs.Ytfmgoehnbaiamaa
/-- Nothing is told of pairs twice over. -/
theorem twice_none (l : List Keys.Pr) (k which : Sum) (S : List Sum) : showClash (l ++ l) k (Keys.get l k) which S = none := by
  cases l with
  | nil => exact show_same k which S
  | cons p r =>
    unfold showClash
    cases leadsTo which S with
    | none => rfl
    | some T =>
      have hno : ¬ May ((p :: r) ++ (p :: r)) := fun h => by
        have h1 := (List.pairwise_cons.1 h.1).1 p (by simp)
        omega
      simp only [if_neg (fun h : May ((p :: r) ++ (p :: r)) ∧ _ ∧ _ => hno h.1)]
/-- A map, its pairs, a key, and what was got of it, in hand. -/
structure OW (w W : World) (p b n : Nat) (l : List Ent) (x : Value) (zr : Nat) (k : Sum) (B : List (Value × List UInt8)) (H : List (Nat × Sum × Value × List Sum)) : Prop where
  lw : LW w W p b n l [(zr, k)] B H
  a : PairsAt W x (prs l)
theorem OW.below {w W W' : World} {p b n : Nat} {l : List Ent} {x : Value} {zr : Nat} {k : Sum} {B : List (Value × List UInt8)} {H : List (Nat × Sum × Value × List Sum)} (h : OW w W p b n l x zr k B H) (hb : Below W.heap.size W W') : OW w W' p b n l x zr k B H := ⟨h.lw.below hb, h.a.below hb⟩
set_option maxRecDepth 100000 in
set_option maxHeartbeats 4000000 in
theorem splitsOwn_any (P : List Keys.Pr) (v : Value) (k : Sum) (w : World) (hv : PairsAt w v P) : Calls Try.prog 18 #[v, sv k] w fun e w' => e = .returned (.bool true) ∧ Below w.heap.size w w' := by
  have hb0 := al (Below.refl _ w) (.cells (cellsOf k).toArray 29)
  obtain ⟨zr, hz⟩ : ∃ z, z = w.heap.size := ⟨_, rfl⟩
  have hr0 : (w.alloc (.cells (cellsOf k).toArray 29)).rangeAt zr 0 (cellsOf k) := by rw [hz]; exact range_new w (cellsOf k).toArray 29 _ rfl
  have H0 := Lib.hid (And.intro hb0 (And.intro hr0 (hv.below hb0)))
  have HZ := Lib.hid hz
  obtain ⟨aa, ca, rfl, _, _⟩ := pairs_form hv
  clear hv hb0 hr0 hz
  obtain ⟨N, hN⟩ : ∃ N, N = P.length := ⟨_, rfl⟩
  rw [← hN] at H0
  rw [← hN]
  have HN := Lib.hid hN
  clear hN
  go_enter Try.func18, Try.ntmps18
  go_wp2_with fail
  rw [zero17v, ← HZ.out]
  generalize w.alloc (.cells (cellsOf k).toArray 29) = W0 at *
  refine (great17_any P _ _ _ _ _ _ _ _ [] [] [] [] W0 H0.out.2.2 (bytes_nil W0) (bytes_nil W0) (sums_nil W0) (sums_nil W0) (by simp) (by simp) (by simp) (by simp)).mono ?_
  rintro e W1 ⟨r, rfl, hr, hb⟩
  have H1 := Lib.hid (And.intro (H0.out.1.trans (hb.mono H0.out.1.size)) (And.intro ((Keeps.of_below (X := fun _ => False) hb).range H0.out.2.1 (fun h => h)) (H0.out.2.2.below hb)))
  clear hb H0
  cases r with
  | true =>
    clear hr
    go_wp2_with fail
    refine (alive17_any _).mono ?_
    rintro e W9 ⟨rfl, hb9⟩
    have HB9 := Lib.hid (H1.out.1.trans (hb9.mono H1.out.1.size))
    clear hb9
    go_wp2_with fail
    exact bodyPost_ret (results_tmp rfl _ _ _) rfl ⟨rfl, HB9.out⟩
  | false =>
    have HA := Lib.hid (hr rfl).1
    clear hr
    go_wp2_with fail
    refine (of17_any P _ W1 H1.out.2.2 (by have := HA.out; omega)).mono ?_
    rintro e W3 ⟨p, b, l, x, rfl, hm, hp, hx, _, hbb, _, hb⟩
    have hl := puts_few hp (by have := HA.out; omega)
    rw [← HN.out] at hm
    have H3 := Lib.hid (show OW w W3 p b N l x zr k [] [] from ⟨⟨H1.out.1.trans (hb.mono H1.out.1.size), hm, by have := H1.out.1.size; omega, fun q hq => by rw [List.mem_singleton.1 hq]; exact (Keeps.of_below (X := fun _ => False) hb).range H1.out.2.1 (fun h => h), by simp, by simp⟩, hx⟩)
    have hlp : (prs l).length ≤ 16 := by simpa [prs] using hl
    have HL := Lib.hid (And.intro hl hlp)
    clear hb H1 hm hp hx hl hlp
    obtain ⟨ax, nx, cx, rfl⟩ : ∃ a n c, x = .slice a n c := by
      obtain ⟨a, c, h, _⟩ := pairs_form H3.out.a
      exact ⟨a, _, c, h⟩
    go_wp2_with (refine wpList_load_sum rfl _ rfl zr 0 rfl k (H3.out.lw.r (zr, k) (by simp)) ?_)
    refine (mget_any k W3 p b N l H3.out.lw.map).mono ?_
    rintro e W4 ⟨v3, rfl, hN3, hb⟩
    obtain ⟨bs3, hbs3⟩ : ∃ x, x = Keys.get (prs l) k := ⟨_, rfl⟩
    rw [← hbs3] at hN3
    have hbl : bs3.length ≤ 256 := by rw [hbs3]; exact get_len (vals_full H3.out.lw.map) k
    have HBS := Lib.hid (And.intro hbs3 hbl)
    obtain ⟨a3, n3, c3, rfl⟩ := bytes_form hN3.1
    have H4 := Lib.hid (show OW w W4 p b N l (.slice ax nx cx) zr k [(.slice a3 n3 c3, bs3)] [] from ⟨(H3.out.below hb).lw.addY hN3.1, (H3.out.below hb).a⟩)
    clear hb H3 hN3 hbs3 hbl
    go_wp2_with (refine wpList_load_sum rfl _ rfl zr 0 rfl k (H4.out.lw.r (zr, k) (by simp)) ?_)
    refine (sof_any k W4 p b N l H4.out.lw.map (by have := HL.out.1; omega)).mono ?_
    rintro e W5 ⟨which, vS, rfl, hS4, hB4, hb⟩
    obtain ⟨S, hS⟩ : ∃ S, S = sidesOf (tells k 256 (prs l)) := ⟨_, rfl⟩
    have hle := length_sides k 256 (prs l)
    rw [← hS] at hle
    have hsm := hS4.sums
    rw [← hS] at hsm
    obtain ⟨aS, cS, rfl, _, _⟩ := sums_form hsm
    obtain ⟨M, hM⟩ : ∃ M, M = S.length := ⟨_, rfl⟩
    rw [← hM] at hsm hle
    rw [← hM]
    have HM := Lib.hid (And.intro hM hle)
    have H5 := Lib.hid (And.intro (H4.out.below hb) hsm)
    clear hS4 hB4 hb hS hle hM hsm H4
    have HG := Lib.hid trivial
    obtain ⟨SS, hSS⟩ : ∃ q : Nat → List (Nat × Sum × Value × List Sum), q = fun z9 => [(z9, which, (.slice aS M cS : Value), S)] := ⟨_, rfl⟩
    have HSS := Lib.hid hSS
    clear hSS
    go_wp2_with (have _ := HG; refine wpList_var_show (by rfl) rfl _ _ rfl which (.slice aS M cS) (by rfl) rfl rfl ?_; intro W6 hb hr; obtain ⟨z9, hz9⟩ : ∃ x, x = W5.heap.size := ⟨_, rfl⟩; rw [← hz9] at hr ⊢; have H6 := Lib.hid (show OW w W6 p b N l (.slice ax nx cx) zr k [(.slice a3 n3 c3, bs3)] (SS z9) from ⟨by rw [HSS.out]; exact (H5.out.1.below hb).lw.addS hr (H5.out.2.below hb (Nat.le_refl _)), (H5.out.1.below hb).a⟩); clear HG hb hr hz9 H5)
    have hsh : ∀ W, OW w W p b N l (.slice ax nx cx) zr k [(.slice a3 n3 c3, bs3)] (SS z9) → W.rangeAt z9 0 (cellsShow which (.slice aS M cS)) ∧ SumsAt W (.slice aS M cS) S ∧ BytesAt W (.slice a3 n3 c3) bs3 ∧ W.rangeAt zr 0 (cellsOf k) := fun W h => ⟨(h.lw.s (z9, which, .slice aS M cS, S) (by rw [HSS.out]; simp)).1, (h.lw.s (z9, which, .slice aS M cS, S) (by rw [HSS.out]; simp)).2, h.lw.y (.slice a3 n3 c3, bs3) (by simp), h.lw.r (zr, k) (by simp)⟩
    have HSH := Lib.hid hsh
    clear hsh
    refine (smaps_any (prs l) (prs l) _ _ W6 H6.out.a H6.out.a (by have := HL.out.2; omega) (by have := HL.out.2; omega) (small_full H6.out.lw.map) (small_full H6.out.lw.map)).mono ?_
    rw [maps_same (may_full H6.out.lw.map)]
    rintro e W7 ⟨hA, hb⟩
    obtain rfl := hA
    have H7 := Lib.hid (H6.out.below hb)
    clear hb H6
    have HG := Lib.hid trivial
    go_wp2_with (first
      | (have _ := HG; refine wpList_var_clash (by rfl) _ _ rfl (.slice none 0 0) (.slice none 0 0) rfl rfl (by rfl) (by rfl) ?_; intro W8 hb hr; have H8 := Lib.hid (H7.out.below hb); clear HG hb hr H7)
      | (refine wpList_load_sum rfl _ rfl zr 0 rfl k (HSH.out _ H8.out).2.2.2 ?_)
      | (refine wpList_load_shw rfl _ rfl z9 0 rfl which (.slice aS M cS) (HSH.out _ H8.out).1 ?_))
    have hc := sshow_any (prs l) (.slice ax nx cx) k which (.slice a3 n3 c3) (.slice aS M cS) bs3 S W8 H8.out.a (by have := HL.out.2; omega) (small_full H8.out.lw.map) (HSH.out _ H8.out).2.2.1 (HSH.out _ H8.out).2.1 (by have := HM.out; have := HL.out; omega) (by have := HBS.out.2; omega)
    have hsm := show_same (l := prs l) k which S
    rw [← HBS.out.1] at hsm
    rw [hsm] at hc
    refine hc.mono ?_
    clear hc hsm
    rintro e W9 ⟨hA, hb⟩
    obtain rfl := hA
    have H9 := Lib.hid (H8.out.below hb)
    clear hb H8
    have HG := Lib.hid trivial
    go_wp2_with (first
      | (have _ := HG; refine wpList_var_clash (by rfl) _ _ rfl (.slice none 0 0) (.slice none 0 0) rfl rfl (by rfl) (by rfl) ?_; intro W10 hb hr; have H10 := Lib.hid (H9.out.below hb); clear HG hb hr H9)
      | (refine wpList_load_sum rfl _ rfl zr 0 rfl k (HSH.out _ H10.out).2.2.2 ?_)
      | (refine wpList_load_shw rfl _ rfl z9 0 rfl which (.slice aS M cS) (HSH.out _ H10.out).1 ?_))
    refine (stwo_any k which which (.slice a3 n3 c3) (.slice aS M cS) (.slice a3 n3 c3) (.slice aS M cS) bs3 bs3 S S W10 (HSH.out _ H10.out).2.2.1 (HSH.out _ H10.out).2.1 (by have := HM.out; have := HL.out; omega) (by have := HBS.out.2; omega) (HSH.out _ H10.out).2.2.1 (HSH.out _ H10.out).2.1 (by have := HM.out; have := HL.out; omega) (by have := HBS.out.2; omega)).mono ?_
    rw [two_same]
    rintro e W11 ⟨hA, hb⟩
    obtain rfl := hA
    have H11 := Lib.hid (H10.out.below hb)
    clear hb H10
    have HG := Lib.hid trivial
    have HG2 := Lib.hid (show (0 : Nat) = 0 from rfl)
    have hpl : RowKit.Hid (∀ W, OW w W p b N l (.slice ax nx cx) zr k [(.slice a3 n3 c3, bs3)] (SS z9) → PairsAt W (.slice ax nx cx) (prs l)) := Lib.hid fun W h => h.a
    go_wp2_with (first
      | (have _ := HG; refine wpList_var_clash (by rfl) _ _ rfl (.slice none 0 0) (.slice none 0 0) rfl rfl (by rfl) (by rfl) ?_; intro W12 hb hr; have H12 := Lib.hid (H11.out.below hb); clear HG hb hr H11)
      | (have _ := HG2; at_builtin; refine wpList_app_pairs (W0 := W12) rfl _ _ rfl (Below.refl _ _) (.slice none 0 0) _ [] (prs l) rfl (pairs_nil _ _) (fun c hc => (List.not_mem_nil hc).elim) rfl H12.out.a (by have := HL.out; simp only [List.length_nil]; omega) ?_; intro a7 c7 V7 cs7 ho7 hE7 hm7 hb7; simp only [List.map_nil, List.nil_append] at hm7; have hl7 : cs7.length ≤ 16 := (by have h := congrArg List.length hm7; rw [List.length_map] at h; rw [h]; exact HL.out.2); obtain ⟨L7, hL7⟩ : ∃ x, x = cs7.length := ⟨_, rfl⟩; rw [← hL7]; have H7 := Lib.hid (And.intro ho7 (And.intro hE7 (And.intro hm7 (And.intro hb7 (And.intro hl7 hL7))))); clear HG2 ho7 hE7 hm7 hb7 hl7 hL7)
      | (at_builtin; refine wpList_app_pairs (W0 := W12) rfl _ _ rfl H7.out.2.2.2.1 (.slice a7 L7 c7) _ cs7 (prs l) rfl (by rw [H7.out.2.2.2.2.2]; exact H7.out.1) H7.out.2.1 rfl H12.out.a (by have := HL.out.2; have := H7.out.2.2.2.2.1; omega) ?_; intro a8 c8 V8 cs8 ho8 hE8 hm8 hb8; rw [H7.out.2.2.1] at hm8; have hQ := pairs_own ho8 hE8 hb8 hm8; obtain ⟨L8, hL8⟩ : ∃ x, x = cs8.length := ⟨_, rfl⟩; rw [← hL8] at hQ ⊢; have H8 := Lib.hid (And.intro hQ (H12.out.below hb8)); clear ho8 hE8 hm8 hb8 hQ hL8 H7)
      | (refine wpList_load_sum rfl _ rfl zr 0 rfl k (HSH.out _ H8.out.2).2.2.2 ?_)
      | (refine wpList_load_shw rfl _ rfl z9 0 rfl which (.slice aS M cS) (HSH.out _ H8.out.2).1 ?_))
    have hsmm : Small (prs l ++ prs l) := fun q hq => (List.mem_append.1 hq).elim (small_full H8.out.2.lw.map q) (small_full H8.out.2.lw.map q)
    have hc := sshow_any (prs l ++ prs l) (.slice a8 L8 c8) k which (.slice a3 n3 c3) (.slice aS M cS) bs3 S V8 H8.out.1 (by rw [List.length_append]; have := HL.out.2; omega) hsmm (HSH.out _ H8.out.2).2.2.1 (HSH.out _ H8.out.2).2.1 (by have := HM.out; have := HL.out; omega) (by have := HBS.out.2; omega)
    have hsm := twice_none (prs l) k which S
    rw [← HBS.out.1] at hsm
    rw [hsm] at hc
    refine hc.mono ?_
    clear hc hsm hsmm
    rintro e W13 ⟨hA, hb⟩
    obtain rfl := hA
    have H13 := Lib.hid (H8.out.2.below hb)
    clear hb H8
    have HG := Lib.hid trivial
    go_wp2_with (have _ := HG; refine wpList_var_clash (by rfl) _ _ rfl (.slice none 0 0) (.slice none 0 0) rfl rfl (by rfl) (by rfl) ?_; intro W14 hb hr; have H14 := Lib.hid (H13.out.below hb); clear HG hb hr H13)
    refine (alive17_any _).mono ?_
    rintro e W15 ⟨rfl, hb⟩
    have HB15 := Lib.hid (H14.out.lw.bw.trans (hb.mono H14.out.lw.bw.size))
    clear hb
    go_wp2_with fail
    exact bodyPost_ret (results_tmp rfl _ _ _) rfl ⟨rfl, HB15.out⟩
end Go.Proofs.Ytfmgoehnbaiamaa
